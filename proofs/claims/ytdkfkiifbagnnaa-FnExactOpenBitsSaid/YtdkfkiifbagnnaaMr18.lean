/- Ranges over functions: the rule for the loop at a function's top level. -/
import Derived.Test.YtdkfkiifbagnnaaMr17
import Derived.RangeFuncRecord
namespace Go.Mr
open Go.RowKit Go.Pu

section
variable {P : Program} {w w' : World} {H0 H Hs : GH} {w0 : World} {l l0 T : List MO} {N : Nat} {f : Fm}

theorem St.rot {o : MO} (h : St H0 w0 H w (o :: l)) : St H0 w0 H w (l ++ [o]) := by
  have key : ∀ (i : Nat) (x : MO), (l ++ [o])[i]? = some x → (o :: l)[if i < l.length then i + 1 else 0]? = some x ∧ i ≤ l.length := by
    intro i x hx
    rw [List.getElem?_append] at hx
    by_cases hi : i < l.length
    · rw [if_pos hi] at hx ⊢; exact ⟨by simpa using hx, by omega⟩
    · rw [if_neg hi] at hx ⊢
      have h0 : i - l.length = 0 := by
        rcases Nat.eq_zero_or_pos (i - l.length) with h | h
        · exact h
        · rw [List.getElem?_eq_none (by simp; omega)] at hx; cases hx
      rw [h0] at hx; exact ⟨by simpa using hx, by omega⟩
  refine ⟨h.run, fun i x hx => h.ok _ x (key i x hx).1, fun i x b hx => h.out _ x b (key i x hx).1, fun i j x y b hx hy h1 h2 => ?_⟩
  have e := h.dis _ _ x y b (key i x hx).1 (key j y hy).1 h1 h2
  have := (key i x hx).2; have := (key j y hy).2
  split at e <;> split at e <;> omega
theorem St.rawPush (h : St H0 w0 H w l) (obj : Obj) : St H0 w0 H (w.alloc obj) (l ++ [.raw w.heap.size obj]) :=
  (h.push (.raw w.heap.size obj) obj ⟨heap_alloc_new w obj, h.size⟩ (fun b hb => by simpa [MO.blk] using hb.symm)).rot
theorem putObj_grown (w : World) (b : Nat) (o : Obj) : w.grownBy (w.putObj b o) (some b) := ⟨rfl, rfl, rfl, by simp, fun k _ hk => World.putObj_heap_other (fun e => hk (by rw [e]))⟩
theorem St.rawPut {i b : Nat} {o : Obj} (o' : Obj) (h : St H0 w0 H w l) (hi : l[i]? = some (.raw b o)) : St H0 w0 H (w.putObj b o') (l.set i (.raw b o')) := by
  have hok := h.ok i _ hi
  exact h.upd hi (putObj_grown w b o') (Nat.le_refl _) ⟨World.putObj_heap_same (Array.getElem?_eq_some_iff.1 hok.1).1, hok.2⟩ (fun b' hb => .inl hb)
theorem St.rawAt {i b : Nat} {o : Obj} (h : St H0 w0 H w l) (hi : l[i]? = some (.raw b o)) : w.heap[b]? = some o := (h.ok i _ hi).1

/-- a state that says the same whatever else lies beside it -/
def NJ (Hs H0 : GH) (w0 : World) (J : List MO → World → Prop) : Prop :=
  ∀ T W, J T W → ∃ H l0, St H0 w0 H W (l0 ++ T) ∧ Inc Hs H ∧ ∀ T' W', St H0 w0 H W' (l0 ++ T') → J T' W'
variable {J : List MO → World → Prop}
theorem NJ.sl (n : NJ Hs H0 w0 J) (h : J T w) : Sl Hs w := let ⟨_, _, S, i, _⟩ := n _ _ h; fun b o hb => S.sl b o (i b o hb)
theorem NJ.push (n : NJ Hs H0 w0 J) (h : J T w) (obj : Obj) : J (T ++ [.raw w.heap.size obj]) (w.alloc obj) := by
  obtain ⟨H, l0, S, _, k⟩ := n _ _ h
  refine k _ _ ?_
  rw [← List.append_assoc]; exact S.rawPush obj
theorem NJ.at1 (n : NJ Hs H0 w0 J) {b : Nat} {o : Obj} (h : J (.raw b o :: T) w) : w.heap[b]? = some o := by
  obtain ⟨H, l0, S, _, k⟩ := n _ _ h
  exact S.rawAt (i := l0.length) (by simp)
theorem NJ.at2 (n : NJ Hs H0 w0 J) {a : MO} {b : Nat} {o : Obj} (h : J (a :: .raw b o :: T) w) : w.heap[b]? = some o := by
  obtain ⟨H, l0, S, _, k⟩ := n _ _ h
  exact S.rawAt (i := l0.length + 1) (by simp)
theorem NJ.put1 (n : NJ Hs H0 w0 J) {b : Nat} {o : Obj} (o' : Obj) (h : J (.raw b o :: T) w) : J (.raw b o' :: T) (w.putObj b o') := by
  obtain ⟨H, l0, S, _, k⟩ := n _ _ h
  have := S.rawPut (i := l0.length) o' (b := b) (o := o) (by simp)
  exact k _ _ (by simpa using this)
theorem St.put2 {a : MO} {b : Nat} {o : Obj} (o' : Obj) (S : St H0 w0 H w (l0 ++ (a :: .raw b o :: T))) : St H0 w0 H (w.putObj b o') (l0 ++ (a :: .raw b o' :: T)) := by
  have := S.rawPut (i := l0.length + 1) o' (b := b) (o := o) (by simp)
  simpa [List.set_append] using this
theorem NJ.put2 (n : NJ Hs H0 w0 J) {a : MO} {b : Nat} {o : Obj} (o' : Obj) (h : J (a :: .raw b o :: T) w) : J (a :: .raw b o' :: T) (w.putObj b o') := by
  obtain ⟨H, l0, S, _, k⟩ := n _ _ h
  exact k _ _ (S.put2 o')
theorem NJ.drop2 (n : NJ Hs H0 w0 J) {a b : MO} (h : J (a :: b :: T) w) : J (a :: T) w := by
  obtain ⟨H, l0, S, _, k⟩ := n _ _ h
  have := S.drop (l0.length + 1)
  refine k _ _ ?_
  rw [List.eraseIdx_append_of_length_le (by omega)] at this
  simpa using this
/-- the block of a loop's marks is shut -/
theorem St.shut {D : Nat} {o : Obj} (S : St H0 w0 H w (l ++ [.raw D o])) (o' : Obj) : St H0 w0 H (w.putObj D o') l := by
  have h1 := S.rawPut (i := l.length) o' (b := D) (o := o) (by simp)
  have h2 := h1.drop l.length
  rw [List.set_append_right _ _ (Nat.le_refl _), List.eraseIdx_append_of_length_le (Nat.le_refl _)] at h2
  simpa using h2
theorem St.shutAt {D : Nat} {o : Obj} (S : St H0 w0 H w (l ++ [.raw D o])) : w.heap[D]? = some o := S.rawAt (i := l.length) (by simp)

@[reducible] def iterPost (K : Nat → World → Prop) (Kx : World → Prop) (n : Nat) : Ending → World → Prop := fun e W' => (∃ v, e = .returned v) ∧ (K n W' ∨ Kx W')
/-- a function value that yields L, one behind another, where what Hs says stays -/
def IterOk {A : Type} (P : Program) (Hs : GH) (gf : Nat) (lb : Array Value) (encs : A → List Value) (L : List A) : Prop :=
  ∀ (l : Nat) (K : Nat → World → Prop) (Kx : World → Prop) (W : World), (∀ j W, K j W → Sl Hs W) →
    (∀ j x W1, L[j]? = some x → K j W1 → ∀ n, YieldAt Fence.wide n P l (encs x).toArray W1 fun e W' => (e = .returned (.bool true) ∧ K (j + 1) W') ∨ (e = .returned (.bool false) ∧ Kx W')) →
    K 0 W → Calls P gf (#[.func (.yield l) #[] #[]] ++ lb) W (iterPost K Kx L.length)

def setF : Fm → List Nat → List Value → Fm
  | f, p :: ps, v :: vs => setF (upd f p v) ps vs
  | f, _, _ => f
theorem Fr.setF : ∀ (ps : List Nat) (vs : List Value) {a : Act} {f : Fm}, Fr (δ := []) N a f → ps.all (Nat.blt · N) = true →
    Fr (δ := []) N { tmps := (ps.zip vs).foldl (fun t p => t.setIfInBounds p.1 p.2) a.tmps, defers := [] } (setF f ps vs)
  | [], vs, a, f, h, _ => by
    have : a.defers = [] := h.dfr
    simpa [Mr.setF] using (⟨rfl, h.sz, h.val⟩ : Fr (δ := []) N { tmps := a.tmps, defers := [] } f)
  | p :: ps, [], a, f, h, _ => by simpa [Mr.setF] using (⟨rfl, h.sz, h.val⟩ : Fr (δ := []) N { tmps := a.tmps, defers := [] } f)
  | p :: ps, v :: vs, a, f, h, hp => by
    simp only [List.all_cons, Bool.and_eq_true] at hp
    have h1 := Fr.setF ps vs (h.put (nblt hp.1) v) hp.2
    simpa [Mr.setF, Act.put] using h1

@[reducible] def rndQ {S X : Type} (id : Nat) (J : List MO → S → World → Prop) (E : List MO → X → World → Prop) (T : List MO) (o : Lp S X) : FQ := fun e _ W =>
  match o with
  | .nx s => e = .normal ∧ J T s W
  | .bk s => e = .exit id ∧ J T s W
  | .rt x => e = .ret ∧ E T x W
end

theorem FT.range {P : Program} {N id : Nat} {g : Operand} {ps : Array Tmp} {assign body : Code} {Q : Exit → Act → World → Prop} {f : Fm} {w : World} {gf : Nat} {lb : Array Value}
    {A B S X : Type} {Hs H0 : GH} {w0 : World} {L : List A} {pj : A → B} {encs : A → List Value} {rb : Nat → B → S → Option (Lp S X)} {s0 : S} {q : Rs S X}
    (hg : ev f g = .func (.func gf) #[] lb) (eg : ∀ args w, (callFunc gf args).run P w = .ok (.enter gf args) w) (hit : IterOk P Hs gf lb encs L)
    (hlt : ps.toList.all (Nat.blt · N) = true) (hps : ∀ a, (encs a).length = ps.size)
    (J : List MO → S → World → Prop) (E : List MO → X → World → Prop) (nJ : ∀ s, NJ Hs H0 w0 (J · s)) (nE : ∀ x, NJ Hs H0 w0 (E · x))
    (h0 : J [] s0 w) (hq : forL (L.map pj) rb s0 = some q)
    (hrnd : ∀ (l i : Nat) (T T' : List MO) (a : A) (s : S) (W : World) (o : Lp S X), L[i]? = some a → J T s W → rb i (pj a) s = some o →
      FW (ρ := some l) (δ := []) P N assign (fun e f1 W1 => e = .normal ∧ ∃ H l0, St H0 w0 H W1 (l0 ++ T) ∧
        ∀ W2, St H0 w0 H W2 (l0 ++ T') → FW (ρ := some l) (δ := []) P N body (rndQ id J E T' o) f1 W2) (setF f ps.toList (encs a)) W)
    (hgo : ∀ D s, q = .go s → ∀ W, J [.raw D (.deferred (some []))] s W → ∀ a, Fr (δ := [D]) N a f → Q .normal a W)
    (hrt : ∀ D x, q = .rt x → ∀ W, E [.raw D (.deferred (some []))] x W → ∀ a, Fr (δ := [D]) N a f → Q .ret a W) :
    FT (δ := []) P N (.block id (.rangeFunc g ps assign body)) Q f w := by
  intro a ha
  have had : a.defers = [] := ha.dfr
  refine wpIn_block (wpIn_rangeFunc ?_)
  intro fn _
  obtain ⟨rec, hrec⟩ : ∃ rec : LoopState → Option Code → Loop, rec = fun st pe => { state := st, pending := pe, fn, tmps := a.tmps, params := ps, assign, body, defers := w.heap.size } := ⟨_, rfl⟩
  refine ⟨w.heap.size + 1, [dmark w.heap.size], (w.alloc (.deferred (some []))).alloc (.loop (rec .ready none)), { target := .fn (.func gf) lb, args := #[.func (.yield (w.heap.size + 1)) #[] #[]] },
    (w.alloc (.deferred (some []))).alloc (.loop (rec .ready none)), gf, #[.func (.yield (w.heap.size + 1)) #[] #[]] ++ lb, (w.alloc (.deferred (some []))).alloc (.loop (rec .ready none)), ?_, ?_, fun _ _ => trivial, ?_, (fun h => nomatch h), ?_⟩
  · rw [hrec]; exact run_enterLoop_outer _ _ _ _ _
  · have hge : a.eval g = .func (.func gf) #[] lb := by rw [ha.eval]; exact hg
    simp only [resolve, hge]
    simp [go_sem]
  · simp [invoke, go_sem, eg]
  have hfr : Fr (δ := [w.heap.size]) N { a with defers := [dmark w.heap.size] ++ a.defers } f := ⟨by rw [had]; rfl, ha.sz, ha.val⟩
  generalize hD : w.heap.size = D at *
  have J1 : J [.raw D (.deferred (some [])), .raw (D + 1) (.loop (rec .ready none))] s0 ((w.alloc (.deferred (some []))).alloc (.loop (rec .ready none))) := by
    have h1 := (nJ s0).push h0 (.deferred (some []))
    have h2 := (nJ s0).push h1 (.loop (rec .ready none))
    simpa [hD] using h2
  have endL : ∀ (st : LoopState) (pe : Option Code) (W : World), st ≠ .busy → W.heap[D + 1]? = some (.loop (rec st pe)) → (Instr.endLoop (D + 1)).run P W = .ok pe (W.putObj (D + 1) (.loop { rec st pe with state := .exhausted })) := fun st pe W hb hW => by
    have := run_endLoop (P := P) hW (by rw [hrec]; exact hb)
    rw [this, hrec]
  refine callsIn_wide.2 ((hit (D + 1) (fun j W => ∃ s, J [.raw D (.deferred (some [])), .raw (D + 1) (.loop (rec .ready none))] s W ∧ forLFrom rb ((L.map pj).drop j) j s = some q)
    (fun W => (∃ s, q = .go s ∧ J [.raw D (.deferred (some [])), .raw (D + 1) (.loop (rec .done (some (.exit id))))] s W) ∨ (∃ x, q = .rt x ∧ E [.raw D (.deferred (some [])), .raw (D + 1) (.loop (rec .done (some .ret)))] x W))
    _ (fun j W ⟨s, hj, _⟩ => (nJ s).sl hj) ?_ ⟨s0, J1, hq⟩).mono ?_)
  · rintro j x W hx ⟨s, hj, hf⟩ n
    have hdr : (L.map pj).drop j = pj x :: (L.map pj).drop (j + 1) := by
      have : (L.map pj)[j]? = some (pj x) := by simp [hx]
      obtain ⟨hlt, he⟩ := List.getElem?_eq_some_iff.1 this
      rw [List.drop_eq_getElem_cons hlt, he]
    rw [hdr] at hf
    unfold forLFrom at hf
    have hrec1 := (nJ s).at2 hj
    have hy := run_yield (P := P) (args := (encs x).toArray) hrec1 (by rw [hrec]; exact hps x)
    have htm : ((rec .ready none).params.zip (encs x).toArray).foldl (fun tmps (t, a) => tmps.setIfInBounds t a) (rec .ready none).tmps = (ps.toList.zip (encs x)).foldl (fun t p => t.setIfInBounds p.1 p.2) a.tmps := by
      rw [hrec]
      show (ps.zip (encs x).toArray).foldl _ a.tmps = _
      rw [← Array.foldl_toList, Array.toList_zip]
    rw [htm] at hy
    have e1 : (rec .ready none).fn = fn := by rw [hrec]
    have e2 : (rec .ready none).assign = assign := by rw [hrec]
    have e3 : (rec .ready none).body = body := by rw [hrec]
    rw [e1, e2, e3] at hy
    refine ⟨fn, _, assign, body, hy, roundIn_of_wpIn trivial ?_⟩
    cases hb : rb j (pj x) s with
    | none => rw [hb] at hf; cases hf
    | some o =>
      rw [hb] at hf
      have hw := hrnd (D + 1) j _ [.raw D (.deferred (some [])), .raw (D + 1) (.loop (rec .busy none))] x s W o hx hj hb n _ (Fr.setF ps.toList (encs x) ha hlt)
      refine wpIn_mono hw ?_
      rintro e a1 W1 ⟨f1, hf1, rfl, H, l0, S1, hcont⟩
      have hr1 : W1.heap[D + 1]? = some (.loop (rec .ready none)) := S1.rawAt (i := l0.length + 1) (by simp)
      refine ⟨_, run_beginRound hr1 (by rw [hrec]), ?_⟩
      have hbody := hcont (W1.putObj (D + 1) (.loop { rec .ready none with state := .busy })) (by
        have := S1.put2 (.loop { rec .ready none with state := .busy })
        rw [hrec] at this ⊢; exact this) n a1 hf1
      refine wpIn_mono hbody ?_
      rintro e2 a2 W3 ⟨f2, hf2, hR⟩
      have fin : ∀ (jump : Option Code), W3.heap[D + 1]? = some (.loop (rec .busy none)) →
          (Instr.endRound (D + 1) jump).run P W3 = .ok (.bool jump.isNone) (W3.putObj (D + 1) (.loop (rec (if jump.isNone then .ready else .done) jump))) := fun jump h3 => by
        have := run_endRound (P := P) jump h3
        rw [this, hrec]
      cases o with
      | nx s' =>
        obtain ⟨rfl, hJ⟩ := hR
        exact ⟨_, _, fin none ((nJ s').at2 hJ), .inl ⟨rfl, s', (nJ s').put2 _ hJ, hf⟩⟩
      | bk s' =>
        obtain ⟨rfl, hJ⟩ := hR
        cases hf
        exact ⟨_, _, fin (some (.exit id)) ((nJ s').at2 hJ), .inr ⟨rfl, .inl ⟨s', rfl, (nJ s').put2 _ hJ⟩⟩⟩
      | rt x' =>
        obtain ⟨rfl, hE⟩ := hR
        cases hf
        exact ⟨_, _, fin (some .ret) ((nE x').at2 hE), .inr ⟨rfl, .inr ⟨x', rfl, (nE x').put2 _ hE⟩⟩⟩
  · rintro e W2 ⟨⟨v, rfl⟩, hK⟩
    rcases hK with ⟨s, hj, hf⟩ | ⟨s, rfl, hj⟩ | ⟨x, rfl, hj⟩
    · have hdn : (L.map pj).drop L.length = [] := by simp
      rw [hdn] at hf
      unfold forLFrom at hf
      cases hf
      exact ⟨none, _, endL .ready none W2 (by nofun) ((nJ s).at2 hj), hgo D s rfl _ ((nJ s).drop2 ((nJ s).put2 _ hj)) _ hfr⟩
    · refine ⟨some (.exit id), _, endL .done _ W2 (by nofun) ((nJ s).at2 hj), wpIn_exit ?_⟩
      simp only [Exit.inBlock, if_true]
      exact hgo D s rfl _ ((nJ s).drop2 ((nJ s).put2 _ hj)) _ hfr
    · refine ⟨some .ret, _, endL .done _ W2 (by nofun) ((nE x).at2 hj), wpIn_ret ?_⟩
      exact hrt D x rfl _ ((nE x).drop2 ((nE x).put2 _ hj)) _ hfr
end Go.Mr
