/- Arguments that can be read as data: what they give the walks; the law's row. -/
import Derived.Test.YtdkfkiifbagnnaaMr14
import Derived.Test.YtdkfkiifbagnnaaPl1
import Derived.ProofKit
import Derived.OpenShut
import Derived.WideKeyArgs
namespace Go.Mr
open Go.RowKit Go.Pu

/-- the memory there is, all of it sealed -/
def hpOf (w : World) : GH := fun b => w.heap[b]?
theorem sl_hpOf (w : World) : Sl (hpOf w) w := fun _ _ h => h

/-- what reads as data of type t lies as En says -/
def RdT (P : Program) (w : World) (t : TypeId) {A : Type} (En : Enc A) (ok : A → Prop) : Prop :=
  ∀ {H : Type} {enc : TypeId × Value → H} {base : Nat} {spare : Nat → Bool} {held : Bool} {fuel : Nat} {cs : List Value} {x : DataW H × List MemPlace}, DataW.trod enc P w base spare held fuel t cs = some x → ∃ a, En.rel (hpOf w) cs a ∧ ok a

section
variable {P : Program} {w : World} {t e k : Nat} {A : Type} {En : Enc A} {ok : A → Prop}

theorem okI_wf {n : Int} (h : (Lit.int .i64 n).wf = true) : okI n := by
  simp [Lit.wf, IntKind.min, IntKind.max, IntKind.signed, IntKind.bits] at h
  exact h
theorem RdT.int (ht : P.underlying t = some (.int .i64)) : RdT P w t eI okI := fun h => by
  obtain ⟨n, rfl, _, hw⟩ := DataW.trod_int ht h; exact ⟨n, rfl, okI_wf hw⟩
theorem RdT.bool (ht : P.underlying t = some .bool) : RdT P w t eB okT := fun h => by
  obtain ⟨n, rfl, _⟩ := DataW.trod_bool ht h; exact ⟨n, rfl, trivial⟩
theorem RdT.string (ht : P.underlying t = some .string) : RdT P w t eS okT := fun h => by
  obtain ⟨n, rfl, _⟩ := DataW.trod_string ht h; exact ⟨n, rfl, trivial⟩

theorem cell_block {p : Addr} {c : Value} (h : w.cell? p = some c) : p.spot = Option.none ∧ ∃ arr e fr, w.heap[p.block]? = some (.cells arr e fr) ∧ arr[p.off]? = some c := by
  have hs := World.cell?_spot h
  refine ⟨hs, ?_⟩
  unfold World.cell? at h
  split at h
  · rename_i arr e fr hb
    split at h
    · cases h
    · exact ⟨arr, e, fr, hb, h⟩
  · cases h

theorem cat_of_cells {base : Nat} {p : Addr} {cs : List Value} (hk : 0 < k) (h : w.cells? base p k = some cs) : cs.length = k ∧ CAt (hpOf w) p cs := by
  obtain ⟨_, hl, hc⟩ := World.cells?_some h
  refine ⟨hl, ?_⟩
  obtain ⟨c0, h0⟩ : ∃ c0, cs[0]? = some c0 := ⟨cs[0]'(by omega), List.getElem?_eq_getElem (by omega)⟩
  have := hc 0 hk
  rw [h0, Addr.add_zero'] at this
  obtain ⟨hs, arr, e, fr, hb, _⟩ := cell_block this
  refine ⟨arr, e, fr, hb, hs, fun j c hj => ?_⟩
  have hjk : j < k := by rw [← hl]; exact (List.getElem?_eq_some_iff.1 hj).1
  have h2 := hc j hjk
  rw [hj] at h2
  obtain ⟨_, arr', e', fr', hb', hc'⟩ := cell_block h2
  have hbl : (p.add j).block = p.block := by unfold Addr.add; split <;> rfl
  rw [hbl, hb] at hb'
  cases hb'
  rw [addr_eta hs] at hc'
  exact hc'

theorem RdT.slice (ht : P.underlying t = some (.slice e)) (hc : P.cellsOf e = k) (hk : 0 < k) (he : RdT P w e En ok) : RdT P w t (eL En k) (okL ok) := fun {H enc base spare held fuel cs x} h => by
  rcases DataW.trod_slice ht h with ⟨rfl, _⟩ | ⟨a, len, cap, elems, rest, n, _, rfl, _, _, hle, hm, hlen, hel, _⟩
  · exact ⟨[], ⟨_, rfl, RSl.nil _ _ _⟩, by simp, by simp⟩
  · rw [hc] at hel
    have key : ∀ m, m ≤ len → ∃ xs : List A, xs.length = m ∧ ∀ i x, xs[i]? = some x → ∃ cs, cs.length = k ∧ CAt (hpOf w) (a.add (i * k)) cs ∧ En.rel (hpOf w) cs x ∧ ok x := by
      intro m
      induction m with
      | zero => intro _; exact ⟨[], rfl, by simp⟩
      | succ m ih =>
        intro hlt
        obtain ⟨xs, h1, h2⟩ := ih (by omega)
        have h3 := hel m (by omega)
        rw [List.getElem?_eq_getElem (by omega)] at h3
        obtain ⟨cs', h4, h5⟩ := Option.bind_eq_some_iff.1 h3
        obtain ⟨y, hy, hok⟩ := he h5
        obtain ⟨h6, h7⟩ := cat_of_cells hk h4
        refine ⟨xs ++ [y], by simp [h1], fun i x hx => ?_⟩
        rcases Nat.lt_or_ge i xs.length with hi | hi
        · rw [List.getElem?_append_left hi] at hx; exact h2 i x hx
        · have : i = xs.length := by have := (List.getElem?_eq_some_iff.1 hx).1; simp at this; omega
          subst this
          simp at hx; subst hx
          rw [h1]
          exact ⟨cs', h6, h7, hy, hok⟩
    obtain ⟨xs, h1, h2⟩ := key len (Nat.le_refl _)
    subst h1
    refine ⟨xs, ⟨_, rfl, some a, cap, rfl, ⟨by omega, nofun, hle⟩, fun i x hx => let ⟨cs, g1, g2, g3, _⟩ := h2 i x hx; ⟨a, cs, rfl, g1, g2, g3⟩⟩, by simp only [maxLen] at hm; omega, fun x hx => ?_⟩
    obtain ⟨i, hi⟩ := List.mem_iff_getElem?.1 hx
    obtain ⟨_, _, _, _, h⟩ := h2 i x hi
    exact h

/-! the arguments by themselves -/
variable {H : Type} {enc : TypeId × Value → H} {base b0 : Nat} {spare : Nat → Bool} {held : Bool} {r : Reach} {v : Value} {d : DataW H} {ps : List MemPlace}
theorem arg_slice (ht : P.underlying t = some (.slice e)) (hc : P.cellsOf e = k) (hk : 0 < k) (he : RdT P w e En ok) (hval : Value.okWide P w r b0 t v) (h : DataW.Trod enc P w base spare held t v d ps) : ∃ xs : List A, RSl (hpOf w) En k v xs ∧ okL ok xs := by
  obtain ⟨a, len, cap, rfl⟩ := WideShapes.okWide_slice ht hval
  obtain ⟨fuel, h⟩ := h
  obtain ⟨xs, ⟨v', h1, h2⟩, h3⟩ := RdT.slice ht hc hk he h
  simp only [Value.cells, List.cons.injEq, and_true] at h1
  subst h1
  exact ⟨xs, h2, h3⟩
theorem arg_struct {fs : Array Field} (ht : P.underlying t = some (.struct fs)) (he : RdT P w t En ok) (hval : Value.okWide P w r b0 t v) (h : DataW.Trod enc P w base spare held t v d ps) : ∃ (x : A) (cs : List Value), v = .agg cs.toArray ∧ En.rel (hpOf w) cs x ∧ ok x := by
  obtain ⟨cs, rfl, _⟩ := WideShapes.okWide_struct ht hval
  obtain ⟨fuel, h⟩ := h
  obtain ⟨x, hx, ho⟩ := he h
  exact ⟨x, _, by simp [Value.cells], hx, ho⟩

/-- a reading stays, behind a call that leaves old memory alone -/
theorem trod_stays {W W' : World} (hl : laidOutB P = true) (hr : P.readableRec t = true) (hrow : t < P.types.size) (hb : Below W.heap.size W W') {ps : List MemPlace} (hp : ∀ p ∈ ps, p.block < W.heap.size)
    (h : DataW.Trod enc P W base (fun _ => true) true t v d ps) : DataW.Trod enc P W' base (fun b => decide (b < W.heap.size)) true t v d ps :=
  WideElems.Trod_stays hl hr hrow h (fun p h => hb.same (hp p h)) (fun p h => by simpa using hp p h)
end

/-- the law's 'post' -/
theorem post_law {H : Type} {enc : TypeId × Value → H} {P : Program} {f : Func} {s : ChangeSpec} {W W' : World} {args : Array Value} {ds : List (DataW H)} {p : List MemPlace} {tb : TypeId}
    (hW : DataW.Whole enc P f.params.toList s.vars false W args.toList ds [] (p ++ [])) (hv : s.vars = []) (hf : (s.fn H (ds ++ [])) = { results := [.lit (.bool true)], args := ds }) (hrt : f.resultTypes.toList = [tb]) (hrs : f.resultTypes.size = 1)
    (htb : P.underlying tb = some .bool) (hA : DataW.TrodAll enc P W' 0 (fun b => decide (b < W.heap.size)) true f.params.toList args.toList ds p) (hb : Below W.heap.size W W') :
    s.post enc P f false true false false W args (.bool true) W' := by
  refine ⟨ds, [], p ++ [], [], p, [], hW, ?_, ?_, ?_, hb.frame _, fun h => by cases h⟩
  · rw [hf, hrt, hrs]
    exact trodAll_cons_mk (shut_bool htb _) ChangeShapes.trodAll_mk0
  · rw [hf]; exact hA
  · rw [hf, hv]; rfl
end Go.Mr
