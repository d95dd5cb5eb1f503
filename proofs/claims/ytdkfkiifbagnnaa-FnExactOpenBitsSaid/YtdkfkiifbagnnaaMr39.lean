/- Shorter words for the walks: rows of given ints; a region's condition that is told once. -/
import Derived.Test.YtdkfkiifbagnnaaMr28
import Derived.Test.YtdkfkiifbagnnaaMr24
set_option linter.unusedVariables false
namespace Go.Mr
open Go.RowKit Go.Pu
def iC (xs : List Int) : List Value := xs.map (Value.int .i64)
def iP (xs : List Int) : Array (Nat × Value) := ((xs.zipIdx 0).map fun p => (p.2, Value.int .i64 p.1)).toArray
theorem els_ints (G : GH) (xs : List Int) : Els G eI 1 (iC xs) xs := by
  have key : ∀ ys : List Int, Els G eI 1 (iC ys.reverse) ys.reverse := by
    intro ys
    induction ys with
    | nil => exact .nil
    | cons x ys ih =>
      have := Els.snoc (c := [Value.int .i64 x]) (x := x) ih rfl (show eI.rel G [Value.int .i64 x] x from rfl)
      unfold iC at this ⊢
      rw [List.reverse_cons, List.map_append]
      exact this
  have := key xs.reverse
  rwa [List.reverse_reverse] at this
theorem flat_ints (xs : List Int) : ((xs.map (Value.int .i64)).map (·.cells.toList)).flatten = iC xs := by
  unfold iC
  induction xs with
  | nil => rfl
  | cons x xs ih => rw [List.map_cons, List.map_cons, List.flatten_cons, ih]; rfl
theorem St.ints {P : Program} {H0 H : GH} {w0 w : World} {l : List MO} {t e : Nat} {z : Value} (h : St H0 w0 H w l) (te : TE P t e 1 z) (G : GH) (n : Nat) (xs : List Int) (hn : xs.length = n := by rfl) (hsm : Nat.ble n 1000 = true := by rfl) :
    ∃ v w1, (Instr.buildSlice t n (iP xs)).run P w = .ok v w1 ∧ St H0 w0 H w1 (.row e 1 v n (iC xs) :: l) ∧ Els G eI 1 (iC xs) xs := by
  subst hn
  have hl : (xs.map (Value.int .i64)).length = xs.length := List.length_map _
  obtain ⟨v, w1, h1, h2⟩ := h.buildSlice (P := P) te (xs.map (Value.int .i64)) (parts := iP xs) (cells := iC xs) (by
    unfold iP
    show List.map _ _ = _
    rw [List.zipIdx_map, List.map_map]; rfl) (fun v hv => by obtain ⟨x, _, rfl⟩ := List.mem_map.1 hv; rfl) (flat_ints xs) (fun c hc => by unfold iC at hc; obtain ⟨x, _, rfl⟩ := List.mem_map.1 hc; rfl) (by have := Nat.le_of_ble_eq_true hsm; rw [hl]; omega)
  rw [hl] at h1 h2
  exact ⟨v, w1, h1, h2, els_ints G xs⟩
theorem sgo {A B : Prop} (a : A) (h : A → B) : A ∧ B := ⟨a, h a⟩
section
variable {δ : List Nat} {P : Program} {N : Nat} {f : Fm} {w w' : World} {ops : Array Oper} {B : World → Prop} {M : Fm → World → Prop} {ps : List (List Nat × (World → Prop))} {n : Nat} {ls l' : Array Bool}
theorem FB.go (hS : SP B ps ls w) (h : SP B ps ls w → FB (δ := δ) P N ops B M ps n ls f w) : FB (δ := δ) P N ops B M ps n ls f w := h hS
theorem sp_next {C : List Nat} {i : Nat} (hc : certB ops C i ls ps = true) (hl : ls.setIfInBounds i true = l') (hS : SP B ps ls w) : SP B ps l' w := by
  subst hl
  unfold certB at hc
  rw [Bool.and_eq_true] at hc
  exact (SP.iff hc.2).2 hS
theorem FB.r {d : Nat} {o : Oper} {v : Value} (i k m : Nat) (hi : ops[i]? = some o) (hS : SP B ps ls w) (hrun : ∀ w', B w' → (execOp (ev f) o).run P w' = .ok (.value v) w')
    (h : SP B ps (bs k m) w → FB (δ := δ) P N ops B M ps n (bs k m) (upd f d v) w) (hw : wF ops f o = true := by rfl) (hd : o.dst = some d := by rfl) (hlt : Nat.blt d N = true := by rfl) (hs : Region.noSelect ops = true := by kernel_rfl) (hf : Region.free .any ops ls i = true := by kernel_rfl)
    (hr : (Region.ready .any ops ls).contains i = true := by kernel_rfl) (hl : ls.setIfInBounds i true = bs k m := by kernel_rfl) (hc : certB ops [] i ls ps = true := by kernel_rfl) : FB (δ := δ) P N ops B M ps (n + 1) ls f w :=
  FB.take hi hs hf hr hl hc hS hw hd hlt hrun (h (sp_next hc hl hS))
theorem FB.q {Hs : List Nat} {R : World → Prop} {d : Nat} {o : Oper} {v : Value} (i k m : Nat) (q : Nat) (C : List Nat) (hi : ops[i]? = some o) (hS : SP B ps ls w) (hq : ps[q]? = some (Hs, R)) (hrun : ∀ w', R w' → (execOp (ev f) o).run P w' = .ok (.value v) w')
    (h : SP B ps (bs k m) w → FB (δ := δ) P N ops B M ps n (bs k m) (upd f d v) w) (hw : wF ops f o = true := by rfl) (hd : o.dst = some d := by rfl) (hlt : Nat.blt d N = true := by rfl) (hs : Region.noSelect ops = true := by kernel_rfl) (hf : Region.free .any ops ls i = true := by kernel_rfl)
    (hr : (Region.ready .any ops ls).contains i = true := by kernel_rfl) (hl : ls.setIfInBounds i true = bs k m := by kernel_rfl) (hc : certB ops C i ls ps = true := by kernel_rfl) (hH : Hs.all (C.contains ·) = true := by kernel_rfl) : FB (δ := δ) P N ops B M ps (n + 1) ls f w :=
  FB.takeP q C hq hi hs hf hr hl hc hH hS hw hd hlt hrun (h (sp_next hc hl hS))
theorem FB.z {o : Oper} (i k m : Nat) (hi : ops[i]? = some o) (hS : SP B ps ls w) (hw : wF ops f o = false) {d : Nat} (h : SP B ps (bs k m) w → FB (δ := δ) P N ops B M ps n (bs k m) (upd f d undef) w)
    (hd : o.dst = some d := by rfl) (hlt : Nat.blt d N = true := by rfl) (hs : Region.noSelect ops = true := by kernel_rfl) (hf : Region.free .any ops ls i = true := by kernel_rfl)
    (hr : (Region.ready .any ops ls).contains i = true := by kernel_rfl) (hl : ls.setIfInBounds i true = bs k m := by kernel_rfl) (hc : certB ops [] i ls ps = true := by kernel_rfl) : FB (δ := δ) P N ops B M ps (n + 1) ls f w :=
  FB.skip hi hs hf hr hl hc hS hw hd hlt (h (sp_next hc hl hS))
end
end Go.Mr
