/- Helpers of the walks and plain laws. -/
import Derived.Test.YtnimmenfdndeoaaGreatNrLA
import Derived.OrdersHeld
import Derived.Lib.SliceRun
import Derived.ProofKit
import Derived.OpenShut
import Derived.WideKeyArgs
import Derived.Shelf.SlSortCmp.Kit1
import Derived.Sort.LotA
import Derived.Lib.SlicesCompact
import Derived.Shelf.SlicesE.Compact
import Derived.Ground.SlgnProg
set_option linter.unusedVariables false
namespace Go.Mr
open Go.RowKit Go.Pu
section
variable {P : Program} {f : Fm} {w w' : World} {d : Option Tmp} {ty : TypeId} {pos : String} {aft : Array Edge} {gd : Option (Nat × Bool)} {x y : Operand} {v u : Value}
variable {H0 H H' : GH} {w0 : World} {l : List MO} {t e k n : Nat} {z : Value}
theorem eI_open {H : GH} {cs : List Value} {x : Int} (h : eI.rel H cs x) : cs = [.int .i64 x] := h
theorem eB_open {H : GH} {cs : List Value} {x : Bool} (h : eB.rel H cs x) : cs = [.bool x] := h
theorem eL_open {α : Type} {E : Enc α} {k : Nat} {H : GH} {cs : List Value} {xs : List α} (h : (eL E k).rel H cs xs) : ∃ v, cs = [v] ∧ RSl H E k v xs := h
def eN (kk : IntKind) : Enc Int := ⟨fun _ cs n => cs = [.int kk n], fun _ h => h, by intro H cs x h; subst h; simp [Value.oneCell'], by intro H cs x h; subst h; simp [bl, neb]⟩
theorem eN_open {kk : IntKind} {H : GH} {cs : List Value} {x : Int} (h : (eN kk).rel H cs x) : cs = [.int kk x] := h
theorem RSl.cells {α : Type} {E : Enc α} {v : Value} {xs : List α} (h : RSl H E k v xs) : v.cells = #[v] := by obtain ⟨a, cap, rfl, _⟩ := h; rfl
theorem cells_size {v u : Value} (h : v.cells = #[u]) : v.cells.size = 1 := by rw [h]; rfl
theorem fc_nil : (([] : List Value).map (·.cells.toList)).flatten = [] := rfl
theorem fc_cons {v : Value} {vs c cs : List Value} (h : v.cells = c.toArray) (t : (vs.map (·.cells.toList)).flatten = cs) : ((v :: vs).map (·.cells.toList)).flatten = c ++ cs := by simp [h, t]
theorem ones_nil : ∀ u ∈ ([] : List Value), u.oneCell' = true := by simp
theorem ones_cons {c : Value} {l : List Value} (h : c.oneCell' = true) (hl : ∀ u ∈ l, u.oneCell' = true) : ∀ u ∈ c :: l, u.oneCell' = true := by
 intro u hu; rcases List.mem_cons.1 hu with rfl | hu
 · exact h
 · exact hl u hu
theorem szs_nil {k : Nat} : ∀ v ∈ ([] : List Value), v.cells.size = k := by simp
theorem szs_cons {c : Value} {l : List Value} {k : Nat} (h : c.cells.size = k) (hl : ∀ v ∈ l, v.cells.size = k) : ∀ v ∈ c :: l, v.cells.size = k := by
 intro u hu; rcases List.mem_cons.1 hu with rfl | hu
 · exact h
 · exact hl u hu
theorem appA {xs : Array Operand} {a : Array Value} (h : xs.map (ev f) = a) (c : Array Value) : xs.map (ev f) ++ c = a ++ c := by rw [h]
theorem B0 : ((#[] : Array (Nat × Operand)).map fun (i, x) => (i, ev f x)) = #[] := by simp
theorem B1 {i1 : Nat} {x1 : Operand} {v1 : Value} (h1 : ev f x1 = v1) : (#[(i1, x1)].map fun (i, x) => (i, ev f x)) = #[(i1, v1)] := by simp [h1]
theorem B2 {i1 i2 : Nat} {x1 x2 : Operand} {v1 v2 : Value} (h1 : ev f x1 = v1) (h2 : ev f x2 = v2) : (#[(i1, x1), (i2, x2)].map fun (i, x) => (i, ev f x)) = #[(i1, v1), (i2, v2)] := by simp [h1, h2]
theorem B3 {i1 i2 i3 : Nat} {x1 x2 x3 : Operand} {v1 v2 v3 : Value} (h1 : ev f x1 = v1) (h2 : ev f x2 = v2) (h3 : ev f x3 = v3) :
 (#[(i1, x1), (i2, x2), (i3, x3)].map fun (i, x) => (i, ev f x)) = #[(i1, v1), (i2, v2), (i3, v3)] := by simp [h1, h2, h3]
theorem B4 {i1 i2 i3 i4 : Nat} {x1 x2 x3 x4 : Operand} {v1 v2 v3 v4 : Value} (h1 : ev f x1 = v1) (h2 : ev f x2 = v2) (h3 : ev f x3 = v3) (h4 : ev f x4 = v4) :
 (#[(i1, x1), (i2, x2), (i3, x3), (i4, x4)].map fun (i, x) => (i, ev f x)) = #[(i1, v1), (i2, v2), (i3, v3), (i4, v4)] := by simp [h1, h2, h3, h4]
theorem E.build {ps : Array (Nat × Operand)} {parts : Array (Nat × Value)} (hp : (ps.map fun (i, x) => (i, ev f x)) = parts) (hr : (Instr.build t parts).run P w = .ok v w') :
 (execOp (ev f) ⟨d, .build t ps, ty, pos, aft, gd⟩).run P w = .ok (.value v) w' := by
 subst hp; simp [execOp, hr]
theorem E.lssT {k : IntKind} {a b : Int} {t t' : TypeId} (hx : ev f x = .int k a) (hy : ev f y = .int k b) (h : decide (a < b) = true) :
 (execOp (ev f) ⟨d, .binOp .lss t x y t', ty, pos, aft, gd⟩).run P w = .ok (.value (.bool true)) w := by
 have := E.lss (P := P) (w := w) (d := d) (ty := ty) (pos := pos) (aft := aft) (gd := gd) (t := t) (t' := t') hx hy
 rwa [h] at this
theorem lss_len {α : Type} {xs : List α} {i : Nat} {x : α} (h : xs[i]? = some x) : decide (((i : Nat) : Int) < len xs) = true := by
 have := lt_of_get h
 simp [len]; omega
theorem lss_chk {i m : Nat} {n : Int} (h : i < m) (hc : chk n = some m) : decide (((i : Nat) : Int) < n) = true := by
 unfold chk at hc; split at hc
 · cases hc; simp; omega
 · cases hc
theorem dlt_len {α : Type} {xs : List α} : decide (((xs.length : Nat) : Int) < len xs) = false := by simp [len]
theorem dlt_maxchk {a m : Nat} {n : Int} (hc : chk n = some m) : decide (((max a m : Nat) : Int) < n) = false := by
 unfold chk at hc; split at hc
 · cases hc; simp; omega
 · cases hc
theorem chk_le {m : Nat} {n : Int} (hc : chk n = some m) : m ≤ maxLen := by
 unfold chk at hc; split at hc
 · cases hc; simp only [maxLen]; omega
 · cases hc
theorem nat_succ {f : Fm} {s i n : Nat} (h : f s = .int .i64 (wr (((i : Nat) : Int) + 1))) (hi : i < n) (hn : n ≤ maxLen) : f s = .int .i64 ((i + 1 : Nat) : Int) := by
 rw [h, wr_of _ (by omega) (by simp only [maxLen] at hn; omega)]; rfl
theorem loadVar_A {p : Addr} {cs : List Value} {n : Nat} (ta : ∀ w, (isAgg t).run P w = .ok true w) (ts : ∀ w, (sizeOf t).run P w = .ok n w) (hw : WAt w p cs) (hn : cs.length = n) :
 (loadVar t p).run P w = .ok (.agg cs.toArray) w := by
 subst hn
 simp [loadVar, ta, ts, run_loadCells_list w p cs hw]
theorem WAt.cls {p : Addr} {cs : List Value} (h : WAt w p cs) (hw : Run w.heap.size H w H' w') : WAt w' p cs := by
 intro j c hc
 have h1 := h j c hc
 have hlt : (p.add j).block < w.heap.size := World.block_lt_of_cell? w _ h1
 rw [World.cell?_of_block (hw.bel.block _ hlt)]; exact h1
theorem Calls.cls {fid : Nat} {args : Array Value} (hw : Run w.heap.size H w H w') (h : Calls P fid args w' (Sc H w' v)) :
 Calls P fid args w' (fun e w'' => e = .returned v ∧ Run w.heap.size H w H w'') :=
 h.mono fun _ _ ⟨he, hr⟩ => ⟨he, hw.tr hr hw.bel.size⟩
theorem St.sel (h : St H0 w0 H w l) (is : List Nat) (hnd : is.Nodup) {l' : List MO} (hl : is.filterMap (l[·]?) = l') : St H0 w0 H w l' := by
 subst hl
 have key : ∀ (is : List Nat), ∃ g : Nat → Nat, (∀ (j : Nat) (o : MO), (is.filterMap (l[·]?))[j]? = some o → l[g j]? = some o ∧ g j ∈ is) ∧
  (is.Nodup → ∀ (j j' : Nat) (o o' : MO), (is.filterMap (l[·]?))[j]? = some o → (is.filterMap (l[·]?))[j']? = some o' → g j = g j' → j = j') := by
  intro is
  induction is with
  | nil => exact ⟨id, by simp, by simp⟩
  | cons i is ih =>
   obtain ⟨g, h1, h2⟩ := ih
   cases hi : l[i]? with
   | none =>
    refine ⟨g, fun j o hj => ?_, fun hn j j' o o' hj hj' => ?_⟩
    · simp only [List.filterMap_cons, hi] at hj
      obtain ⟨a, b⟩ := h1 j o hj; exact ⟨a, by simp [b]⟩
    · simp only [List.filterMap_cons, hi] at hj hj'
      exact h2 (List.nodup_cons.1 hn).2 j j' o o' hj hj'
   | some oi =>
    refine ⟨fun j => match j with | 0 => i | j + 1 => g j, fun j o hj => ?_, fun hn j j' o o' hj hj' he => ?_⟩
    · simp only [List.filterMap_cons, hi] at hj
      cases j with
      | zero => simp at hj; subst hj; exact ⟨hi, by simp⟩
      | succ j => obtain ⟨a, b⟩ := h1 j o (by simpa using hj); exact ⟨a, by simp [b]⟩
    · simp only [List.filterMap_cons, hi] at hj hj'
      obtain ⟨hn1, hn2⟩ := List.nodup_cons.1 hn
      cases j with
      | zero => cases j' with
       | zero => rfl
       | succ j' => have := (h1 j' o' (by simpa using hj')).2; simp only at he; rw [← he] at this; exact absurd this hn1
      | succ j => cases j' with
       | zero => have := (h1 j o (by simpa using hj)).2; simp only at he; rw [he] at this; exact absurd this hn1
       | succ j' => have := h2 hn2 j j' o o' (by simpa using hj) (by simpa using hj') he; omega
 obtain ⟨g, h1, h2⟩ := key is
 exact ⟨h.run, fun i o hi => h.ok _ o (h1 i o hi).1, fun i o b hi hb => h.out _ o b (h1 i o hi).1 hb,
  fun i j oi oj b hi hj hbi hbj => h2 hnd i j oi oj hi hj (h.dis _ _ oi oj b (h1 i oi hi).1 (h1 j oj hj).1 hbi hbj)⟩
theorem St.row_n {α : Type} {En : Enc α} {xs : List α} {cells : List Value} (h : St H0 w0 H w l) {i : Nat} (hi : l[i]? = some (.row e k v n cells)) (he : Els H' En k cells xs) (hk : 0 < k) : n = xs.length := by
 obtain ⟨⟨k1, _⟩, _⟩ := h.ok i _ hi
 have hl := he.length
 rw [k1] at hl
 exact Nat.eq_of_mul_eq_mul_right hk hl
theorem E.lenO {α : Type} {En : Enc α} {xs : List α} {cells : List Value} {t e' : Nat} (te : TE P t e' k z) (hx : ev f x = v) (h : St H0 w0 H w l) {i : Nat} (hi : l[i]? = some (.row e k v n cells)) (he : Els H' En k cells xs) (hk : 0 < k) :
 (execOp (ev f) ⟨d, .call ⟨.builtin .len, #[x], #[t]⟩, ty, pos, aft, gd⟩).run P w = .ok (.value (.int .i64 (Pu.len xs))) w := by
 have := E.len (P := P) (f := f) (w := w) (d := d) (ty := ty) (pos := pos) (aft := aft) (gd := gd) te hx (h.row_ln hi)
 rw [h.row_n hi he hk] at this; exact this
theorem St.appendO {α : Type} {G : GH} {En : Enc α} {xs ys zs : List α} {c1 c2 : List Value} {e2 n2 : Nat} (h : St H0 w0 H w l) (te : TE P t e k z) {i j : Nat} (hi : l[i]? = some (.row e k v n c1)) (he : Els G En k c1 xs)
 (hj : l[j]? = some (.row e2 k u n2 c2)) (hy : Els G En k c2 ys) (hz : app xs ys = some zs) :
 ∃ v' w1 n' c', (∀ ty, (Builtin.append_ #[t, t] ty #[v, u]).run P w = .ok v' w1) ∧ St H0 w0 H w1 (l.set i (.row e k v' n' c')) ∧ Els G En k c' zs ∧ c' = c1 ++ c2 := by
 obtain ⟨hb, rfl⟩ := app_some hz
 have hn := h.row_n hi he te.kp
 have hn2 := h.row_n hj hy te.kp
 obtain ⟨v', w1, hr, hS⟩ := h.append (P := P) te (l' := fun o => l.set i (o.headD (.box 0 0 []))) hi (h.row_src hj) (h.ok j _ hj).2 (by omega) (fun o => rfl)
 exact ⟨v', w1, _, _, hr, hS, he.app hy, rfl⟩
theorem St.appendP {α : Type} {G : GH} (hg : Inc G H) {En : Enc α} {xs ys zs : List α} {c1 : List Value} (h : St H0 w0 H w l) (te : TE P t e k z) {i : Nat} (hi : l[i]? = some (.row e k v n c1)) (he : Els G En k c1 xs)
 (hy : RSl G En k u ys) (hz : app xs ys = some zs) :
 ∃ v' w1 n' c', (∀ ty, (Builtin.append_ #[t, t] ty #[v, u]).run P w = .ok v' w1) ∧ St H0 w0 H w1 (l.set i (.row e k v' n' c')) ∧ Els G En k c' zs := by
 obtain ⟨hb, rfl⟩ := app_some hz
 have hn := h.row_n hi he te.kp
 obtain ⟨news, g1, g2, g3⟩ := hy.src (fun b o hb => h.sl b o (hg b o hb))
 obtain ⟨v', w1, hr, hS⟩ := h.append (P := P) te (l' := fun o => l.set i (o.headD (.box 0 0 []))) hi g3 g2 (by omega) (fun o => rfl)
 exact ⟨v', w1, _, _, hr, hS, he.app g1⟩
theorem St.putEls {α : Type} {G : GH} {En : Enc α} {xs ys : List α} {x0 : α} {cells c : List Value} (h : St H0 w0 H w l) {i : Nat} (hi : l[i]? = some (.row e k v n cells)) (he : Els G En k cells xs) {j : Int}
 (hy : put xs j x0 = some ys) {p : Addr} (hp : PtrOf k v j p) (ts : ∀ w, (sizeOf t).run P w = .ok k w) (hu : u.cells = c.toArray) (hck : c.length = k) (h1 : ∀ b ∈ c, b.oneCell' = true) (hr : En.rel G c x0) :
 ∃ w1 cells', (Instr.storeAt t (.pointer (some p)) u).run P w = .ok () w1 ∧ St H0 w0 H w1 (l.set i (.row e k v n cells')) ∧ Els G En k cells' ys ∧ cells' = cells.take (j.toNat * k) ++ c ++ cells.drop (j.toNat * k + k) := by
 obtain ⟨h0, h2, rfl⟩ := put_some hy
 obtain ⟨w1, hst, hS⟩ := h.putRow (P := P) (l' := fun o => l.set i o) hi hp ts (u := u) (by rw [hu]; simpa using hck) (by rw [hu]; simpa using h1) (fun o => rfl)
 rw [hu] at hS
 exact ⟨w1, _, hst, hS, he.put hck hr _ (by omega), rfl⟩
theorem St.makeEls {α : Type} {G : GH} {En : Enc α} {x0 : α} {xs : List α} {a c : Int} (h : St H0 w0 H w l) (te : TE P t e k z) (hm : mk2 x0 a c = some xs) (hz : En.rel G z.cells.toList x0) (h1 : ∀ u ∈ z.cells.toList, u.oneCell' = true) (kl kc : IntKind) :
 ∃ v w1 n cells, (Instr.makeSlice t (.int kl a) (.int kc c)).run P w = .ok v w1 ∧ St H0 w0 H w1 (.row e k v n cells :: l) ∧ Els G En k cells xs ∧ ((∀ u ∈ z.cells.toList, neb u = Option.none) → bl cells = []) := by
 obtain ⟨h0, hac, hc, rfl⟩ := mk2_some hm
 obtain ⟨v, w1, hr, hS⟩ := h.make (P := P) te kl kc h0 hac hc h1
 refine ⟨v, w1, _, _, hr, hS, Els.made te.zs hz _, fun hb => ?_⟩
 unfold bl
 rw [List.filterMap_eq_nil_iff]
 intro u hu
 simp only [madeCells, Array.toList_map, Array.toList_range, List.mem_map] at hu
 obtain ⟨j, _, rfl⟩ := hu
 have hk := te.kp
 have hlt : j % z.cells.size < z.cells.size := Nat.mod_lt _ (by rw [te.zs]; exact hk)
 rw [getElem!_pos z.cells _ hlt]
 exact hb _ (by simp)
end
section
variable {P : Program} {N : Nat} {Q : FQ} {f : Fm} {w : World}
theorem FW.forR {ρ : Option Nat} {δ : List Nat} {S X : Type} {c : Code} {a n : Nat} {body : Nat → S → Option (Lp S X)} (I : Nat → S → Fm → World → Prop) (Dn : Rs S X → FQ) {s : S} {q : Rs S X} (hq : Pu.forR a n body s = some q) (h0 : I a s f w)
 (hbody : ∀ i s f w, I i s f w → a ≤ i → i < n → ∀ o, body i s = some o → FW (ρ := ρ) (δ := δ) P N c (Rd (I (i + 1)) Dn o) f w)
 (hend : ∀ s f w, I (max a n) s f w → FW (ρ := ρ) (δ := δ) P N c (fun e f w => e ≠ .normal ∧ Dn (.go s) e f w) f w) : FW (ρ := ρ) (δ := δ) P N (.loop c) (Dn q) f w := by
 refine FW.loopG (fun m f w => ∃ i s, a ≤ i ∧ i + m = max a n ∧ I i s f w ∧ forFrom body m i s = some q) (m := n - a) ?_ ⟨a, s, Nat.le_refl _, by omega, h0, hq⟩
 rintro m f w ⟨i, s, hai, hm, hI, hs⟩
 cases m with
 | zero =>
  simp only [forFrom, Option.some.injEq] at hs
  subst hs
  have : i = max a n := by omega
  subst this
  exact (hend s f w hI).mono fun e f w ⟨he, h⟩ => then_of he h
 | succ m =>
  simp only [forFrom] at hs
  cases hb : body i s with
  | none => rw [hb] at hs; cases hs
  | some o =>
   rw [hb] at hs
   refine (hbody i s f w hI hai (by omega) o hb).mono fun e f' w' h => ?_
   cases o with
   | nx s' => obtain ⟨rfl, h⟩ := h; exact ⟨m, by omega, i + 1, s', by omega, by omega, h, hs⟩
   | bk s' => obtain ⟨he, h⟩ := h; simp only [Option.some.injEq] at hs; subst hs; exact then_of he h
   | rt x => obtain ⟨he, h⟩ := h; simp only [Option.some.injEq] at hs; subst hs; exact then_of he h
end
section
variable {A : Type} {En : Enc A}
theorem els1_some {H : GH} {cells : List Value} {xs : List A} (h : Els H En 1 cells xs) {i : Nat} {x : A} (hx : xs[i]? = some x) : ∃ c, cells[i]? = some c ∧ En.rel H [c] x := by
 obtain ⟨c, h1, h2, h3⟩ := h.get i x hx
 obtain ⟨c0, rfl⟩ : ∃ c0, c = [c0] := by
  match c, h1 with
  | [c0], _ => exact ⟨c0, rfl⟩
 exact ⟨c0, by simpa using h3 0 c0 rfl, h2⟩
end
theorem Ln.one {v : Value} {n : Nat} (h : Ln v n) : v.oneCell' = true := by obtain ⟨a, c, rfl⟩ := h; rfl
theorem Ln.cells {v : Value} {n : Nat} (h : Ln v n) : v.cells = #[v] := by obtain ⟨a, c, rfl⟩ := h; rfl
end Go.Mr
namespace Go.Mr
open Go.RowKit Go.Pu
section
variable {P : Program} {w w' : World} {H0 H H' : GH} {w0 : World} {l : List MO} {t e k n : Nat} {v z : Value} {A : Type} {En : Enc A}
theorem St.reidx (h : St H0 w0 H w l) (l' : List MO) (φ : Nat → Nat) (hφ : ∀ (j : Nat) (o : MO), l'[j]? = some o → l[φ j]? = some o) (inj : ∀ j j', j < l'.length → j' < l'.length → φ j = φ j' → j = j') : St H0 w0 H w l' :=
 ⟨h.run, fun j o hj => h.ok _ o (hφ j o hj), fun j o b hj hb => h.out _ o b (hφ j o hj) hb, fun i j oi oj b hi hj h1 h2 =>
  inj i j (List.getElem?_eq_some_iff.1 hi).1 (List.getElem?_eq_some_iff.1 hj).1 (h.dis _ _ oi oj b (hφ i oi hi) (hφ j oj hj) h1 h2)⟩
theorem St.front (h : St H0 w0 H w l) (i : Nat) {o : MO} (hi : l[i]? = some o) {l' : List MO} (hl : o :: l.eraseIdx i = l') : St H0 w0 H w l' := by
 subst hl
 refine h.reidx _ (fun j => if j = 0 then i else if j - 1 < i then j - 1 else j) (fun j o' hj => ?_) (fun j j' h1 h2 he => ?_)
 · cases j with
   | zero => simp at hj; subst hj; simpa using hi
   | succ j =>
    simp only [List.getElem?_cons_succ, List.getElem?_eraseIdx] at hj
    simp only [Nat.add_one_ne_zero, if_false, Nat.add_sub_cancel]
    split at hj
    · rename_i hlt; rw [if_pos hlt]; exact hj
    · rename_i hlt; rw [if_neg hlt]; exact hj
 · have key : ∀ m, (if m = 0 then i else if m - 1 < i then m - 1 else m) = if m = 0 then i else if m - 1 < i then m - 1 else m := fun _ => rfl
   by_cases a1 : j = 0 <;> by_cases a2 : j' = 0 <;> by_cases a3 : j - 1 < i <;> by_cases a4 : j' - 1 < i <;> simp only [a1, a2, a3, a4, if_true, if_false] at he <;> omega
theorem Run.lend {Hl : GH} (_hi : Inc H Hl) (hs : Sl H w) (hr : Run w.heap.size Hl w H' w') : Run w.heap.size H w H w' :=
 ⟨hr.bel, fun _ _ => rfl, fun b o hb => by
  have := hs b o hb
  rw [hr.bel.block b (Array.getElem?_eq_some_iff.1 this).1]; exact this, Inc.rfl H, hr.drw, fun _ _ h => .inl h⟩
def TailOf (k : Nat) (v : Value) (a : Int) (v' : Value) : Prop := ∃ p len cap, v = .slice p len cap ∧ 0 ≤ a ∧ a ≤ len ∧ len ≤ cap ∧
 v' = .slice (if cap = a.toNat then p else p.map (·.add (a.toNat * k))) (len - a.toNat) (cap - a.toNat)
theorem St.tail {G : GH} (h : St H0 w0 H w l) (te : TE P t e k z) {i : Nat} {cells : List Value} (hi : l[i]? = some (.row e k v n cells)) {xs ys : List A} (he : Els G En k cells xs) {a : Int} {kk : IntKind} (hc : Pu.cut xs a (len xs) = some ys) :
 ∃ v', (∀ w, (Instr.slice t v (some (.int kk a)) Option.none Option.none).run P w = .ok v' w) ∧ TailOf k v a v' := by
 obtain ⟨h0, h1, h2, rfl⟩ := cut_some hc
 have hn := h.row_n hi he te.kp
 obtain ⟨⟨g1, g2⟩, g3⟩ := h.ok i _ hi
 simp only [Pu.len] at h1
 rcases g2 with ⟨rfl, h3⟩ | ⟨g, cap, cur, rfl, hg, hh, hle, hcm, hsz, htk⟩
 · exact ⟨.slice (if 0 = a.toNat then Option.none else Option.map (fun q : Addr => q.add (a.toNat * k)) Option.none) (0 - a.toNat) (0 - a.toNat), fun w => by
    have := run_slice_ab (w := w) te (a := Option.none) (len := 0) (cap := 0) (p := a) (q := 0) h0 (by omega) (by omega) (.inr ⟨kk, rfl⟩) (.inl ⟨rfl, rfl⟩)
    simpa using this, _, _, _, rfl, h0, by omega, by omega, rfl⟩
 · exact ⟨.slice (if cap = a.toNat then some ⟨g, 0, Option.none⟩ else Option.map (fun q : Addr => q.add (a.toNat * k)) (some ⟨g, 0, Option.none⟩)) (n - a.toNat) (cap - a.toNat), fun w => by
    have := run_slice_ab (w := w) te (a := some ⟨g, 0, Option.none⟩) (len := n) (cap := cap) (p := a) (q := n) h0 (by omega) (by omega) (.inr ⟨kk, rfl⟩) (.inl ⟨rfl, rfl⟩)
    simpa using this, _, _, _, rfl, h0, by omega, hle, rfl⟩
theorem els_take {cells : List Value} {xs : List A} (h : Els H En k cells xs) : ∀ m, m ≤ xs.length → Els H En k (cells.take (m * k)) (xs.take m) := by
 induction h with
 | nil => intro m hm; simp; exact .nil
 | snoc hs hc hx ih =>
  rename_i cells xs c x
  intro m hm
  have hl := hs.length
  rcases Nat.lt_or_ge xs.length m with hlt | hge
  · have : m = xs.length + 1 := by simp at hm; omega
    subst this
    have t1 : List.take ((xs.length + 1) * k) (cells ++ c) = cells ++ c := List.take_of_length_le (by rw [List.length_append, hl, hc, Nat.add_mul, Nat.one_mul]; exact Nat.le_refl _)
    have t2 : List.take (xs.length + 1) (xs ++ [x]) = xs ++ [x] := List.take_of_length_le (by simp)
    rw [t1, t2]
    exact .snoc hs hc hx
  · rw [List.take_append_of_le_length hge, List.take_append_of_le_length (by rw [hl]; exact Nat.mul_le_mul_right _ hge)]
    exact ih m hge
theorem St.clearTail {G : GH} (h : St H0 w0 H w l) (te : TE P t e k z) {i : Nat} {cells : List Value} (hi : l[i]? = some (.row e k v n cells)) {xs : List A} (he : Els G En k cells xs) {a : Int} {v' : Value} (hv : TailOf k v a v')
 {x0 : A} (hz : En.rel G z.cells.toList x0) (h1 : ∀ u ∈ z.cells.toList, u.oneCell' = true) :
 ∃ w1 cells', (∀ ty, (Builtin.clear_ #[t] ty #[v']).run P w = .ok (.tuple #[]) w1) ∧ St H0 w0 H w1 (l.set i (.row e k v n cells')) ∧ Els G En k cells' (clearL x0 xs a) := by
 unfold clearL
 have hn := h.row_n hi he te.kp
 obtain ⟨⟨g1, g2⟩, g3⟩ := h.ok i _ hi
 have hlen := he.length
 have hset : l.set i (.row e k v n cells) = l := by
  apply List.ext_getElem?
  intro j
  rw [List.getElem?_set]
  split
  · rename_i hij; subst hij; rw [hi]; simp [(List.getElem?_eq_some_iff.1 hi).1]
  · rfl
 obtain ⟨p, len, cap, rfl, h0, ha, hlc, rfl⟩ := hv
 have hlenn : len = n := by
  rcases g2 with ⟨hv, h3⟩ | ⟨g, cap', cur, hv, _⟩ <;> cases hv <;> omega
 subst hlenn
 obtain ⟨info, hinf, hzz, hsz, hby⟩ := te.i
 have hzv : ∀ w, (zeroValue e).run P w = .ok z w := fun w => by simp [zeroValue, typeInfo, hinf, hzz]
 by_cases hfull : len - a.toNat = 0
 · refine ⟨w, cells, fun ty => ?_, by rw [hset]; exact h, ?_⟩
   · rw [hfull]; cases (if cap = a.toNat then p else p.map (·.add (a.toNat * k))) <;> simp [Builtin.clear_, run_underlying te.u]
   · rw [List.take_of_length_le (by omega), show xs.length - a.toNat = 0 by omega]; simpa using he
 · rcases g2 with ⟨hv, h3⟩ | ⟨g, cap', cur, hv, hg, hh, hle, hcm, hszc, htk⟩
   · omega
   · cases hv
     rw [if_neg (by omega)]
     obtain ⟨m, hm⟩ : ∃ m, len - a.toNat = m + 1 := ⟨len - a.toNat - 1, by omega⟩
     have hzs : (Builtin.zeroCells z.cells (m + 1)) = madeCells z.cells ((m + 1) * k) := by simp only [Builtin.zeroCells, madeCells, te.zs]
     have hml : (madeCells z.cells ((m + 1) * k)).toList.length = (m + 1) * k := by simp [size_madeCells]
     have hmul : a.toNat * k + (m + 1) * k = len * k := by rw [← Nat.add_mul]; congr 1; omega
     have hmul2 : len * k ≤ cap * k := Nat.mul_le_mul_right _ hlc
     have hm1 : ∀ u ∈ (madeCells z.cells ((m + 1) * k)).toList, u.oneCell' = true := by
      intro u hu
      simp only [madeCells, Array.toList_map, Array.toList_range, List.mem_map] at hu
      obtain ⟨j, _, rfl⟩ := hu
      have hk := te.kp
      have hlt : j % z.cells.size < z.cells.size := Nat.mod_lt _ (by rw [te.zs]; exact hk)
      rw [getElem!_pos z.cells _ hlt]
      exact h1 _ (by simp)
     have hst := run_storeCells_at P g (a.toNat * k) e (madeCells z.cells ((m + 1) * k)).toList 0 cur w hh (by rw [hml]; omega) hm1
     simp only [Nat.add_zero, hml] at hst
     have hcr : ∀ ty, (Builtin.clear_ #[t] ty #[.slice (Option.map (fun q : Addr => q.add (a.toNat * k)) (some ⟨g, 0, Option.none⟩)) (len - a.toNat) (cap - a.toNat)]).run P w = .ok (.tuple #[]) (w.setRow g (List.take (a.toNat * k) cur.toList ++ (madeCells z.cells ((m + 1) * k)).toList ++ List.drop (a.toNat * k + (m + 1) * k) cur.toList).toArray) := by
      intro ty
      rw [hm]
      simp only [Option.map_some, Addr.add_lit, Nat.zero_add]
      simp [Builtin.clear_, run_underlying te.u, hzv, hzs, hst]
     refine ⟨_, cells.take (a.toNat * k) ++ (madeCells z.cells ((m + 1) * k)).toList, hcr, ?_, ?_⟩
     · refine h.upd hi (grownBy_setRow w g _) (Nat.le_refl _) ⟨⟨?_, .inr ⟨g, cap, _, rfl, hg, setRow_heap w g _ _ _ _ hh, hle, hcm, ?_, ?_⟩⟩, ?_⟩ (fun b hb => .inl hb)
       · rw [List.length_append, hml, List.length_take, g1]; omega
       · simp only [List.size_toArray, List.length_append, List.length_take, List.length_drop, Array.length_toList, hml, hszc]; omega
       · simp only [List.append_assoc]
         rw [← htk, List.take_take, Nat.min_eq_left (by omega), ← List.append_assoc, List.take_left']
         rw [List.length_append, hml, List.length_take, Array.length_toList, hszc]; omega
       · intro c hc
         simp only [List.mem_append] at hc
         rcases hc with hc | hc
         · exact g3 c (List.mem_of_mem_take hc)
         · exact hm1 c hc
     · rw [show xs.length - a.toNat = m + 1 by omega]
       exact (els_take he a.toNat (by omega)).app (Els.made te.zs hz _)
theorem St.cutRow {G : GH} (h : St H0 w0 H w l) (te : TE P t e k z) {i : Nat} {cells : List Value} (hi : l[i]? = some (.row e k v n cells)) {xs ys : List A} (he : Els G En k cells xs) {b : Int} {kk : IntKind} (hc : Pu.cut xs 0 b = some ys) :
 ∃ v' n' cells', (∀ w, (Instr.slice t v Option.none (some (.int kk b)) Option.none).run P w = .ok v' w) ∧ St H0 w0 H w (l.set i (.row e k v' n' cells')) ∧ Els G En k cells' ys ∧ ((bl cells).Nodup → (bl cells').Nodup) := by
 obtain ⟨h0, h1, h2, rfl⟩ := cut_some hc
 have hn := h.row_n hi he te.kp
 obtain ⟨⟨g1, g2⟩, g3⟩ := h.ok i _ hi
 have hle : b.toNat * k ≤ n * k := Nat.mul_le_mul_right _ (by omega)
 have hels : Els G En k (cells.take (b.toNat * k)) (List.drop (Int.toNat 0) (List.take b.toNat xs)) := by
  simpa using els_take he b.toNat (by omega)
 have hnd : (bl cells).Nodup → (bl (cells.take (b.toNat * k))).Nodup := fun h => h.sublist ((List.take_sublist _ _).filterMap _)
 have hone : ∀ u ∈ cells.take (b.toNat * k), u.oneCell' = true := fun u hu => g3 u (List.mem_of_mem_take hu)
 rcases g2 with ⟨rfl, h3⟩ | ⟨g, cap, cur, rfl, hg, hh, hlc, hcm, hsz, htk⟩
 · have hb0 : b.toNat = 0 := by omega
   have hr : ∀ w, (Instr.slice t (.slice Option.none 0 0) Option.none (some (.int kk b)) Option.none).run P w = .ok (.slice Option.none 0 0) w := fun w => by
    have := run_slice_ab (w := w) te (a := Option.none) (len := 0) (cap := 0) (p := 0) (q := b) (Int.le_refl 0) (by omega) (by omega) (.inl ⟨rfl, rfl⟩) (.inr ⟨kk, rfl⟩)
    simpa [hb0] using this
   refine ⟨_, b.toNat, _, hr, ?_, hels, hnd⟩
   rw [show .slice Option.none 0 0 = Value.slice Option.none 0 0 from rfl]
   refine h.upd hi ⟨rfl, rfl, rfl, Nat.le_refl _, fun _ _ _ => rfl⟩ (Nat.le_refl _) ⟨⟨?_, .inl ⟨rfl, hb0⟩⟩, hone⟩ (fun b hb => .inl hb)
   rw [List.length_take, g1]; omega
 · have hr : ∀ w, (Instr.slice t (.slice (some ⟨g, 0, Option.none⟩) n cap) Option.none (some (.int kk b)) Option.none).run P w = .ok (.slice (some ⟨g, 0, Option.none⟩) b.toNat cap) w := fun w => by
    have := run_slice_ab (w := w) te (a := some ⟨g, 0, Option.none⟩) (len := n) (cap := cap) (p := 0) (q := b) (Int.le_refl 0) (by omega) (by omega) (.inl ⟨rfl, rfl⟩) (.inr ⟨kk, rfl⟩)
    simpa [Addr.add_lit] using this
   refine ⟨_, b.toNat, _, hr, ?_, hels, hnd⟩
   refine h.upd hi ⟨rfl, rfl, rfl, Nat.le_refl _, fun _ _ _ => rfl⟩ (Nat.le_refl _) ⟨⟨?_, .inr ⟨g, cap, cur, rfl, hg, hh, by omega, hcm, hsz, ?_⟩⟩, hone⟩ (fun b hb => .inl hb)
   · rw [List.length_take, g1]; omega
   · rw [← htk, List.take_take, Nat.min_eq_left hle]
theorem St.selT {a L : List MO} (h : St H0 w0 H w (a ++ L)) (is : List Nat) (hnd : is.Nodup) {l' : List MO} (hl : is.map (a[·]?) = l'.map some) : St H0 w0 H w (l' ++ L) := by
 have hlen : is.length = l'.length := by simpa using congrArg List.length hl
 have key : ∀ (j : Nat) (o : MO), l'[j]? = some o → ∃ i, is[j]? = some i ∧ a[i]? = some o := by
  intro j o hj
  have h1 : (l'.map some)[j]? = some (some o) := by simp [hj]
  rw [← hl, List.getElem?_map] at h1
  cases hi : is[j]? with
  | none => rw [hi] at h1; cases h1
  | some i => rw [hi] at h1; exact ⟨i, rfl, by simpa using h1⟩
 refine h.reidx _ (fun j => if j < l'.length then is.getD j 0 else a.length + (j - l'.length)) (fun j o hj => ?_) (fun j j' h1 h2 he => ?_)
 · by_cases hlt : j < l'.length
   · rw [List.getElem?_append_left hlt] at hj
     obtain ⟨i, g1, g2⟩ := key j o hj
     have : is.getD j 0 = i := by rw [List.getD_eq_getElem?_getD, g1]; rfl
     rw [if_pos hlt, this, List.getElem?_append_left (List.getElem?_eq_some_iff.1 g2).1]; exact g2
   · rw [List.getElem?_append_right (by omega)] at hj
     rw [if_neg hlt, List.getElem?_append_right (by omega)]
     simpa using hj
 · have small : ∀ j, j < l'.length → is.getD j 0 < a.length := fun j hlt => by
    obtain ⟨i, g1, g2⟩ := key j l'[j] (by simp [hlt])
    have : is.getD j 0 = i := by rw [List.getD_eq_getElem?_getD, g1]; rfl
    rw [this]; exact (List.getElem?_eq_some_iff.1 g2).1
   by_cases a1 : j < l'.length <;> by_cases a2 : j' < l'.length <;> simp only [a1, a2, if_true, if_false] at he
   · have e1 : is[j]'(by omega) = is[j']'(by omega) := by
      have x1 : is.getD j 0 = is[j]'(by omega) := by rw [List.getD_eq_getElem?_getD, List.getElem?_eq_getElem (by omega)]; rfl
      have x2 : is.getD j' 0 = is[j']'(by omega) := by rw [List.getD_eq_getElem?_getD, List.getElem?_eq_getElem (by omega)]; rfl
      rw [← x1, ← x2]; exact he
     exact (List.getElem_inj hnd).1 e1
   · have := small j a1; omega
   · have := small j' a2; omega
   · omega
theorem E.clear {f : Fm} {x : Operand} {d : Option Tmp} {ty : TypeId} {pos : String} {aft : Array Edge} {gd : Option (Nat × Bool)} (hx : ev f x = v) (hr : ∀ ty, (Builtin.clear_ #[t] ty #[v]).run P w = .ok (.tuple #[]) w') :
 (execOp (ev f) ⟨d, .call ⟨.builtin .clear, #[x], #[t]⟩, ty, pos, aft, gd⟩).run P w = .ok (.value (.tuple #[])) w' := by
 simp [execOp, resolve, invoke, builtin, hx, hr]
end
end Go.Mr
namespace Go.Mr
open Go.RowKit Go.Pu
theorem Sl.of_inc {H H' : GH} {w : World} (hi : Inc H H') (h : Sl H' w) : Sl H w := fun b o hb => h b o (hi b o hb)
section
variable {δ : List Nat} {P : Program} {N : Nat} {f : Fm} {w w' : World} {ops : Array Oper} {S : World → Prop} {M : Fm → World → Prop} {n : Nat} {ls l' : Array Bool} {H : GH}
end
theorem RSl.nilTest {α : Type} {P : Program} {H : GH} {En : Enc α} {t e k : Nat} {z v : Value} {xs : List α} (te : TE P t e k z) (h : RSl H En k v xs) :
 ∃ b, (∀ (f : Fm) (x y : Operand) (n c : Nat) (d : Option Tmp) (t' ty : TypeId) (pos : String) (aft : Array Edge) (gd : Option (Nat × Bool)) (w : World), ev f x = v → ev f y = .slice none n c →
  (execOp (ev f) ⟨d, .binOp .eql t x y t', ty, pos, aft, gd⟩).run P w = .ok (.value (.bool b)) w) ∧ (b = true → xs = []) := by
 obtain ⟨a, cap, rfl, ⟨_, _, _⟩, hx⟩ := h
 refine ⟨a.isNone, fun f x y n c d t' ty pos aft gd w h1 h2 => ?_, fun hn => ?_⟩
 · simp [execOp, h1, h2, Go.Lib.run_eql_slice_nil w t e a xs.length cap n c te.u, eqGuard_at_slice]
 · cases a with
   | some a => cases hn
   | none =>
    cases xs with
    | nil => rfl
    | cons x xs =>
     obtain ⟨p, _, h0, _⟩ := hx 0 x rfl
     cases h0
theorem app_nil2 {α : Type} : app ([] : List α) [] = some [] := rfl
end Go.Mr
namespace Go.Mr
open Go.RowKit Go.Pu
def okO : Obj → Bool
 | .cells _ _ fr => fr == (0, 0)
 | _ => false
def up (B : Nat) (H : GH) : GH := fun b => if b < B then none else (H b).filter okO
theorem up_iff {B : Nat} {H : GH} {b : Nat} {o : Obj} : up B H b = some o ↔ B ≤ b ∧ H b = some o ∧ okO o = true := by
 unfold up
 split
 · exact ⟨nofun, fun h => by omega⟩
 · rename_i hlt
   rw [Option.filter_eq_some_iff]
   exact ⟨fun h => ⟨by omega, h.1, h.2⟩, fun h => ⟨h.2.1, h.2.2⟩⟩
theorem upI {B : Nat} {H : GH} : Inc (up B H) H := fun _ _ h => (up_iff.1 h).2.1
theorem up_mono {B : Nat} {H H' : GH} (h : Inc H H') : Inc (up B H) (up B H') := fun b o hb => by
 rw [up_iff] at *; exact ⟨hb.1, h b o hb.2.1, hb.2.2⟩
theorem up_le {B B' : Nat} {H : GH} (h : B ≤ B') : Inc (up B' H) (up B H) := fun b o hb => by
 rw [up_iff] at *; exact ⟨Nat.le_trans h hb.1, hb.2⟩
def New (H : GH) (cs : List Value) : Prop := ∀ b ∈ bl cs, H b = none
theorem New.anti {H H' : GH} {cs : List Value} (h : New H' cs) (hi : Inc H H') : New H cs := fun b hb => by
 cases hh : H b with
 | none => rfl
 | some o => have := hi b o hh; rw [h b hb] at this; cases this
section
variable {P : Program} {w w' : World} {H0 H H' : GH} {w0 : World} {l : List MO} {e k n : Nat} {v : Value} {A : Type} {En : Enc A}
theorem Els.dom {cells : List Value} {xs : List A} (h : Els H En k cells xs) : ∀ b ∈ bl cells, H b ≠ none := by
 induction h with
 | nil => intro b hb; cases hb
 | snoc _ _ hx ih =>
  intro b hb
  rw [bl_app] at hb
  rcases List.mem_append.1 hb with h | h
  · exact ih b h
  · exact En.dom hx b h
theorem nd_app {a b : List Value} (ha : (bl a).Nodup) (hb : (bl b).Nodup) (hd : ∀ x ∈ bl a, H x ≠ none) (hn : New H b) : (bl (a ++ b)).Nodup := by
 rw [bl_app]
 exact List.nodup_append.2 ⟨ha, hb, fun x hx y hy e => hd x hx (e ▸ hn y hy)⟩
theorem nd_one (v : Value) : (bl [v]).Nodup := by
 unfold bl
 cases h : neb v <;> simp [h]
theorem nd_put {a b : List Value} {i j : Nat} (hij : i ≤ j) (ha : (bl a).Nodup) (hb : (bl b).Nodup) (hd : ∀ x ∈ bl a, H x ≠ none) (hn : New H b) : (bl (a.take i ++ b ++ a.drop j)).Nodup := by
 have h1 : (bl (a ++ b)).Nodup := nd_app ha hb hd hn
 have h2 : (bl (a.take i ++ a.drop j ++ b)).Nodup := by
  have hs : (a.take i ++ a.drop j).Sublist a := by
   have := (List.Sublist.refl (a.take i)).append (List.drop_sublist_drop_left a hij)
   rwa [List.take_append_drop] at this
  have hs2 : (bl (a.take i ++ a.drop j ++ b)).Sublist (bl (a ++ b)) := (hs.append (List.Sublist.refl b)).filterMap neb
  exact h1.sublist hs2
 have hp : (bl (a.take i ++ b ++ a.drop j)).Perm (bl (a.take i ++ a.drop j ++ b)) := by
  unfold bl
  refine List.Perm.filterMap neb ?_
  rw [List.append_assoc, List.append_assoc]
  exact List.Perm.append_left _ List.perm_append_comm
 exact hp.nodup_iff.2 h2
theorem St.sealRowU {xs : List A} (h : St H0 w0 H w l) {i : Nat} {cells : List Value} {l' : List MO} (hi : l[i]? = some (.row e k v n cells)) (he : Els (up w0.heap.size H) En k cells xs) (hk : 0 < k) (hl : l.eraseIdx i = l') :
 ∃ H1, St H0 w0 H1 w l' ∧ Inc H H1 ∧ RSl (up w0.heap.size H1) En k v xs ∧ New H [v] := by
 obtain ⟨H1, h1, h2, h3⟩ := h.sealRow hi (he.mono upI) hk hl
 refine ⟨H1, h1, h2, ?_, fun b hb => ?_⟩
 · obtain ⟨a, cap, rfl, g1, g2⟩ := h3
   refine ⟨a, cap, rfl, g1, fun j x hx => ?_⟩
   obtain ⟨p, cs, rfl, g4, ⟨arr, t, fr, g5, g6⟩, _⟩ := g2 j x hx
   obtain ⟨c, q1, q2, q3⟩ := he.get _ _ hx
   obtain ⟨⟨k1, k2⟩, _⟩ := h.ok i _ hi
   rcases k2 with ⟨hv, _⟩ | ⟨g, cap', cur, hv, hg, hh, hle, hcm, hsz, htk⟩
   · cases hv
   · cases hv
     refine ⟨_, c, rfl, q1, ⟨arr, t, fr, ?_, g6.1, fun m u hu => ?_⟩, En.mono (up_mono h2) q2⟩
     · have hnow := h1.sl _ _ g5
       rw [Addr.add_lit] at g5 hnow ⊢
       simp only at g5 hnow ⊢
       rw [hh] at hnow
       cases hnow
       exact up_iff.2 ⟨hg, g5, rfl⟩
     · have h4 := q3 m u hu
       rw [Addr.add_lit] at g5
       have hnow := h1.sl _ _ g5
       simp only at hnow
       rw [hh] at hnow
       cases hnow
       rw [← htk, List.getElem?_take] at h4
       split at h4
       · rw [Addr.add_lit]; simpa using h4
       · cases h4
 · obtain ⟨u, hu, hn⟩ := mem_bl hb
   simp only [List.mem_singleton] at hu
   subst hu
   refine h.out i _ b hi ?_
   cases u <;> simp only [neb] at hn <;> try (cases hn)
   rename_i a m c
   cases a with
   | none => cases hn
   | some a =>
    simp only at hn
    split at hn
    · cases hn
    · exact hn
theorem New.of_up (hs : Sl H w) {cs : List Value} (hd : ∀ b ∈ bl cs, up w.heap.size H' b ≠ none) : New H cs := fun b hb => by
 cases hh : H b with
 | none => rfl
 | some o =>
  have h1 := (Array.getElem?_eq_some_iff.1 (hs b o hh)).1
  have := hd b hb
  unfold up at this
  rw [if_pos h1] at this
  exact absurd rfl this
def over (B : Nat) (H H' : GH) : GH := fun b => if b < B then H b else (H' b).filter still
theorem okO_cells {o : Obj} (h : okO o = true) : still o = true := by cases o <;> first | rfl | cases h
theorem over_ge {B : Nat} {H H' : GH} {b : Nat} {o : Obj} (hb : B ≤ b) : over B H H' b = some o ↔ H' b = some o ∧ still o = true := by
 unfold over; rw [if_neg (by omega), Option.filter_eq_some_iff]
theorem Run.lendM {Hl : GH} (_hi : Inc H Hl) (hs : Sl H w) (hr : Run w.heap.size Hl w H' w') : Run w.heap.size H w (over w.heap.size H H') w' := by
 refine ⟨hr.bel, fun b hb => by unfold over; rw [if_pos hb], fun b o hb => ?_, fun b o hb => ?_, hr.drw, fun b o hb => ?_⟩
 · by_cases hlt : b < w.heap.size
   · unfold over at hb; rw [if_pos hlt] at hb
     rw [hr.bel.block b hlt]; exact hs b o hb
   · exact hr.sl b o ((over_ge (by omega)).1 hb).1
 · have hlt := (Array.getElem?_eq_some_iff.1 (hs b o hb)).1
   unfold over; rw [if_pos hlt]; exact hb
 · by_cases hlt : b < w.heap.size
   · unfold over at hb; rw [if_pos hlt] at hb; exact .inl hb
   · exact .inr ((over_ge (by omega)).1 hb).2
theorem St.lendM {Hl : GH} {lo : List MO} (hi : Inc H Hl) (hs : Sl H w) (hr : St Hl w H' w' lo) : St H w (over w.heap.size H H') w' lo := by
 refine ⟨Run.lendM hi hs hr.run, hr.ok, fun i o b hi' hb => ?_, hr.dis⟩
 have := ((hr.ok i o hi').lt b hb).1
 unfold over
 rw [if_neg (by omega), hr.out i o b hi' hb]; rfl
theorem up_over {B : Nat} {H H' : GH} : Inc (up B H') (up B (over B H H')) := fun b o h => by
 have h := up_iff.1 h
 exact up_iff.2 ⟨h.1, (over_ge h.1).2 ⟨h.2.1, okO_cells h.2.2⟩, h.2.2⟩
theorem St.lendX {Hl : GH} {lo : List MO} (hi : Inc H Hl) (hs : Sl H w) (hr : St Hl w H' w' lo) : ∃ Hm, St H w Hm w' lo ∧ Inc (up w.heap.size H') (up w.heap.size Hm) :=
 ⟨_, St.lendM hi hs hr, up_over⟩
theorem Els.any {cells : List Value} {xs : List A} (h : Els H En k cells xs) (hE : ∀ (H H' : GH) cs x, En.rel H cs x → En.rel H' cs x) : Els H' En k cells xs := by
 induction h with
 | nil => exact .nil
 | snoc _ hc hx ih => exact .snoc ih hc (hE _ _ _ _ hx)
end
end Go.Mr
namespace Go.Mr
open Go.RowKit Go.Pu
section
variable {P : Program} {w w' : World} {H0 H H' : GH} {w0 : World} {l : List MO} {e k n t : Nat} {v u : Value} {A : Type} {En : Enc A}
def gset (H : GH) (b : Nat) (o : Obj) : GH := fun c => if c = b then some o else H c
theorem St.poke (h : St H0 w0 H w l) (hs0 : Sl H0 w0) {b : Nat} {arr : Array Value} {fr : Nat × Nat} (hb : up w0.heap.size H b = some (.cells arr e fr)) {j : Nat} (hj : j < arr.size) (ts : ∀ w, (sizeOf t).run P w = .ok 1 w) (hu : u.cells = #[u]) (h1 : u.oneCell' = true) :
 ∃ w1 arr', (Instr.storeAt t (.pointer (some ⟨b, j, Option.none⟩)) u).run P w = .ok () w1 ∧ St H0 w0 (gset H b (.cells arr' e (0, 0))) w1 l ∧
  fr = (0, 0) ∧ arr' = arr.set j u hj := by
 obtain ⟨hB, hH, hok⟩ := up_iff.1 hb
 have hfr : fr = (0, 0) := by simpa [okO] using hok
 subst hfr
 have hw := h.sl b _ hH
 have hst := run_storeCells_at P b j e [u] 0 arr w hw (by simp; omega) (by simpa using h1)
 simp only [Nat.add_zero, List.length_singleton] at hst
 have harr : (List.take j arr.toList ++ [u] ++ List.drop (j + 1) arr.toList).toArray = arr.set j u hj := by
  apply Array.ext'
  simp [List.set_eq_take_append_cons_drop, hj]
 rw [harr] at hst
 refine ⟨w.setRow b (arr.set j u hj), arr.set j u hj, ?_, ?_, rfl, rfl⟩
 · simp [Instr.storeAt, Instr.sureAddr, storeVar, ts, hu, hst]
 · have hg := grownBy_setRow w b (arr.set j u hj)
   have hnb : ∀ (i : Nat) (o : MO), l[i]? = some o → o.blk ≠ some b := fun i o hi e => by
    have := h.out i o b hi e; rw [hH] at this; cases this
   have hbs : b < w.heap.size := (Array.getElem?_eq_some_iff.1 hw).1
   refine ⟨⟨h.run.bel.grown hg h.size (fun c hc => by cases hc; exact hB), fun c hc => ?_, fun c o hc => ?_, fun c o hc => ?_, Nat.le_trans h.run.drw (Nat.le_refl _), fun c o hc => ?_⟩, fun i o hi => (h.ok i o hi).kept hg.size fun c hc => ?_, fun i o c hi hc => ?_, h.dis⟩
   · unfold gset; rw [if_neg (by omega)]; exact h.run.agr c hc
   · unfold gset at hc
     split at hc
     · rename_i he; subst he; cases hc; exact setRow_heap w c _ _ _ _ hw
     · rename_i hne
       have := h.sl c o hc
       rw [hg.block c (Array.getElem?_eq_some_iff.1 this).1 (by simpa using hne)]; exact this
   · have hlt : c < w0.heap.size := (Array.getElem?_eq_some_iff.1 (hs0 c o hc)).1
     unfold gset; rw [if_neg (by omega)]; exact h.inc c o hc
   · unfold gset at hc
     split at hc
     · cases hc; exact .inr rfl
     · exact h.run.cel c o hc
   · exact hg.block c ((h.ok i o hi).lt c hc).2 (fun e => hnb i o hi (by rw [hc, e]))
   · unfold gset
     rw [if_neg (fun e => hnb i o hi (by rw [hc, e]))]
     exact h.out i o c hi hc
def Nest {A : Type} (G : GH) (En : Enc A) (k : Nat) (v : Value) (xs : List A) (c : List Value) : Prop :=
 RSl G En k v xs ∧ Els G En k c xs ∧ (∀ a len cap, v = .slice (some a) len cap → xs ≠ [] → CAt G a c) ∧ (bl c).Nodup ∧ ∀ b ∈ bl [v], b ∉ bl c
theorem St.sealRowN {xs : List A} (h : St H0 w0 H w l) {i : Nat} {cells : List Value} {l' : List MO} (hi : l[i]? = some (.row e k v n cells)) (he : Els (up w0.heap.size H) En k cells xs) (nd : (bl cells).Nodup) (hk : 0 < k) (hl : l.eraseIdx i = l') :
 ∃ H1, St H0 w0 H1 w l' ∧ Inc H H1 ∧ Nest (up w0.heap.size H1) En k v xs cells ∧ New H [v] := by
 obtain ⟨H1, h1, h2, h3, h4⟩ := h.sealRowU hi he hk hl
 refine ⟨H1, h1, h2, ⟨h3, he.mono (up_mono h2), ?_, nd, fun b hb hc => ?_⟩, h4⟩
 · rintro a len cap rfl hne
   obtain ⟨x, hx⟩ : ∃ x, xs[0]? = some x := by
    cases xs with
    | nil => exact absurd rfl hne
    | cons x xs => exact ⟨x, rfl⟩
   obtain ⟨a', cap', hv, _, g2⟩ := h3
   cases hv
   obtain ⟨p, cs, hp, _, ⟨arr, t, fr, g4, g5, _⟩, _⟩ := g2 0 x hx
   cases hp
   rw [Nat.zero_mul, Addr.add_zero'] at g4 g5
   obtain ⟨⟨k1, k2⟩, _⟩ := h.ok i _ hi
   rcases k2 with ⟨hv, _⟩ | ⟨g, cap', cur, hv, hg, hh, hle, hcm, hsz, htk⟩
   · cases hv
   · cases hv
     have hnow := h1.sl _ _ (upI _ _ g4)
     simp only at hnow
     rw [hh] at hnow
     cases hnow
     refine ⟨_, _, _, g4, rfl, fun j c hc => ?_⟩
     rw [← htk, List.getElem?_take] at hc
     split at hc
     · simpa using hc
     · cases hc
 · have := h4 b hb
   exact Els.dom (he.mono upI) b hc this
theorem RSl.only {G G' : GH} {xs : List A} (r : RSl G En k v xs) (hE : ∀ (H H' : GH) cs x, En.rel H cs x → En.rel H' cs x) (h : ∀ b ∈ bl [v], G' b = G b) : RSl G' En k v xs := by
 obtain ⟨a, cap, rfl, g1, g2⟩ := r
 refine ⟨a, cap, rfl, g1, fun i x hx => ?_⟩
 obtain ⟨p, cs, rfl, g3, ⟨arr, e, fr, g4, g5⟩, g6⟩ := g2 i x hx
 refine ⟨p, cs, rfl, g3, ⟨arr, e, fr, ?_, g5⟩, hE _ _ _ _ g6⟩
 have hb : (p.add (i * k)).block = p.block := by unfold Addr.add; split <;> rfl
 rw [hb] at g4 ⊢
 rw [h p.block ?_]
 · exact g4
 · refine mem_bl1 ?_
   have : 0 < xs.length := Nat.lt_of_le_of_lt (Nat.zero_le _) (List.getElem?_eq_some_iff.1 hx).1
   simp only [neb]
   rw [if_neg (by omega)]
theorem bl_get {c : List Value} {i : Nat} {u : Value} (h : c[i]? = some u) : ∀ b ∈ bl [u], b ∈ bl c := fun b hb => by
 obtain ⟨u', hu, hn⟩ := mem_bl hb
 simp only [List.mem_singleton] at hu
 subst hu
 exact List.mem_filterMap.2 ⟨u', List.mem_of_getElem? h, hn⟩
theorem bl_apart : ∀ {c : List Value} {i j : Nat} {u u' : Value}, (bl c).Nodup → c[i]? = some u → c[j]? = some u' → i < j → ∀ b ∈ bl [u], b ∉ bl [u'] := by
 intro c
 induction c with
 | nil => intro i j u u' _ h; simp at h
 | cons x c ih =>
  intro i j u u' nd hi hj hij b hb hb'
  have nd' : (bl [x] ++ bl c).Nodup := by rw [← bl_app]; exact nd
  rw [List.nodup_append] at nd'
  cases j with
  | zero => omega
  | succ j =>
   cases i with
   | zero => simp at hi; subst hi; exact nd'.2.2 b hb b (bl_get (by simpa using hj) b hb') rfl
   | succ i => exact ih nd'.2.1 (by simpa using hi) (by simpa using hj) (by omega) b hb hb'
theorem bl_apart' {c : List Value} {i j : Nat} {u u' : Value} (nd : (bl c).Nodup) (hi : c[i]? = some u) (hj : c[j]? = some u') (hij : i ≠ j) : ∀ b ∈ bl [u'], b ∉ bl [u] := fun b hb hb' => by
 rcases Nat.lt_or_gt_of_ne hij with h | h
 · exact bl_apart nd hi hj h b hb' hb
 · exact bl_apart nd hj hi h b hb hb'
theorem up_same {B : Nat} {H H' : GH} {b : Nat} (h : H' b = H b) : up B H' b = up B H b := by unfold up; rw [h]
end
end Go.Mr
namespace Go.Mr
open Go.RowKit Go.Pu
section
variable {P : Program} {w w' : World} {H0 H H' Hs : GH} {w0 : World} {l : List MO} {t e k : Nat} {v u : Value} {A : Type} {En : Enc A} {B lo hi : Nat}
def sg (lo hi : Nat) (H : GH) : GH := fun b => if b < hi then up lo H b else none
theorem sg_iff {b : Nat} {o : Obj} : sg lo hi H b = some o ↔ lo ≤ b ∧ b < hi ∧ H b = some o ∧ okO o = true := by
 unfold sg
 split
 · rename_i h; rw [up_iff]; constructor
   · rintro ⟨a, b, c⟩; exact ⟨a, h, b, c⟩
   · rintro ⟨a, _, b, c⟩; exact ⟨a, b, c⟩
 · rename_i h; constructor
   · nofun
   · rintro ⟨_, a, _⟩; exact absurd a h
theorem sgI : Inc (sg lo hi H) H := fun _ _ h => (sg_iff.1 h).2.2.1
theorem sg_up {lo' : Nat} (h : lo' ≤ lo) (hi' : Inc H H') : Inc (sg lo hi H) (up lo' H') := fun b o hb => by
 obtain ⟨a, b, c, d⟩ := sg_iff.1 hb
 exact up_iff.2 ⟨by omega, hi' _ _ c, d⟩
theorem sg_of (h : Sl H w) : Inc (up lo H) (sg lo w.heap.size H) := fun b o hb => by
 obtain ⟨a, c, d⟩ := up_iff.1 hb
 exact sg_iff.2 ⟨a, (Array.getElem?_eq_some_iff.1 (h _ _ c)).1, c, d⟩
theorem sg_mono (h : Inc H H') : Inc (sg lo hi H) (sg lo hi H') := fun b o hb => by
 obtain ⟨a, b, c, d⟩ := sg_iff.1 hb
 exact sg_iff.2 ⟨a, b, h _ _ c, d⟩
theorem sg_keep {lo' hi' : Nat} (h : ∀ b, b < lo' ∨ hi' ≤ b → ∀ o, H b = some o → H' b = some o) (ho : hi ≤ lo' ∨ hi' ≤ lo) : Inc (sg lo hi H) (sg lo hi H') := fun b o hb => by
 obtain ⟨a, b, c, d⟩ := sg_iff.1 hb
 exact sg_iff.2 ⟨a, b, h _ (by omega) _ c, d⟩
def LocE (En : Enc A) : Prop := ∀ (H H' : GH) cs x, En.rel H cs x → (∀ b ∈ bl cs, H' b = H b) → En.rel H' cs x
def FlatE (En : Enc A) : Prop := ∀ (H H' : GH) cs x, En.rel H cs x → En.rel H' cs x ∧ bl cs = []
theorem FlatE.loc (h : FlatE En) : LocE En := fun H H' cs x hr _ => (h H H' cs x hr).1
theorem FlatE.rel (h : FlatE En) (H H' : GH) (cs : List Value) (x : A) : En.rel H cs x → En.rel H' cs x := fun hr => (h H H' cs x hr).1
theorem eI_flat : FlatE eI := by rintro H H' cs x rfl; exact ⟨rfl, rfl⟩
theorem eL_loc (h : FlatE En) : LocE (eL En k) := by
 rintro H H' cs x ⟨v, rfl, hr⟩ hb
 exact ⟨v, rfl, hr.only h.rel hb⟩
theorem Nest.mono {G G' : GH} {xs : List A} {c : List Value} (h : Nest G En k v xs c) (hi : Inc G G') : Nest G' En k v xs c :=
 ⟨h.1.mono hi, h.2.1.mono hi, fun a len cap hv hne => (h.2.2.1 a len cap hv hne).mono hi, h.2.2.2⟩
theorem Nest.rsl {G : GH} {xs : List A} {c : List Value} (h : Nest G En k v xs c) : RSl G En k v xs := h.1
theorem Nest.dom {G : GH} {xs : List A} {c : List Value} (h : Nest G En k v xs c) : ∀ b, b ∈ bl [v] ∨ b ∈ bl c → G b ≠ none := fun b hb => by
 rcases hb with hb | hb
 · exact h.1.dom b hb
 · exact h.2.1.dom b hb
theorem bl_sub {c : List Value} {i j : Nat} : ∀ b ∈ bl ((c.drop i).take j), b ∈ bl c := fun b hb => by
 obtain ⟨u, hu, hn⟩ := mem_bl hb
 exact List.mem_filterMap.2 ⟨u, List.mem_of_mem_drop (List.mem_of_mem_take hu), hn⟩
theorem Els.at {G : GH} {xs : List A} {c : List Value} (h : Els G En k c xs) {i : Nat} {x : A} (hx : xs[i]? = some x) : ((c.drop (i * k)).take k).length = k ∧ En.rel G ((c.drop (i * k)).take k) x := by
 obtain ⟨ci, h1, h2, h3⟩ := h.get i x hx
 have e : (c.drop (i * k)).take k = ci := by
  apply List.ext_getElem?
  intro j
  by_cases hj : j < k
  · rw [List.getElem?_take_of_lt hj, List.getElem?_drop]
    have : j < ci.length := by omega
    rw [h3 j ci[j] (by simp [this])]; simp [this]
  · rw [List.getElem?_eq_none (by simp; omega), List.getElem?_eq_none (by omega)]
 rw [e]; exact ⟨h1, h2⟩
theorem Els.mk' {G : GH} : ∀ (xs : List A) (c : List Value), c.length = xs.length * k → (∀ (i : Nat) x, xs[i]? = some x → En.rel G ((c.drop (i * k)).take k) x) → Els G En k c xs := by
 intro xs
 rw [← List.reverse_reverse xs]
 generalize xs.reverse = d
 induction d with
 | nil => intro c hl _; simp at hl; subst hl; exact .nil
 | cons x d ih =>
  intro c hl h
  rw [List.reverse_cons] at hl h ⊢
  have hl' : c.length = d.reverse.length * k + k := by rw [hl, List.length_append, Nat.add_mul]; simp
  have hc : c = c.take (d.reverse.length * k) ++ c.drop (d.reverse.length * k) := (List.take_append_drop _ _).symm
  rw [hc]
  refine .snoc (ih _ (by rw [List.length_take]; omega) fun i y hy => ?_) (by rw [List.length_drop]; omega) ?_
  · have hi : i < d.reverse.length := (List.getElem?_eq_some_iff.1 hy).1
    have := h i y (by rw [List.getElem?_append_left hi]; exact hy)
    have hm : i * k + k ≤ d.reverse.length * k := by rw [show i * k + k = (i + 1) * k by rw [Nat.add_mul, Nat.one_mul]]; exact Nat.mul_le_mul_right _ hi
    rw [List.drop_take, List.take_take, Nat.min_eq_left (by omega)]; exact this
  · have := h d.reverse.length x (by simp)
    rw [List.take_of_length_le (by rw [List.length_drop]; omega)] at this
    exact this
theorem Nest.same {G G' : GH} {xs : List A} {c : List Value} (h : Nest G En k v xs c) (hE : LocE En) (hb : ∀ b, b ∈ bl [v] ∨ b ∈ bl c → G' b = G b) : Nest G' En k v xs c := by
 obtain ⟨h1, h2, h3, h4, h5⟩ := h
 have hE2 : Els G' En k c xs := Els.mk' xs c h2.length fun i x hx => hE G G' _ x (h2.at hx).2 fun b hb' => hb b (.inr (bl_sub b hb'))
 have hC : ∀ a len cap, v = .slice (some a) len cap → xs ≠ [] → CAt G' a c := fun a len cap hv hne => by
  obtain ⟨arr, e, fr, g4, g5⟩ := h3 a len cap hv hne
  refine ⟨arr, e, fr, ?_, g5⟩
  rw [hb a.block (.inl ?_)]; exact g4
  subst hv
  obtain ⟨_, _, hv, _⟩ := h1
  cases hv
  refine mem_bl1 ?_
  have : xs.length ≠ 0 := fun e => hne (List.eq_nil_of_length_eq_zero e)
  simp only [neb]; rw [if_neg this]
 refine ⟨?_, hE2, hC, h4, h5⟩
 obtain ⟨a, cap, rfl, g1, g2⟩ := h1
 refine ⟨a, cap, rfl, g1, fun i x hx => ?_⟩
 obtain ⟨p, cs, rfl, g3, g4, g6⟩ := g2 i x hx
 obtain ⟨arr, e, fr, q1, q2, q3⟩ := hC p _ _ rfl (by intro e; subst e; simp at hx)
 have hat := hE2.at hx
 refine ⟨p, _, rfl, hat.1, ⟨arr, e, fr, ?_, ?_, fun j u hu => ?_⟩, hat.2⟩
 · rw [show (p.add (i * k)).block = p.block by unfold Addr.add; split <;> rfl]; exact q1
 · unfold Addr.add; split
   · exact q2
   · rfl
 · rw [List.getElem?_take] at hu
   split at hu
   · rw [List.getElem?_drop] at hu
     have := q3 _ _ hu
     have ho : (p.add (i * k)).off = p.off + i * k := by unfold Addr.add; split <;> simp_all
     rw [ho, Nat.add_assoc]; exact this
   · cases hu
structure Wr (Hs H : GH) (p : Addr) (ci ci' : List Value) : Prop where
 out : ∀ b, b ≠ p.block → b ∉ bl ci → H b = Hs b
 arr : ∃ arr arr' e, Hs p.block = some (.cells arr e (0, 0)) ∧ H p.block = some (.cells arr' e (0, 0)) ∧ arr'.size = arr.size ∧ (∀ (j : Nat) u, ci'[j]? = some u → arr'[p.off + j]? = some u) ∧
  ∀ j, j < p.off ∨ p.off + ci.length ≤ j → arr'[j]? = arr[j]?
 len : ci'.length = ci.length
 spot : p.spot = none
 blk : bl ci' = bl ci
 own : p.block ∉ bl ci
theorem Wr.now {p : Addr} {ci ci' : List Value} (h : Wr Hs H p ci ci') (hs : Sl H w) : WAt w p ci' := by
 obtain ⟨arr, arr', e, _, h2, _, h4, _⟩ := h.arr
 exact CAt.now ⟨arr', e, (0, 0), h2, h.spot, h4⟩ hs
theorem addr_eta {p : Addr} (h : p.spot = none) (j : Nat) : p.add j = ⟨p.block, p.off + j, none⟩ := by
 unfold Addr.add
 split
 · rename_i h0; subst h0; cases p; simp_all
 · rfl
theorem bl_set {c : List Value} : ∀ {j : Nat} {u0 u : Value}, c[j]? = some u0 → neb u0 = none → neb u = none → bl (c.set j u) = bl c := by
 induction c with
 | nil => intro j u0 u h; simp at h
 | cons x c ih =>
  intro j u0 u h h0 h1
  cases j with
  | zero => simp at h; subst h; simp [bl, h0, h1]
  | succ j =>
   have := ih (j := j) (by simpa using h) h0 h1
   simp only [List.set_cons_succ]
   unfold bl at this ⊢
   rw [List.filterMap_cons, List.filterMap_cons, this]
theorem Wr.poke {p : Addr} {ci ci' : List Value} (h : Wr Hs H p ci ci') (S : St H0 w0 H w l) (hs0 : Sl H0 w0) (hB : w0.heap.size ≤ p.block) {j : Nat} {u0 : Value} (hj : ci'[j]? = some u0) (h0 : neb u0 = none) (h1 : neb u = none)
 (ts : ∀ w, (sizeOf t).run P w = .ok 1 w) (hu : u.cells = #[u]) (ho : u.oneCell' = true) {c2 : List Value} (hc2 : ci'.set j u = c2) :
 ∃ w1 H1, (Instr.storeAt t (.pointer (some (p.add j))) u).run P w = .ok () w1 ∧ St H0 w0 H1 w1 l ∧ Wr Hs H1 p ci c2 ∧ ∀ b, b ≠ p.block → H1 b = H b := by
 subst hc2
 obtain ⟨arr, arr', e, a1, a2, a3, a4, a5⟩ := h.arr
 have hin := a4 j u0 hj
 have hjl : j < ci.length := by rw [← h.len]; exact (List.getElem?_eq_some_iff.1 hj).1
 have hlt : p.off + j < arr'.size := (Array.getElem?_eq_some_iff.1 hin).1
 obtain ⟨w1, arr2, q1, q2, q3, q4⟩ := S.poke hs0 (P := P) (t := t) (u := u) (b := p.block) (e := e) (fr := (0, 0)) (up_iff.2 ⟨hB, a2, rfl⟩) hlt ts hu ho
 rw [addr_eta h.spot]
 subst q4
 refine ⟨w1, _, q1, q2, ⟨fun b hb hbc => ?_, ⟨arr, arr'.set (p.off + j) u hlt, e, a1, by simp [gset], by simpa using a3, fun i x hi => ?_, fun i hi => ?_⟩, by simpa using h.len, h.spot, ?_, h.own⟩, fun b hb => by unfold gset; rw [if_neg hb]⟩
 · unfold gset; rw [if_neg hb]; exact h.out b hb hbc
 · rw [List.getElem?_set] at hi
   split at hi
   · rename_i hij; subst hij
     split at hi
     · cases hi; simp
     · cases hi
   · rename_i hne
     rw [Array.getElem?_set, if_neg (by omega)]; exact a4 i x hi
 · rw [Array.getElem?_set, if_neg (by omega)]; exact a5 i hi
 · rw [bl_set hj h0 h1]; exact h.blk
theorem Wr.poke0 {p : Addr} {ci ci' : List Value} (h : Wr Hs H p ci ci') (S : St H0 w0 H w l) (hs0 : Sl H0 w0) (hB : w0.heap.size ≤ p.block) {u0 : Value} (hj : ci'[0]? = some u0) (h0 : neb u0 = none) (h1 : neb u = none)
 (ts : ∀ w, (sizeOf t).run P w = .ok 1 w) (hu : u.cells = #[u]) (ho : u.oneCell' = true) {c2 : List Value} (hc2 : ci'.set 0 u = c2) :
 ∃ w1 H1, (Instr.storeAt t (.pointer (some p)) u).run P w = .ok () w1 ∧ St H0 w0 H1 w1 l ∧ Wr Hs H1 p ci c2 ∧ ∀ b, b ≠ p.block → H1 b = H b := by
 have := h.poke (P := P) S hs0 hB hj h0 h1 ts hu ho hc2
 rwa [Addr.add_zero'] at this
theorem Wr.inner {p : Addr} {ci ci' : List Value} (h : Wr Hs H p ci ci') {j : Nat} (hj : ci'[j]? = some u) (ho : ∀ b, b ∉ bl [u] → H' b = H b) : Wr Hs H' p ci ci' := by
 have hsub : ∀ b ∈ bl [u], b ∈ bl ci := fun b hb => by rw [← h.blk]; exact bl_get hj b hb
 obtain ⟨arr, arr', e, a1, a2, a3⟩ := h.arr
 refine ⟨fun b hb hbc => ?_, ⟨arr, arr', e, a1, ?_, a3⟩, h.len, h.spot, h.blk, h.own⟩
 · rw [ho b fun hb' => hbc (hsub b hb')]; exact h.out b hb hbc
 · rw [ho _ fun hb' => h.own (hsub _ hb')]; exact a2
theorem Wr.kept {p : Addr} {ci ci' : List Value} (h : Wr Hs H p ci ci') {j k' : Nat} {A' : Type} {E' : Enc A'} {xs : List A'} (hj : ci'[j]? = some u) (r : RSl (up B H) E' k' u xs) (hE : FlatE E') (ho : ∀ b, b ≠ p.block → H' b = H b) : RSl (up B H') E' k' u xs :=
 r.only hE.rel fun b hb => up_same (ho b fun e => h.own (by rw [← e, ← h.blk]; exact bl_get hj b hb))
theorem Nest.begin {xs : List A} {c : List Value} (h : Nest (up B H) En k v xs c) {i : Nat} {y : A} (hy : xs[i]? = some y) (_hk : 0 < k) :
 ∃ p, PtrOf k v (i : Nat) p ∧ Wr H H p ((c.drop (i * k)).take k) ((c.drop (i * k)).take k) ∧ B ≤ p.block ∧ En.rel (up B H) ((c.drop (i * k)).take k) y ∧ (bl ((c.drop (i * k)).take k)).Nodup := by
 obtain ⟨h1, h2, h3, h4, h5⟩ := h
 obtain ⟨hl, hr⟩ := h2.at hy
 have hi : i < xs.length := (List.getElem?_eq_some_iff.1 hy).1
 obtain ⟨a, cap, rfl, g1, g2⟩ := h1
 obtain ⟨p, cs, rfl, _⟩ := g2 i y hy
 obtain ⟨arr, e, fr, q1, q2, q3⟩ := h3 p _ _ rfl (by intro e; subst e; simp at hy)
 obtain ⟨u1, u2, u3⟩ := up_iff.1 q1
 have hfr : fr = (0, 0) := by simpa [okO] using u3
 subst hfr
 have hb : (p.add (i * k)).block = p.block := by unfold Addr.add; split <;> rfl
 have ho : (p.add (i * k)).off = p.off + i * k := by unfold Addr.add; split <;> simp_all
 have hmem : p.block ∈ bl [Value.slice (some p) xs.length cap] := mem_bl1 (by simp only [neb]; rw [if_neg (by omega)])
 refine ⟨p.add (i * k), ⟨p, xs.length, cap, rfl, by omega, by omega, by simp⟩, ⟨fun b _ _ => rfl, ⟨arr, arr, e, by rw [hb]; exact u2, by rw [hb]; exact u2, rfl, fun j u hu => ?_, fun _ _ => rfl⟩, rfl, ?_, rfl, ?_⟩, by rw [hb]; exact u1, hr, ?_⟩
 · rw [List.getElem?_take] at hu
   split at hu
   · rw [List.getElem?_drop] at hu
     rw [ho, Nat.add_assoc]; exact q3 _ _ hu
   · cases hu
 · unfold Addr.add; split
   · exact q2
   · rfl
 · rw [hb]; exact fun hb' => h5 _ hmem (bl_sub _ hb')
 · have : c = c.take (i * k) ++ ((c.drop (i * k)).take k ++ (c.drop (i * k)).drop k) := by rw [List.take_append_drop, List.take_append_drop]
   rw [this, bl_app, bl_app, List.nodup_append, List.nodup_append] at h4
   exact h4.2.1.1
theorem Nest.round {xs : List A} {c : List Value} (h : Nest (up B Hs) En k v xs c) (hE : LocE En) {i : Nat} {y y' : A} (hy : xs[i]? = some y) (_hk : 0 < k) {p : Addr} (hp : PtrOf k v (i : Nat) p)
 {ci' : List Value} (hw : Wr Hs H p ((c.drop (i * k)).take k) ci') (hr : En.rel (up B H) ci' y') :
 ∃ c', Nest (up B H) En k v (xs.set i y') c' ∧ bl c' = bl c ∧ ∀ b, b ∉ bl [v] → b ∉ bl c → H b = Hs b := by
 obtain ⟨h1, h2, h3, h4, h5⟩ := h
 have hi : i < xs.length := (List.getElem?_eq_some_iff.1 hy).1
 have hlen := h2.length
 obtain ⟨hl, _⟩ := h2.at hy
 have hl' : ci'.length = k := by rw [hw.len, hl]
 have hmul : i * k + k ≤ c.length := by rw [hlen, show i * k + k = (i + 1) * k by rw [Nat.add_mul, Nat.one_mul]]; exact Nat.mul_le_mul_right _ hi
 obtain ⟨a, len, cap, rfl, _, hlt, rfl⟩ := hp
 have hsplit : c = c.take (i * k) ++ ((c.drop (i * k)).take k ++ c.drop (i * k + k)) := by
  rw [show c.drop (i * k + k) = (c.drop (i * k)).drop k by rw [List.drop_drop], List.take_append_drop, List.take_append_drop]
 have hblk : bl (c.take (i * k) ++ ci' ++ c.drop (i * k + k)) = bl c := by
  conv => rhs; rw [hsplit]
  rw [bl_app, bl_app, bl_app, bl_app, hw.blk, List.append_assoc]
 have hxl : xs.length = len := by obtain ⟨_, _, hv, _⟩ := h1; cases hv; rfl
 have hmem : a.block ∈ bl [Value.slice (some a) len cap] := mem_bl1 (by simp only [neb]; rw [if_neg (by omega)])
 have hb : (a.add (((i : Nat) : Int).toNat * k)).block = a.block := by unfold Addr.add; split <;> rfl
 have hspot : a.spot = none := by
  obtain ⟨arr, e, fr, _, q2, _⟩ := h3 a _ _ rfl (by intro e; subst e; simp at hy)
  exact q2
 have ho : (a.add (((i : Nat) : Int).toNat * k)).off = a.off + i * k := by rw [addr_eta hspot]; simp
 have hlist : c.take (i * k) ++ ci' ++ c.drop (i * k + k) = c.take (i * k) ++ (ci' ++ c.drop (i * k + k)) := List.append_assoc ..
 have hget : ∀ m, (c.take (i * k) ++ ci' ++ c.drop (i * k + k))[m]? = if m < i * k then c[m]? else if m < i * k + k then ci'[m - i * k]? else c[m]? := by
  intro m
  have ht : (c.take (i * k)).length = i * k := by rw [List.length_take]; omega
  rw [hlist]
  by_cases m1 : m < i * k
  · rw [List.getElem?_append_left (by omega), List.getElem?_take_of_lt m1, if_pos m1]
  · rw [List.getElem?_append_right (by omega), ht, if_neg m1]
    by_cases m2 : m < i * k + k
    · rw [List.getElem?_append_left (by omega), if_pos m2]
    · rw [List.getElem?_append_right (by omega), hl', List.getElem?_drop, if_neg m2]
      congr 1; omega
 have hother : ∀ (j : Nat), j < xs.length → j ≠ i → ((c.take (i * k) ++ ci' ++ c.drop (i * k + k)).drop (j * k)).take k = (c.drop (j * k)).take k := by
  intro j hj hne
  apply List.ext_getElem?
  intro m
  by_cases hm : m < k
  · rw [List.getElem?_take_of_lt hm, List.getElem?_take_of_lt hm, List.getElem?_drop, List.getElem?_drop, hget]
    rcases Nat.lt_or_gt_of_ne hne with hji | hji
    · have : j * k + k ≤ i * k := by rw [show j * k + k = (j + 1) * k by rw [Nat.add_mul, Nat.one_mul]]; exact Nat.mul_le_mul_right _ hji
      rw [if_pos (by omega)]
    · have : i * k + k ≤ j * k := by rw [show i * k + k = (i + 1) * k by rw [Nat.add_mul, Nat.one_mul]]; exact Nat.mul_le_mul_right _ hji
      rw [if_neg (by omega), if_neg (by omega)]
  · rw [List.getElem?_eq_none (by simp; omega), List.getElem?_eq_none (by simp; omega)]
 have hself : ((c.take (i * k) ++ ci' ++ c.drop (i * k + k)).drop (i * k)).take k = ci' := by
  rw [hlist, List.drop_append_of_le_length (by rw [List.length_take]; omega), List.drop_of_length_le (by rw [List.length_take]; omega), List.nil_append, List.take_append_of_le_length (by omega), List.take_of_length_le (by omega)]
 have hapart : ∀ (j : Nat), j < xs.length → j ≠ i → ∀ b ∈ bl ((c.drop (j * k)).take k), b ∉ bl ((c.drop (i * k)).take k) := by
  intro j hj hne b hb1 hb2
  obtain ⟨u1, m1, n1⟩ := mem_bl hb1
  obtain ⟨u2, m2, n2⟩ := mem_bl hb2
  obtain ⟨q1, r1⟩ := List.mem_iff_getElem?.1 m1
  obtain ⟨q2, r2⟩ := List.mem_iff_getElem?.1 m2
  rw [List.getElem?_take] at r1 r2
  split at r1
  · split at r2
    · rw [List.getElem?_drop] at r1 r2
      have hne2 : i * k + q2 ≠ j * k + q1 := by
       rcases Nat.lt_or_gt_of_ne hne with hji | hji
       · have : j * k + k ≤ i * k := by rw [show j * k + k = (j + 1) * k by rw [Nat.add_mul, Nat.one_mul]]; exact Nat.mul_le_mul_right _ hji
         omega
       · have : i * k + k ≤ j * k := by rw [show i * k + k = (i + 1) * k by rw [Nat.add_mul, Nat.one_mul]]; exact Nat.mul_le_mul_right _ hji
         omega
      exact bl_apart' h4 r2 r1 hne2 b (mem_bl1 n1) (mem_bl1 n2)
    · cases r2
  · cases r1
 have hout : ∀ b, b ∉ bl [Value.slice (some a) len cap] → b ∉ bl c → H b = Hs b := fun b b1 b2 => hw.out b (fun e => b1 (by rw [e, hb]; exact hmem)) fun e => b2 (bl_sub b e)
 have hE2 : Els (up B H) En k (c.take (i * k) ++ ci' ++ c.drop (i * k + k)) (xs.set i y') := by
  refine Els.mk' _ _ ?_ fun j x hx => ?_
  · simp only [List.length_append, List.length_take, List.length_drop, List.length_set, hl']
    rw [← hlen]; omega
  · have hj : j < xs.length := by have := (List.getElem?_eq_some_iff.1 hx).1; simpa using this
    by_cases hji : j = i
    · subst hji
      rw [List.getElem?_set_self hj] at hx
      cases hx
      rw [hself]; exact hr
    · rw [List.getElem?_set_ne (Ne.symm hji)] at hx
      rw [hother j hj hji]
      refine hE _ _ _ _ (h2.at hx).2 fun b hb' => up_same (hw.out b (fun e => ?_) (hapart j hj hji b hb'))
      have := h5 a.block hmem
      rw [hb] at e
      exact this (by rw [← e]; exact bl_sub b hb')
 have hC : CAt (up B H) a (c.take (i * k) ++ ci' ++ c.drop (i * k + k)) := by
  obtain ⟨arr, e, fr, q1, q2, q3⟩ := h3 a _ _ rfl (by intro e; subst e; simp at hy)
  obtain ⟨arr1, arr', e', a1, a2, a3, a4, a5⟩ := hw.arr
  rw [hb] at a1 a2
  obtain ⟨u1, u2, u3⟩ := up_iff.1 q1
  rw [a1] at u2; cases u2
  refine ⟨arr', _, (0, 0), up_iff.2 ⟨u1, a2, rfl⟩, q2, fun j u hu => ?_⟩
  rw [hget] at hu
  rw [ho, hl] at a5
  rw [ho] at a4
  split at hu
  · rw [a5 _ (.inl (by omega))]; exact q3 j u hu
  · split at hu
    · have := a4 _ _ hu
      rw [show a.off + j = a.off + i * k + (j - i * k) by omega]; exact this
    · rw [a5 _ (.inr (by omega))]; exact q3 j u hu
 refine ⟨_, ⟨?_, hE2, ?_, by rw [hblk]; exact h4, by rw [hblk]; exact h5⟩, hblk, hout⟩
 · obtain ⟨_, _, hv, g1, g2⟩ := h1
   cases hv
   refine ⟨some a, cap, by rw [List.length_set], by rw [List.length_set]; exact g1, fun j x hx => ?_⟩
   have hat := hE2.at hx
   obtain ⟨arr, e, fr, q1, q2, q3⟩ := hC
   refine ⟨a, _, rfl, hat.1, ⟨arr, e, fr, ?_, ?_, fun m u hu => ?_⟩, hat.2⟩
   · rw [show (a.add (j * k)).block = a.block by unfold Addr.add; split <;> rfl]; exact q1
   · rw [addr_eta hspot]
   · rw [addr_eta hspot]
     rw [List.getElem?_take] at hu
     split at hu
     · rw [List.getElem?_drop] at hu
       simp only; rw [Nat.add_assoc]; exact q3 _ _ hu
     · cases hu
 · intro a' len' cap' hv _
   cases hv; exact hC
theorem RSl.nest {G : GH} {xs : List A} (h : RSl G En k v xs) (hE : FlatE En) (_hk : 0 < k) : ∃ c, Nest G En k v xs c ∧ bl c = [] := by
 obtain ⟨a, cap, rfl, g1, g2⟩ := h
 have key : ∀ n, n ≤ xs.length → ∃ c, Els G En k c (xs.take n) ∧ bl c = [] ∧ ∀ p, a = some p → ∀ arr e fr, (G p.block = some (.cells arr e fr)) → ∀ (j : Nat) u, c[j]? = some u → arr[p.off + j]? = some u := by
  intro n
  induction n with
  | zero => intro _; exact ⟨[], by simpa using Els.nil, rfl, by simp⟩
  | succ n ih =>
   intro hn
   obtain ⟨c, e1, e2, e3⟩ := ih (by omega)
   have hlt : n < xs.length := by omega
   obtain ⟨p, cs, rfl, k1, ⟨arr, e, fr, k2, k3, k4⟩, k5⟩ := g2 n xs[n] (by simp [hlt])
   have hb : (p.add (n * k)).block = p.block := by unfold Addr.add; split <;> rfl
   have ho : (p.add (n * k)).off = p.off + n * k := by unfold Addr.add; split <;> simp_all
   rw [hb] at k2
   refine ⟨c ++ cs, ?_, ?_, ?_⟩
   · rw [List.take_succ_eq_append_getElem hlt]; exact .snoc e1 k1 k5
   · rw [bl_app, e2, (hE G G cs _ k5).2]; rfl
   · rintro p' hp' arr' e' fr' hG j u hu
     cases hp'
     rw [k2] at hG; cases hG
     have hcl := e1.length
     rw [List.length_take, Nat.min_eq_left (by omega)] at hcl
     rcases Nat.lt_or_ge j c.length with hj | hj
     · rw [List.getElem?_append_left hj] at hu
       exact e3 p rfl arr e fr k2 j u hu
     · rw [List.getElem?_append_right hj, hcl] at hu
       have := k4 _ _ hu
       rw [ho] at this
       rw [show p.off + j = p.off + n * k + (j - n * k) by omega]; exact this
 obtain ⟨c, e1, e2, e3⟩ := key xs.length (Nat.le_refl _)
 rw [List.take_length] at e1
 refine ⟨c, ⟨⟨a, cap, rfl, g1, g2⟩, e1, fun p len cap' hv hne => ?_, by rw [e2]; exact List.nodup_nil, fun b _ => by rw [e2]; simp⟩, e2⟩
 cases hv
 obtain ⟨x, hx⟩ : ∃ x, xs[0]? = some x := by
  cases xs with
  | nil => exact absurd rfl hne
  | cons x xs => exact ⟨x, rfl⟩
 obtain ⟨p', cs, hp', _, ⟨arr, e, fr, k2, k3, _⟩, _⟩ := g2 0 x hx
 cases hp'
 rw [Nat.zero_mul, Addr.add_zero'] at k2 k3
 exact ⟨arr, e, fr, k2, k3, e3 p rfl arr e fr k2⟩
theorem Nest.span {xs ys : List A} {c c' : List Value} (h : Nest (sg lo hi Hs) En k v xs c) (hE : LocE En) (hB : B ≤ lo) (hn : Nest (up B H') En k v ys c') (hc : bl c' = bl c) : Nest (sg lo hi H') En k v ys c' :=
 hn.same hE fun b hb => by
  rw [hc] at hb
  have h0 := h.dom b hb
  cases h1 : sg lo hi Hs b with
  | none => exact absurd h1 h0
  | some o =>
   obtain ⟨a, b, _, _⟩ := sg_iff.1 h1
   unfold sg up
   rw [if_pos b, if_neg (by omega), if_neg (by omega)]
theorem Nest.outside {xs : List A} {c : List Value} (h : Nest (sg lo hi Hs) En k v xs c) (ho : ∀ b, b ∉ bl [v] → b ∉ bl c → ∀ o, H b = some o → H' b = some o) : ∀ b, b < lo ∨ hi ≤ b → ∀ o, H b = some o → H' b = some o := fun b hb => by
 have key : ¬ (b ∈ bl [v] ∨ b ∈ bl c) := fun hm => by
  have h0 := h.dom b hm
  cases h1 : sg lo hi Hs b with
  | none => exact absurd h1 h0
  | some o => obtain ⟨a, b, _, _⟩ := sg_iff.1 h1; omega
 exact ho b (fun h => key (.inl h)) fun h => key (.inr h)
theorem weak {F : Nat → Prop} (h : ∀ b, F b → H' b = H b) : ∀ b, F b → ∀ o, H b = some o → H' b = some o := fun b hb o ho => by rw [h b hb]; exact ho
theorem Wr.opens {p : Addr} {ci cs : List Value} (h : Wr Hs H p ci ci) (e : ci = cs) : Wr Hs H p ci cs := e ▸ h
theorem FW.mark {ρ : Option Nat} {δ : List Nat} {N : Nat} {f : Fm} {c : Code} {F : A → Int → A × Int} {a0 : List A} {k0 : Int} (I : Nat → List A → Int → Fm → World → Prop) (Dn : FQ) (h0 : I 0 a0 k0 f w)
 (hbody : ∀ i y xs m f w, I i xs m f w → a0[i]? = some y → xs[i]? = some y → FW (ρ := ρ) (δ := δ) P N c (fun e f w => e = .normal ∧ I (i + 1) (xs.set i (F y m).1) (F y m).2 f w) f w)
 (hend : ∀ f w, I a0.length (markFrom F a0 k0).1 (markFrom F a0 k0).2 f w → FW (ρ := ρ) (δ := δ) P N c (fun e f w => e ≠ .normal ∧ Dn e f w) f w) : FW (ρ := ρ) (δ := δ) P N (.loop c) Dn f w := by
 refine FW.loopG (fun m f w => ∃ i xs k, i + m = a0.length ∧ I i xs k f w ∧ xs.length = a0.length ∧ xs.drop i = a0.drop i ∧ xs.take i ++ (markFrom F (a0.drop i) k).1 = (markFrom F a0 k0).1 ∧ (markFrom F (a0.drop i) k).2 = (markFrom F a0 k0).2) (m := a0.length) ?_
  ⟨0, a0, k0, by omega, h0, rfl, rfl, by simp, by simp⟩
 rintro m f w ⟨i, xs, k, hm, hI, hl, hd, h1, h2⟩
 cases m with
 | zero =>
  have hi : i = a0.length := by omega
  subst hi
  rw [List.drop_length] at h1 h2
  rw [List.take_of_length_le (by omega)] at h1
  simp only [markFrom, List.append_nil] at h1 h2
  subst h1 h2
  exact (hend f w hI).mono fun e f w ⟨he, h⟩ => then_of he h
 | succ m =>
  have hlt : i < a0.length := by omega
  have hx : a0[i]? = some a0[i] := List.getElem?_eq_getElem hlt
  have hxs : xs[i]? = some a0[i] := by
   have := congrArg (·[0]?) hd
   simp only [List.getElem?_drop, Nat.add_zero] at this
   rw [this]; exact hx
  refine (hbody i a0[i] xs k f w hI hx hxs).mono ?_
  rintro e f' w' ⟨rfl, h⟩
  refine ⟨m, by omega, i + 1, _, _, by omega, h, by simpa using hl, ?_, ?_, ?_⟩
  · rw [List.drop_set_of_lt (by omega)]
    have := congrArg (List.drop 1) hd
    rwa [List.drop_drop, List.drop_drop] at this
  · rw [← h1, List.drop_eq_getElem_cons hlt, markFrom]
    rw [show xs.take i ++ (F a0[i] k).1 :: (markFrom F (a0.drop (i + 1)) (F a0[i] k).2).1 = (xs.take i ++ [(F a0[i] k).1]) ++ (markFrom F (a0.drop (i + 1)) (F a0[i] k).2).1 by simp]
    congr 1
    rw [List.take_succ_eq_append_getElem (by simpa using (by omega : i < xs.length)), List.take_set_of_le (Nat.le_refl _), List.getElem_set_self]
  · rw [← h2, List.drop_eq_getElem_cons hlt, markFrom]
@[reducible] def M1 (H0 : GH) (w0 : World) (Ha : GH) (l : List MO) {A : Type} (En : Enc A) (k : Nat) (v : Value) (r : List A × Int) : Ending → World → Prop := fun e w' =>
 ∃ H' : GH, e = .returned (.int .i64 r.2) ∧ St H0 w0 H' w' l ∧ RSl (up w0.heap.size H') En k v r.1 ∧ ∀ b, b ∉ bl [v] → H' b = Ha b
@[reducible] def M2 (H0 : GH) (w0 : World) (Ha : GH) (l : List MO) {A : Type} (En : Enc A) (k : Nat) (v : Value) (c0 : List Value) (r : List A × Int) : Ending → World → Prop := fun e w' =>
 ∃ (H' : GH) (c' : List Value), e = .returned (.int .i64 r.2) ∧ St H0 w0 H' w' l ∧ Nest (up w0.heap.size H') En k v r.1 c' ∧ bl c' = bl c0 ∧ ∀ b, b ∉ bl [v] → b ∉ bl c0 → ∀ o, Ha b = some o → H' b = some o
theorem St.boxB (h : St H0 w0 H w l) (t : TypeId) (cs : List Value) {v : Value} (hv : v.cells = cs.toArray) (h1 : ∀ u ∈ cs, u.oneCell' = true) :
 ∃ w1, (Instr.box t v).run P w = .ok (.pointer (some ⟨w.heap.size, 0, Option.none⟩)) w1 ∧ St H0 w0 H w1 (.box w.heap.size t cs :: l) ∧ w1.heap.size = w.heap.size + 1 := by
 refine ⟨w.alloc (.cells cs.toArray t (0, 0)), by simp [Instr.box, newVar, newRow, hv], ?_, by simp⟩
 refine h.push _ _ ⟨heap_alloc_new w _, h.size, h1⟩ ?_
 intro b hb; simpa [MO.blk] using hb.symm
theorem St.allocB {z : Value} (h : St H0 w0 H w l) (t : TypeId) (cs : List Value) (hz : ∀ w, (zeroValue t).run P w = .ok z w) (hv : z.cells = cs.toArray) (h1 : ∀ u ∈ cs, u.oneCell' = true) :
 ∃ w1, (Instr.alloc t true (.tuple #[])).run P w = .ok (.pointer (some ⟨w.heap.size, 0, Option.none⟩)) w1 ∧ St H0 w0 H w1 (.box w.heap.size t cs :: l) ∧ w1.heap.size = w.heap.size + 1 := by
 refine ⟨w.alloc (.cells cs.toArray t (0, 0)), by simp [Instr.alloc, hz, newVar, newRow, hv], ?_, by simp⟩
 refine h.push _ _ ⟨heap_alloc_new w _, h.size, h1⟩ ?_
 intro b hb; simpa [MO.blk] using hb.symm
theorem St.store0B (h : St H0 w0 H w l) {i b t0 n : Nat} {cs cs' c : List Value} {l' : List MO} {v : Value} (hi : l[i]? = some (.box b t0 cs)) (ts : ∀ w, (sizeOf t).run P w = .ok n w)
 (hv : v.cells = c.toArray) (hcn : c.length = n) (h1' : ∀ u ∈ c, u.oneCell' = true) (hj : n ≤ cs.length) (hcs' : c ++ cs.drop n = cs') (hl : l.set i (.box b t0 cs') = l') :
 ∃ w1, (Instr.storeAt t (.pointer (some ⟨b, 0, Option.none⟩)) v).run P w = .ok () w1 ∧ St H0 w0 H w1 l' ∧ w1.heap.size = w.heap.size := by
 subst hl
 have hn : v.cells.size = n := by rw [hv]; simpa using hcn
 have h1 : ∀ u ∈ v.cells.toList, u.oneCell' = true := by rw [hv]; exact h1'
 have hcs : cs.take 0 ++ v.cells.toList ++ cs.drop (0 + n) = cs' := by rw [hv]; simpa using hcs'
 obtain ⟨g1, g2, g3⟩ := h.ok i _ hi
 have hst := run_storeCells_at P b 0 t0 v.cells.toList 0 cs.toArray w g1 (by simp [hn]; omega) h1
 simp only [Nat.add_zero, Array.length_toList, hn, hcs] at hst
 refine ⟨w.setRow b cs'.toArray, ?_, h.upd (o' := .box b t0 cs') hi (grownBy_setRow w b cs'.toArray) (Nat.le_refl _) ⟨setRow_heap w b _ _ _ _ g1, g2, ?_⟩ (fun c hc => .inl hc), by simp [World.setRow]⟩
 · simp [Instr.storeAt, Instr.sureAddr, storeVar, ts, hn, hst]
 · subst hcs
   intro u hu
   simp only [List.append_assoc, List.mem_append] at hu
   rcases hu with hu | hu | hu
   · exact g3 u (List.mem_of_mem_take hu)
   · exact h1 u hu
   · exact g3 u (List.mem_of_mem_drop hu)
theorem St.sealBoxB (h : St H0 w0 H w l) {i b t : Nat} {cs : List Value} {l' : List MO} (hi : l[i]? = some (.box b t cs)) (hl : l.eraseIdx i = l') :
 ∃ H1, St H0 w0 H1 w l' ∧ Inc H H1 ∧ CAt (sg b (b + 1) H1) ⟨b, 0, Option.none⟩ cs := by
 subst hl
 obtain ⟨H1, h1, h2, h3⟩ := h.sealed hi
 refine ⟨H1, h1, h2, ⟨cs.toArray, t, (0, 0), sg_iff.2 ⟨Nat.le_refl _, Nat.lt_succ_self _, h3 b _ rfl (h.ok i _ hi).1, rfl⟩, rfl, fun j c hc => by simpa using hc⟩⟩
end
end Go.Mr
namespace Go.Pu
def okI (n : Int) : Prop := -9223372036854775808 ≤ n ∧ n ≤ 9223372036854775807
def okL {A : Type} (ok : A → Prop) (xs : List A) : Prop := xs.length ≤ 9223372036854775807 ∧ ∀ x ∈ xs, ok x
section
variable {α β S X : Type}
theorem forL_inv {body : Nat → α → S → Option (Lp S X)} (I : Nat → S → Prop) {l : List α} {s : S} (h0 : I 0 s)
 (hb : ∀ i x s, l[i]? = some x → I i s → ∃ s', body i x s = some (.nx s') ∧ I (i + 1) s') : ∃ s', forL l body s = some (.go s') ∧ I l.length s' := by
 have key : ∀ (m p : List α) (s : S), l = p ++ m → I p.length s → ∃ s', forLFrom body m p.length s = some (.go s') ∧ I l.length s' := by
  intro m
  induction m with
  | nil =>
   intro p s hm hi
   refine ⟨s, rfl, ?_⟩
   rw [hm, List.append_nil]; exact hi
  | cons x m ih =>
   intro p s hm hi
   have hx : l[p.length]? = some x := by rw [hm]; simp
   obtain ⟨s', h1, h2⟩ := hb p.length x s hx hi
   obtain ⟨s'', h3, h4⟩ := ih (p ++ [x]) s' (by rw [hm]; simp) (by simpa using h2)
   refine ⟨s'', ?_, h4⟩
   rw [forLFrom, h1]
   simpa using h3
 exact key l [] s rfl h0
theorem forL_foldI {body : Nat → α → S → Option (Lp S X)} (g : S → α → S) {l : List α} {s : S} (I : Nat → S → Prop) (h0 : I 0 s) (h : ∀ i x t, l[i]? = some x → I i t → body i x t = some (.nx (g t x)) ∧ I (i + 1) (g t x)) : forL l body s = some (.go (l.foldl g s)) ∧ I l.length (l.foldl g s) := by
 obtain ⟨s', h1, h2, h3⟩ := forL_inv (X := X) (body := body) (fun i t => t = (l.take i).foldl g s ∧ I i t) (l := l) (s := s) ⟨by simp, h0⟩ (fun i x t hx ht => ⟨g t x, (h i x t hx ht.2).1, by
  obtain ⟨rfl, _⟩ := ht
  rw [List.take_add_one, hx]
  simp, (h i x t hx ht.2).2⟩)
 rw [List.take_length] at h2
 subst h2
 exact ⟨h1, h3⟩
def anyI (p : Nat → α → Bool) : List α → Nat → Bool
 | [], _ => false
 | y :: l, i => p i y || anyI p l (i + 1)
theorem anyI_any (p : α → Bool) (l : List α) (i : Nat) : anyI (fun _ y => p y) l i = l.any p := by
 induction l generalizing i with
 | nil => rfl
 | cons y l ih => simp [anyI, ih]
theorem anyI_false {p : Nat → α → Bool} : ∀ {l : List α} {k : Nat}, anyI p l k = false ↔ ∀ i y, l[i]? = some y → p (k + i) y = false := by
 intro l
 induction l with
 | nil => intro k; simp [anyI]
 | cons y l ih =>
  intro k
  simp only [anyI, Bool.or_eq_false_iff, ih]
  constructor
  · rintro ⟨h1, h2⟩ i z hz
    cases i with
    | zero => simp at hz; subst hz; simpa using h1
    | succ i => have := h2 i z (by simpa using hz); rwa [show k + 1 + i = k + (i + 1) by omega] at this
  · intro h
    refine ⟨by simpa using h 0 y rfl, fun i z hz => ?_⟩
    have := h (i + 1) z (by simpa using hz); rwa [show k + (i + 1) = k + 1 + i by omega] at this
theorem forL_any {body : Nat → α → Unit → Option (Lp Unit X)} {p : Nat → α → Bool} {v : X} {l : List α} {u : Unit} (h : ∀ i y, l[i]? = some y → body i y () = (bif p i y then some (.rt v) else some (.nx ()))) :
 forL l body u = some (bif anyI p l 0 then .rt v else .go ()) := by
 have key : ∀ (m : List α) (k : Nat), (∀ i y, m[i]? = some y → body (k + i) y () = (bif p (k + i) y then some (.rt v) else some (.nx ()))) → forLFrom body m k () = some (bif anyI p m k then .rt v else .go ()) := by
  intro m
  induction m with
  | nil => intro k _; rfl
  | cons y m ih =>
   intro k hm
   have h0 := hm 0 y rfl
   rw [Nat.add_zero] at h0
   rw [forLFrom, h0]
   cases hp : p k y with
   | true => simp [anyI, hp]
   | false =>
    simp only [cond_false, anyI, hp, Bool.false_or]
    exact ih (k + 1) fun i z hz => by have := hm (i + 1) z (by simpa using hz); rwa [show k + (i + 1) = k + 1 + i by omega] at this
 exact key l 0 fun i y hy => by rw [Nat.zero_add]; exact h i y hy
theorem iter_any {xs : List α} {body : Int → Option (Lp Int X)} {p : Nat → α → Bool} {v : X} (h : ∀ (i : Nat) y, xs[i]? = some y → body (i : Int) = (bif p i y then some (.rt v) else some (.nx ((i : Int) + 1)))) (he : body (xs.length : Int) = some (.bk (xs.length : Int))) :
 iter body 0 = some (bif anyI p xs 0 then .rt v else .go (xs.length : Int)) := by
 have key : ∀ (m : List α) (k : Nat), k + m.length = xs.length → (∀ i y, m[i]? = some y → xs[k + i]? = some y) → iter body (k : Int) = some (bif anyI p m k then .rt v else .go (xs.length : Int)) := by
  intro m
  induction m with
  | nil =>
   intro k hk _
   simp only [List.length_nil, Nat.add_zero] at hk
   subst hk
   rw [iter_bk he]; rfl
  | cons y m ih =>
   intro k hk hm
   have h0 := h k y (by have := hm 0 y rfl; simpa using this)
   cases hp : p k y with
   | true => rw [hp] at h0; rw [iter_rt h0]; simp [anyI, hp]
   | false =>
    rw [hp] at h0
    rw [iter_nx h0]
    simp only [anyI, hp, Bool.false_or]
    exact ih (k + 1) (by simp at hk; omega) fun i z hz => by have := hm (i + 1) z (by simpa using hz); rwa [show k + (i + 1) = k + 1 + i by omega] at this
 have := key xs 0 (by simp) (by simp)
 simpa using this
theorem iter_while {xs : List α} {body : Int → Option (Lp Int X)} {p : α → Bool} (h : ∀ (i : Nat) y, xs[i]? = some y → body (i : Int) = (bif p y then some (.nx ((i : Int) + 1)) else some (.bk (i : Int)))) (he : body (xs.length : Int) = some (.bk (xs.length : Int))) :
 iter body 0 = some (.go ((xs.takeWhile p).length : Int)) := by
 have key : ∀ (m : List α) (k : Nat), k + m.length = xs.length → (∀ i y, m[i]? = some y → xs[k + i]? = some y) → iter body (k : Int) = some (.go ((k + (m.takeWhile p).length : Nat) : Int)) := by
  intro m
  induction m with
  | nil =>
   intro k hk _
   simp only [List.length_nil, Nat.add_zero] at hk
   subst hk
   rw [iter_bk he]; rfl
  | cons y m ih =>
   intro k hk hm
   have h0 := h k y (by have := hm 0 y rfl; simpa using this)
   cases hp : p y with
   | true =>
    rw [hp] at h0
    rw [iter_nx h0, List.takeWhile_cons, if_pos hp]
    have := ih (k + 1) (by simp at hk; omega) fun i z hz => by have := hm (i + 1) z (by simpa using hz); rwa [show k + (i + 1) = k + 1 + i by omega] at this
    rw [show ((k : Int) + 1) = ((k + 1 : Nat) : Int) by simp, this]
    simp; omega
   | false =>
    rw [hp] at h0
    rw [iter_bk h0, List.takeWhile_cons, if_neg (by simp [hp])]; simp
 have := key xs 0 (by simp) (by simp)
 simpa using this
theorem ix_get {xs : List α} {i : Nat} : ix xs (i : Int) = xs[i]? := by simp [ix]
theorem ix_of {xs : List α} {i : Int} (h0 : 0 ≤ i) (h1 : i < xs.length) : ∃ x, ix xs i = some x ∧ xs[i.toNat]? = some x := by
 refine ⟨xs[i.toNat]'(by omega), ?_, List.getElem?_eq_getElem (by omega)⟩
 unfold ix; rw [if_pos h0]; exact List.getElem?_eq_getElem (by omega)
theorem wr_pred {i n : Nat} (hi : 0 < i) (h : i < n) (hn : n ≤ 9223372036854775807) : wr ((i : Int) - 1) = ((i - 1 : Nat) : Int) := by rw [wr_of _ (by omega) (by omega)]; omega
theorem wr_succ {i n : Nat} (h : i < n) (hn : n ≤ 9223372036854775807) : wr ((i : Int) + 1) = (i : Int) + 1 := wr_of _ (by omega) (by omega)
theorem app_ok {xs ys : List α} (h : xs.length + ys.length ≤ lim) : app xs ys = some (xs ++ ys) := by unfold app; rw [if_pos h]
theorem cut_ok {xs : List α} {a b : Nat} (h : a ≤ b) (hb : b ≤ xs.length) : cut xs (a : Int) (b : Int) = some ((xs.take b).drop a) := by unfold cut; rw [if_pos (by omega)]; simp
theorem put_ok {xs : List α} {i : Nat} {x : α} (h : i < xs.length) : put xs (i : Int) x = some (xs.set i x) := by unfold put; rw [if_pos (by omega)]; simp
theorem mk2_ok {z : α} {n : Nat} (h : n ≤ lim) : mk2 z (n : Int) (n : Int) = some (List.replicate n z) := by unfold mk2; rw [if_pos (by unfold lim at h ⊢; omega)]; simp
theorem len_eq (xs : List α) : len xs = (xs.length : Int) := rfl
@[simp] theorem bif_ff {c d : Bool} : (bif c then d else false) = (c && d) := by cases c <;> rfl
@[simp] theorem bif_tt {c d : Bool} : (bif c then true else d) = (c || d) := by cases c <;> rfl
def adj (r : α → α → Bool) : List α → Bool
 | a :: b :: l => r a b && adj r (b :: l)
 | _ => true
theorem anyI_adj {q : α → Bool} {r : α → α → Bool} {l : List α} {p : Nat → α → Bool} (h0 : ∀ y, l[0]? = some y → p 0 y = q y) (h : ∀ (i : Nat) x y, l[i]? = some x → l[i + 1]? = some y → p (i + 1) y = (q y || !r x y)) :
 anyI p l 0 = !(l.all (fun y => !q y) && adj r l) := by
 have key : ∀ (m : List α) (k : Nat) (x : α), l[k]? = some x → (∀ i y, m[i]? = some y → l[k + 1 + i]? = some y) → anyI p m (k + 1) = !(m.all (fun y => !q y) && adj r (x :: m)) := by
  intro m
  induction m with
  | nil => intro k x _ _; rfl
  | cons y m ih =>
   intro k x hx hm
   have hy : l[k + 1]? = some y := by simpa using hm 0 y rfl
   simp only [anyI, List.all_cons, adj]
   rw [h k x y hx hy, ih (k + 1) y hy fun i z hz => by have := hm (i + 1) z (by simpa using hz); rwa [show k + 1 + (i + 1) = k + 1 + 1 + i by omega] at this]
   cases q y <;> cases r x y <;> cases m.all (fun y => !q y) <;> simp
 cases l with
 | nil => rfl
 | cons x m =>
  simp only [anyI, List.all_cons]
  rw [h0 x rfl, Nat.zero_add, key m 0 x rfl (by intro i y hy; rw [show 0 + 1 + i = i + 1 by omega]; simpa using hy)]
  cases q x <;> simp
def tot (wt : α → Nat) : List α → Nat
 | [] => 0
 | y :: l => wt y + tot wt l
theorem tot_mem {wt : α → Nat} {l : List α} {y : α} (h : y ∈ l) : wt y ≤ tot wt l := by
 induction l with
 | nil => cases h
 | cons x l ih =>
  simp only [tot]
  rcases List.mem_cons.1 h with rfl | h
  · omega
  · have := ih h; omega
theorem sz_loop {sz : α → Int → Option Int} {wt : α → Nat} : ∀ {l : List α} {i : Nat} {s : Int}, (∀ y ∈ l, ∀ s : Int, 0 ≤ s → s ≤ 1048576 → ∃ t, sz y s = some t ∧ (t < 0 ∨ t + wt y = s)) → 0 ≤ s → s ≤ 1048576 →
 ∃ q, forLFrom (X := Int) (fun _ y s => bd (sz y s) fun t => bif decide (t < 0) then some (.rt (-1)) else some (.nx t)) l i s = some q ∧ match q with | .rt v => v = -1 | .go t => 0 ≤ t ∧ t + tot wt l = s := by
 intro l
 induction l with
 | nil => intro i s _ h0 _; exact ⟨_, rfl, h0, by simp [tot]⟩
 | cons y l ih =>
  intro i s h h0 h1
  obtain ⟨t, h2, h3⟩ := h y (by simp) s h0 h1
  simp only [forLFrom, h2, bd_some]
  by_cases ht : t < 0
  · simp only [ht, decide_true, cond_true]
    exact ⟨_, rfl, rfl⟩
  · simp only [ht, decide_false, cond_false]
    obtain ⟨q, h4, h5⟩ := ih (i := i + 1) (s := t) (fun z hz => h z (by simp [hz])) (by omega) (by omega)
    refine ⟨q, h4, ?_⟩
    cases q with
    | rt v => exact h5
    | go u => exact ⟨h5.1, by simp only [tot]; omega⟩
theorem sz_list {sz : α → Int → Option Int} {wt : α → Nat} {l : List α} {s : Int} {f : Nat → α → Int → Option (Lp Int Int)} (hf : ∀ i y s, f i y s = bd (sz y s) fun t => bif decide (t < 0) then some (.rt (-1)) else some (.nx t))
 (h : ∀ y ∈ l, ∀ s : Int, 0 ≤ s → s ≤ 1048576 → ∃ t, sz y s = some t ∧ (t < 0 ∨ t + wt y = s)) (hl : l.length ≤ 9223372036854775807) (h0 : 0 ≤ s) (h1 : s ≤ 1048576) :
 ∃ r, (bif (decide ((wr (s - (len l))) < 0)) then some (-1) else bdR (forL (S := Int) (X := Int) l f (wr (s - (len l)))) (fun s => some s) (fun x => some x)) = some r ∧ (r < 0 ∨ r + (l.length + tot wt l : Nat) = s) := by
 have e : f = fun _ y s => bd (sz y s) fun t => bif decide (t < 0) then some (.rt (-1)) else some (.nx t) := by funext i y s; exact hf i y s
 subst e
 rw [wr_of _ (by rw [len_eq]; omega) (by rw [len_eq]; omega)]
 by_cases hn : s - len l < 0
 · simp only [hn, decide_true, cond_true]
   exact ⟨_, rfl, .inl (by omega)⟩
 · simp only [hn, decide_false, cond_false]
   obtain ⟨q, h2, h3⟩ := sz_loop (l := l) (i := 0) (s := s - len l) h (by omega) (by rw [len_eq]; omega)
   unfold forL
   rw [h2]
   cases q with
   | rt v => simp only at h3; subst h3; exact ⟨-1, rfl, .inl (by omega)⟩
   | go t => exact ⟨t, rfl, .inr (by rw [len_eq] at h3; omega)⟩
theorem to_list {f : Nat → α → List β → Option (Lp (List β) Empty)} {g : α → Option β} {h : α → β} {z : β} {l : List α} (hf : ∀ i y s, f i y s = bd (g y) fun r => bd (ix s (i : Int)) fun _ => bd (put s (i : Int) r) fun xs => some (.nx xs)) (hg : ∀ y ∈ l, g y = some (h y))
 (hl : l.length ≤ lim) : bd (mk2 z (len l) (len l)) (fun xs => bdR (forL (S := List β) (X := Empty) l f xs) (fun s => some s) (fun x => nomatch x)) = some (l.map h) := by
 rw [len_eq, mk2_ok hl, bd_some]
 obtain ⟨s', h1, h2, h3⟩ := forL_inv (X := Empty) (body := f) (fun i t => t = (l.take i).map h ++ List.replicate (l.length - i) z ∧ i ≤ l.length) (l := l) (s := List.replicate l.length z) (by simp) (fun i x t hx ht => by
  obtain ⟨rfl, _⟩ := ht
  have hi := (List.getElem?_eq_some_iff.1 hx).1
  have hm : x ∈ l := List.mem_of_getElem? hx
  have hlen : ((l.take i).map h ++ List.replicate (l.length - i) z).length = l.length := by simp; omega
  obtain ⟨u, hu, _⟩ := ix_of (xs := (l.take i).map h ++ List.replicate (l.length - i) z) (i := (i : Int)) (by omega) (by omega)
  refine ⟨_, by rw [hf, hg x hm, bd_some, hu, bd_some, put_ok (by omega)]; rfl, ?_, by omega⟩
  rw [List.set_append_right _ _ (by simp; omega), List.length_map, List.length_take, Nat.min_eq_left (by omega), Nat.sub_self]
  obtain ⟨m, hm'⟩ : ∃ m, l.length - i = m + 1 := ⟨l.length - i - 1, by omega⟩
  rw [hm', List.replicate_succ, List.set_cons_zero, List.take_add_one, hx]
  simp [show l.length - (i + 1) = m by omega])
 rw [h1]
 simp only [bdR_go, h2, List.take_length, Nat.sub_self, List.replicate_zero, List.append_nil]
theorem eq_list {f : Nat → α → Unit → Option (Lp Unit Bool)} {eq : α → α → Option Bool} {l : List α} (hf : ∀ i y u, f i y u = bd (ix l (i : Int)) fun x => bd (eq y x) fun r => bif !r then some (.rt false) else some (.nx ())) (he : ∀ y ∈ l, eq y y = some true) :
 (bif (!((len l) == (len l))) then some false else bdR (forL (S := Unit) (X := Bool) l f ()) (fun _ => some true) (fun x => some x)) = some true := by
 rw [forL_any (p := fun _ _ => false) (v := false) (fun i y hy => by
  rw [hf, ix_get, hy, bd_some, he y (List.mem_of_getElem? hy), bd_some]; rfl)]
 have : anyI (fun _ _ => false) l 0 = false := anyI_false.2 fun _ _ _ => rfl
 rw [this]; simp
theorem mark_end {F : α → Int → α × Int} {wt : α → Nat} : ∀ {l : List α} {k : Int}, (∀ y ∈ l, ∀ k : Int, 0 ≤ k → k + wt y ≤ 9223372036854775807 → (F y k).2 = k + wt y) → 0 ≤ k → k + tot wt l ≤ 9223372036854775807 → (markFrom F l k).2 = k + tot wt l := by
 intro l
 induction l with
 | nil => intro k _ _ _; simp [markFrom, tot]
 | cons y l ih =>
  intro k h h0 h1
  simp only [tot] at h1 ⊢
  have e := h y (by simp) k h0 (by omega)
  simp only [markFrom]
  rw [ih (fun z hz => h z (by simp [hz])) (by omega) (by omega), e]; omega
theorem held_list {F : α → Int → α × Int} {wt : α → Nat} {f : Nat → α → Int → Option (Lp Int Int)} : ∀ {l : List α} {k : Int} {i : Nat}, (∀ y ∈ l, ∀ k : Int, 0 ≤ k → k + wt y ≤ 9223372036854775807 → (F y k).2 = k + wt y ∧ ∀ i, f i (F y k).1 k = some (.nx (F y k).2)) → 0 ≤ k → k + tot wt l ≤ 9223372036854775807 →
 forLFrom f (markFrom F l k).1 i k = some (.go (markFrom F l k).2) := by
 intro l
 induction l with
 | nil => intro k i _ _ _; rfl
 | cons y l ih =>
  intro k i h h0 h1
  simp only [tot] at h1
  obtain ⟨e, hb⟩ := h y (by simp) k h0 (by omega)
  simp only [markFrom, forLFrom, hb]
  exact ih (fun z hz => h z (by simp [hz])) (by omega) (by omega)
theorem forLFrom_nx {α S X : Type} {body : Nat → α → S → Option (Lp S X)} {a : α} {l : List α} {i : Nat} {s s' : S} (h : body i a s = some (.nx s')) : forLFrom body (a :: l) i s = forLFrom body l (i + 1) s' := by
 simp only [forLFrom, h]
theorem forLFrom_nil {α S X : Type} {body : Nat → α → S → Option (Lp S X)} {i : Nat} {s : S} : forLFrom body [] i s = some (.go s) := rfl
end
end Go.Pu
namespace Go.Mr
open Go.RowKit Go.Pu
def hpOf (w : World) : GH := fun b => w.heap[b]?
theorem sl_hpOf (w : World) : Sl (hpOf w) w := fun _ _ h => h
def RdT (P : Program) (w : World) (t : TypeId) {A : Type} (En : Enc A) (ok : A → Prop) : Prop :=
 ∀ {H : Type} {enc : TypeId × Value → H} {base : Nat} {spare : Nat → Bool} {held : Bool} {fuel : Nat} {cs : List Value} {x : DataW H × List MemPlace}, DataW.trod enc P w base spare held fuel t cs = some x → ∃ a, En.rel (hpOf w) cs a ∧ ok a
section
variable {P : Program} {w : World} {t e k : Nat} {A : Type} {En : Enc A} {ok : A → Prop}
theorem okI_wf {n : Int} (h : (Lit.int .i64 n).wf = true) : okI n := by
 simp [Lit.wf, IntKind.min, IntKind.max, IntKind.signed, IntKind.bits] at h
 exact h
theorem RdT.int (ht : P.underlying t = some (.int .i64)) : RdT P w t eI okI := fun h => by
 obtain ⟨n, rfl, _, hw⟩ := DataW.trod_int ht h; exact ⟨n, rfl, okI_wf hw⟩
theorem cell_block {p : Addr} {c : Value} (h : w.cell? p = some c) : p.spot = Option.none ∧ ∃ arr e fr, w.heap[p.block]? = some (.cells arr e fr) ∧ arr[p.off]? = some c := by
 have hs := World.cell?_spot h
 refine ⟨hs, ?_⟩
 unfold World.cell? at h
 split at h
 · rename_i arr e fr hb
   split at h
   · cases h
   · exact ⟨arr, e, fr, hb, h⟩
 · cases h
theorem cat_of_cells {base : Nat} {p : Addr} {cs : List Value} (hk : 0 < k) (h : w.cells? base p k = some cs) : cs.length = k ∧ CAt (hpOf w) p cs := by
 obtain ⟨_, hl, hc⟩ := World.cells?_some h
 refine ⟨hl, ?_⟩
 obtain ⟨c0, h0⟩ : ∃ c0, cs[0]? = some c0 := ⟨cs[0]'(by omega), List.getElem?_eq_getElem (by omega)⟩
 have := hc 0 hk
 rw [h0, Addr.add_zero'] at this
 obtain ⟨hs, arr, e, fr, hb, _⟩ := cell_block this
 refine ⟨arr, e, fr, hb, hs, fun j c hj => ?_⟩
 have hjk : j < k := by rw [← hl]; exact (List.getElem?_eq_some_iff.1 hj).1
 have h2 := hc j hjk
 rw [hj] at h2
 obtain ⟨_, arr', e', fr', hb', hc'⟩ := cell_block h2
 have hbl : (p.add j).block = p.block := by unfold Addr.add; split <;> rfl
 rw [hbl, hb] at hb'
 cases hb'
 rw [addr_eta hs] at hc'
 exact hc'
theorem RdT.slice (ht : P.underlying t = some (.slice e)) (hc : P.cellsOf e = k) (hk : 0 < k) (he : RdT P w e En ok) : RdT P w t (eL En k) (okL ok) := fun {H enc base spare held fuel cs x} h => by
 rcases DataW.trod_slice ht h with ⟨rfl, _⟩ | ⟨a, len, cap, elems, rest, n, _, rfl, _, _, hle, hm, hlen, hel, _⟩
 · exact ⟨[], ⟨_, rfl, RSl.nil _ _ _⟩, by simp, by simp⟩
 · rw [hc] at hel
   have key : ∀ m, m ≤ len → ∃ xs : List A, xs.length = m ∧ ∀ i x, xs[i]? = some x → ∃ cs, cs.length = k ∧ CAt (hpOf w) (a.add (i * k)) cs ∧ En.rel (hpOf w) cs x ∧ ok x := by
    intro m
    induction m with
    | zero => intro _; exact ⟨[], rfl, by simp⟩
    | succ m ih =>
     intro hlt
     obtain ⟨xs, h1, h2⟩ := ih (by omega)
     have h3 := hel m (by omega)
     rw [List.getElem?_eq_getElem (by omega)] at h3
     obtain ⟨cs', h4, h5⟩ := Option.bind_eq_some_iff.1 h3
     obtain ⟨y, hy, hok⟩ := he h5
     obtain ⟨h6, h7⟩ := cat_of_cells hk h4
     refine ⟨xs ++ [y], by simp [h1], fun i x hx => ?_⟩
     rcases Nat.lt_or_ge i xs.length with hi | hi
     · rw [List.getElem?_append_left hi] at hx; exact h2 i x hx
     · have : i = xs.length := by have := (List.getElem?_eq_some_iff.1 hx).1; simp at this; omega
       subst this
       simp at hx; subst hx
       rw [h1]
       exact ⟨cs', h6, h7, hy, hok⟩
   obtain ⟨xs, h1, h2⟩ := key len (Nat.le_refl _)
   subst h1
   refine ⟨xs, ⟨_, rfl, some a, cap, rfl, ⟨by omega, nofun, hle⟩, fun i x hx => let ⟨cs, g1, g2, g3, _⟩ := h2 i x hx; ⟨a, cs, rfl, g1, g2, g3⟩⟩, by simp only [maxLen] at hm; omega, fun x hx => ?_⟩
   obtain ⟨i, hi⟩ := List.mem_iff_getElem?.1 hx
   obtain ⟨_, _, _, _, h⟩ := h2 i x hi
   exact h
variable {H : Type} {enc : TypeId × Value → H} {base b0 : Nat} {spare : Nat → Bool} {held : Bool} {r : Reach} {v : Value} {d : DataW H} {ps : List MemPlace}
theorem arg_struct {fs : Array Field} (ht : P.underlying t = some (.struct fs)) (he : RdT P w t En ok) (hval : Value.okWide P w r b0 t v) (h : DataW.Trod enc P w base spare held t v d ps) : ∃ (x : A) (cs : List Value), v = .agg cs.toArray ∧ En.rel (hpOf w) cs x ∧ ok x := by
 obtain ⟨cs, rfl, _⟩ := WideShapes.okWide_struct ht hval
 obtain ⟨fuel, h⟩ := h
 obtain ⟨x, hx, ho⟩ := he h
 exact ⟨x, _, by simp [Value.cells], hx, ho⟩
theorem trod_stays {W W' : World} (hl : laidOutB P = true) (hr : P.readableRec t = true) (hrow : t < P.types.size) (hb : Below W.heap.size W W') {ps : List MemPlace} (hp : ∀ p ∈ ps, p.block < W.heap.size)
 (h : DataW.Trod enc P W base (fun _ => true) true t v d ps) : DataW.Trod enc P W' base (fun b => decide (b < W.heap.size)) true t v d ps :=
 WideElems.Trod_stays hl hr hrow h (fun p h => hb.same (hp p h)) (fun p h => by simpa using hp p h)
end
theorem post_law {H : Type} {enc : TypeId × Value → H} {P : Program} {f : Func} {s : ChangeSpec} {W W' : World} {args : Array Value} {ds : List (DataW H)} {p : List MemPlace} {tb : TypeId}
 (hW : DataW.Whole enc P f.params.toList s.vars false W args.toList ds [] (p ++ [])) (hv : s.vars = []) (hf : (s.fn H (ds ++ [])) = { results := [.lit (.bool true)], args := ds }) (hrt : f.resultTypes.toList = [tb]) (hrs : f.resultTypes.size = 1)
 (htb : P.underlying tb = some .bool) (hA : DataW.TrodAll enc P W' 0 (fun b => decide (b < W.heap.size)) true f.params.toList args.toList ds p) (hb : Below W.heap.size W W') :
 s.post enc P f false true false false W args (.bool true) W' := by
 refine ⟨ds, [], p ++ [], [], p, [], hW, ?_, ?_, ?_, hb.frame _, fun h => by cases h⟩
 · rw [hf, hrt, hrs]
   exact trodAll_cons_mk (shut_bool htb _) ChangeShapes.trodAll_mk0
 · rw [hf]; exact hA
 · rw [hf, hv]; rfl
end Go.Mr
namespace Go.Mr
open Go.RowKit Go.Pu Go.Sort
open Go.Proofs (OneCell CmpLays1 sortWorld ltOf)
section
variable {P : Program} {w w' : World} {H0 H H' : GH} {w0 : World} {l : List MO} {e n : Nat} {v : Value} {A : Type} {En : Enc A}
def El1 {A : Type} (En : Enc A) (H : GH) (xs : List A) : Type := { p : Value × A // En.rel H [p.1] p.2 ∧ p.2 ∈ xs }
def El1.enc {H : GH} {xs : List A} (p : El1 En H xs) : Value := p.1.1
def El1.x {H : GH} {xs : List A} (p : El1 En H xs) : A := p.1.2
theorem El1.oneCell {H : GH} {xs : List A} : OneCell (El1.enc (En := En) (H := H) (xs := xs)) := fun p => Enc.one1 p.2.1
theorem els1_arr {H : GH} {cells : List Value} {xs : List A} (h : Els H En 1 cells xs) (ys : List A) (hs : ∀ x ∈ xs, x ∈ ys) : ∃ d : List (El1 En H ys), d.map El1.enc = cells ∧ d.map El1.x = xs := by
 induction h with
 | nil => exact ⟨[], rfl, rfl⟩
 | snoc hp hc hx ih =>
  rename_i cells xs c x
  obtain ⟨d, h1, h2⟩ := ih (fun y hy => hs y (by simp [hy]))
  match c, hc, hx with
  | [c0], _, hx => exact ⟨d ++ [⟨(c0, x), hx, hs x (by simp)⟩], by rw [List.map_append, h1]; rfl, by rw [List.map_append, h2]; rfl⟩
theorem els1_of {H : GH} {ys : List A} (d : List (El1 En H ys)) : Els H En 1 (d.map El1.enc) (d.map El1.x) := by
 rw [← List.reverse_reverse d]
 generalize d.reverse = d
 induction d with
 | nil => exact .nil
 | cons p d ih => rw [List.reverse_cons, List.map_append, List.map_append]; exact .snoc ih rfl p.2.1
theorem heap_sorted1 {α : Type} [Inhabited α] {enc : α → Value} {w : World} {g m : Nat} {os : Array Obj} {cur : Array Value} {e : TypeId} {fr : Nat × Nat} (d : Array α) (hb : w.heap[g]? = some (.cells cur e fr)) :
 (sortWorld enc w g 0 m d os).heap[g]? = some (.cells (putCells enc 0 d cur) e fr) := by
 have hg : g < w.heap.size := (Array.getElem?_eq_some_iff.1 hb).1
 unfold sortWorld
 rw [heap_grow_old _ _ (by simpa using hg)]
 simp [putRow, mapBlock, Sort.ahead, Array.getElem?_modify, hb, onCells]
theorem grownBy_sorted1 {α : Type} [Inhabited α] {enc : α → Value} {w : World} {g m : Nat} {os : Array Obj} (d : Array α) : w.grownBy (sortWorld enc w g 0 m d os) (some g) := by
 unfold sortWorld
 refine ⟨rfl, rfl, rfl, by simp, fun k hk hne => ?_⟩
 rw [heap_grow_old _ _ (by simpa using hk)]
 have : g ≠ k := fun e => hne (by rw [e])
 simp [putRow, mapBlock, Sort.ahead, Array.getElem?_modify, this]
theorem take_putCells1 {α : Type} [Inhabited α] {enc : α → Value} (cur : Array Value) (ts : List α) (n : Nat) (hn : n ≤ ts.length) (h : ts.length ≤ cur.size) : (putCells enc 0 ts.toArray cur).toList.take n = (ts.take n).map enc := by
 apply List.ext_getElem?
 intro j
 by_cases hj : j < n
 · rw [List.getElem?_take_of_lt hj, Array.getElem?_toList]
   simp [putCells, hj, show j < cur.size by omega, show j < ts.length by omega]
 · rw [List.getElem?_take_eq_none (by omega), List.getElem?_eq_none (by simp; omega)]
theorem St.turned (h : St H0 w0 H w l) {i g cap m n' : Nat} {cells : List Value} (hi : l[i]? = some (.row e 1 (.slice (some ⟨g, 0, Option.none⟩) n cap) n cells)) {α : Type} [Inhabited α] {enc : α → Value} (h1 : OneCell enc) (d : List α) (os : Array Obj)
 (hn : n' ≤ d.length) (hd : d.length ≤ n) :
 St H0 w0 H (sortWorld enc w g 0 m d.toArray os) (l.set i (.row e 1 (.slice (some ⟨g, 0, Option.none⟩) n' cap) n' ((d.take n').map enc))) := by
 obtain ⟨⟨k1, k2⟩, k3⟩ := h.ok i _ hi
 rcases k2 with ⟨h3, _⟩ | ⟨g', cap', cur, hv, hg, hh, hle, hcm, hsz, htk⟩
 · cases h3
 cases hv
 refine h.upd hi (grownBy_sorted1 _) (by unfold sortWorld; simp [Sort.ahead, Go.Sort.grow]) ⟨⟨by simp; omega, .inr ⟨g, cap, _, rfl, hg, heap_sorted1 _ hh, by omega, hcm, by simp [putCells, hsz], ?_⟩⟩, ?_⟩ (fun b hb => .inl hb)
 · rw [Nat.mul_one]; exact take_putCells1 cur d n' hn (by omega)
 · intro u hu
   obtain ⟨y, _, rfl⟩ := List.mem_map.1 hu
   exact h1 y
theorem St.holds1 (h : St H0 w0 H w l) {i g cap : Nat} {cells : List Value} (hi : l[i]? = some (.row e 1 (.slice (some ⟨g, 0, Option.none⟩) n cap) n cells)) {α : Type} [Inhabited α] {enc : α → Value} (d : List α) (hd : d.map enc = cells) :
 Holds enc w g 0 d.toArray ∧ g < w.heap.size ∧ d.length = n ∧ n ≤ cap ∧ cap ≤ maxLen := by
 obtain ⟨⟨k1, k2⟩, k3⟩ := h.ok i _ hi
 rcases k2 with ⟨h3, _⟩ | ⟨g', cap', cur, hv, hg, hh, hle, hcm, hsz, htk⟩
 · cases h3
 cases hv
 have hl : d.length = n := by rw [← hd] at k1; simpa using k1
 refine ⟨fun j hj => ?_, (Array.getElem?_eq_some_iff.1 hh).1, hl, hle, hcm⟩
 simp only [List.size_toArray] at hj
 have hc : cells[j]? = some (enc d[j]) := by rw [← hd]; simp [hj]
 rw [Nat.zero_add]
 constructor
 · rw [cell_of_row w g _ _ _ _ hh]
   rw [← htk, List.getElem?_take] at hc
   split at hc
   · simpa [hj] using hc
   · cases hc
 · simp [World.frozen?, hh]
theorem St.sl_sorted (h : St H0 w0 H w l) {i g cap m : Nat} {cells : List Value} (hi : l[i]? = some (.row e 1 (.slice (some ⟨g, 0, Option.none⟩) n cap) n cells)) {α : Type} [Inhabited α] {enc : α → Value} (d : Array α) (os : Array Obj) :
 Sl H (sortWorld enc w g 0 m d os) := fun b ob hb => by
 have hw := h.sl b ob hb
 have hne : some b ≠ some g := fun e => by cases e; rw [h.out i _ g hi rfl] at hb; cases hb
 rw [(grownBy_sorted1 (os := os) (m := m) d).block b (Array.getElem?_eq_some_iff.1 hw).1 hne]; exact hw
theorem Run.grown {B : Nat} (hr : Run B H w H' w') (hB : B = w.heap.size) : ∃ q os', w' = grow (w.drewN q) os' := by
 obtain ⟨hb, _, _, _, hd⟩ := hr
 refine ⟨w'.drawn - w.drawn, w'.heap.extract w.heap.size w'.heap.size, ?_⟩
 have h1 : w'.heap = w.heap ++ w'.heap.extract w.heap.size w'.heap.size := by
  apply Array.ext_getElem?
  intro k
  by_cases hk : k < w.heap.size
  · rw [hb.block k (by omega), Array.getElem?_append_left hk]
  · rw [Array.getElem?_append_right (by omega), Array.getElem?_extract]
    split
    · congr 1; omega
    · rw [Array.getElem?_eq_none (by omega)]
 have h2 : w.drawn + (w'.drawn - w.drawn) = w'.drawn := by omega
 cases w; cases w'
 have := hb.os; have := hb.tape; have := hb.output
 simp only [Go.Sort.grow, World.drewN] at *
 subst_vars
 simp only [World.mk.injEq, and_true]
 exact ⟨h1, trivial, h2.symm⟩
theorem sortF_some {f : A → A → Option Int} {xs r : List A} (h : sortF f xs = some r) : (∃ cf, SortOk f xs cf) ∧ r = xs.mergeSort (leF f) := by
 unfold sortF at h
 split at h
 · rename_i hh; cases h; exact ⟨hh, rfl⟩
 · cases h
theorem St.sortF {G : GH} (hG : Inc G H) (h : St H0 w0 H w l) {i : Nat} {cells : List Value} (hi : l[i]? = some (.row e 1 v n cells)) {xs r : List A} (he : Els G En 1 cells xs) {fv : Value} {f : A → A → Option Int} {fid : Nat}
 (hf : ∀ (H2 : GH) (w2 : World), Inc H H2 → Sl H2 w2 → ∀ c x, En.rel H2 [c] x → ∀ d y, En.rel H2 [d] y → ∀ r, f x y = some r → ∃ fi cs, fv = .func (.func fi) #[] cs ∧ (∀ args w, (callFunc fi args).run P w = .ok (.enter fi args) w) ∧ Calls P fi (#[c, d] ++ cs) w2 (Sc H2 w2 (.int .i64 r)))
 (k0 : ∀ (p : Option Addr) (cap : Nat) (fv : Value) (w : World), Calls P fid #[.slice p 0 cap, fv] w fun e w' => e = .returned (.tuple #[]) ∧ w' = w)
 (k1 : ∀ (α : Type) [Inhabited α] (enc : α → Value) (_ : OneCell enc) (cf : α → α → Int) (_ : SWO (ltOf cf)) (g : Nat) (cb : Array Value) (blk off cap : Nat) (d : Array α) (w : World)
  (_ : ∀ args w, (callFunc g args).run P w = .ok (.enter g args) w) (_ : CmpLays1 P g cb enc cf blk off d.size w) (_ : Holds enc w blk off d) (_ : blk < w.heap.size) (_ : d.size < 4611686018427387904),
  Calls P fid #[.slice (some ⟨blk, off, Option.none⟩) d.size cap, .func (.func g) #[] cb] w fun e w' => e = .returned (.tuple #[]) ∧ ∃ d' n os, PermIn 0 d.size d d' ∧ SortedIn (ltOf cf) 0 d.size d' ∧ w' = sortWorld enc w blk off n d' os)
 (hr : Pu.sortF f xs = some r) :
 Calls P fid #[v, fv] w fun e' w' => e' = .returned (.tuple #[]) ∧ ∃ cells', St H0 w0 H w' (l.set i (.row e 1 v n cells')) ∧ Els G En 1 cells' r ∧ cells'.Perm cells := by
 obtain ⟨⟨cf, hlim, hc, hirr, htr, hntr, hanti⟩, rfl⟩ := sortF_some hr
 obtain ⟨⟨g1, g2⟩, g3⟩ := h.ok i _ hi
 have hlen := he.length
 have hset : l.set i (.row e 1 v n cells) = l := by
  apply List.ext_getElem?
  intro j
  rw [List.getElem?_set]
  split
  · rename_i hij; subst hij; rw [hi]; simp [(List.getElem?_eq_some_iff.1 hi).1]
  · rfl
 rcases g2 with ⟨rfl, rfl⟩ | ⟨g, cap, cur, rfl, hg, hh, hle, hcm, hsz, htk⟩
 · have : xs = [] := by rw [g1] at hlen; apply List.eq_nil_of_length_eq_zero; omega
   subst this
   refine (k0 Option.none 0 fv w).mono ?_
   rintro _ _ ⟨rfl, rfl⟩
   exact ⟨rfl, cells, by rw [hset]; exact h, by simpa using he, List.Perm.refl _⟩
 · match xs, he, hlen, hlim, hc, hirr, htr, hntr, hanti with
   | [], he, hlen, _, _, _, _, _, _ =>
    have : n = 0 := by rw [g1] at hlen; simpa using hlen
    subst this
    refine (k0 (some ⟨g, 0, Option.none⟩) cap fv w).mono ?_
    rintro _ _ ⟨rfl, rfl⟩
    exact ⟨rfl, cells, by rw [hset]; exact h, by simpa using he, List.Perm.refl _⟩
   | x0 :: xs0, he, hlen, hlim, hc, hirr, htr, hntr, hanti =>
    generalize hxs : x0 :: xs0 = xs at *
    obtain ⟨d, hd1, hd2⟩ := els1_arr he xs (fun _ hx => hx)
    have hx0 : xs[0]? = some x0 := by rw [← hxs]; rfl
    obtain ⟨c0, hc0, hr0⟩ := els1_some he hx0
    have hx0m : x0 ∈ xs := by rw [← hxs]; simp
    haveI : Inhabited (El1 En G xs) := ⟨⟨(c0, x0), hr0, hx0m⟩⟩
    obtain ⟨fi, cs, rfl, heg, _⟩ := hf H w (Inc.rfl H) h.sl c0 x0 (En.mono hG hr0) c0 x0 (En.mono hG hr0) _ (hc x0 hx0m x0 hx0m)
    obtain ⟨hH, hblk, hdl, hcap, hcm2⟩ := h.holds1 hi d hd1
    let cf' : El1 En G xs → El1 En G xs → Int := fun p q => cf p.x q.x
    have hlt : ∀ p q, ltOf cf' p q = decide (cf p.x q.x < 0) := fun p q => rfl
    have hO : SWO (ltOf cf') := ⟨fun p => by rw [hlt, decide_eq_false_iff_not]; exact hirr _ p.2.2,
     fun p q s a b => by rw [hlt, decide_eq_true_eq] at *; exact htr _ p.2.2 _ q.2.2 _ s.2.2 a b,
     fun p q s a b => by rw [hlt, decide_eq_false_iff_not] at *; exact hntr _ p.2.2 _ q.2.2 _ s.2.2 a b⟩
    have hcmp : CmpLays1 P fi cs El1.enc cf' g 0 d.toArray.size w := fun m os dk hs p q => by
     have hsl := h.sl_sorted hi (enc := El1.enc) (m := m) dk os
     obtain ⟨fi', cs', hfv, _, hcall⟩ := hf H _ (Inc.rfl H) hsl _ _ (En.mono hG p.2.1) _ _ (En.mono hG q.2.1) _ (hc _ p.2.2 _ q.2.2)
     cases hfv
     refine hcall.mono ?_
     rintro _ W' ⟨rfl, hrun⟩
     exact ⟨rfl, hrun.grown rfl⟩
    have hK := k1 _ El1.enc El1.oneCell cf' hO fi cs g 0 cap d.toArray w heg hcmp hH hblk (by have hdx := congrArg List.length hd2; simp only [List.length_map] at hdx; simp only [lim] at hlim; simp only [List.size_toArray]; omega)
    simp only [List.size_toArray, hdl] at hK
    refine hK.mono ?_
    rintro _ _ ⟨rfl, d', m, os, hp, hso, rfl⟩
    have hd'l : d'.size = n := by rw [hp.1]; simp [hdl]
    have hT := h.turned (m := m) (n' := n) hi El1.oneCell d'.toList os (by simp [hd'l]) (by simp [hd'l])
    have hpm : d'.toList.Perm d := by
     have := hp.2.2
     rw [show (n : Nat) = d'.size from hd'l.symm] at this
     rw [Array.extract_size, hd'l] at this
     rw [show n = d.toArray.size by simp [hdl]] at this
     rw [Array.extract_size] at this
     simpa using this
    refine ⟨rfl, _, by simpa using hT, ?_, by rw [List.take_of_length_le (by simp [hd'l]), ← hd1]; exact hpm.map El1.enc⟩
    have hE : Els G En 1 (d'.toList.map El1.enc) (d'.toList.map El1.x) := els1_of _
    rw [List.take_of_length_le (by simp [hd'l])]
    have : d'.toList.map El1.x = xs.mergeSort (leF f) := by
     have hpx : (d'.toList.map El1.x).Perm xs := (hpm.map El1.x).trans (by rw [hd2])
     have hmem : ∀ y ∈ d'.toList.map El1.x, y ∈ xs := fun y hy => hpx.mem_iff.1 hy
     have hms : (xs.mergeSort (leF f)).Perm xs := List.mergeSort_perm _ _
     have hle : ∀ x ∈ xs, ∀ y ∈ xs, leF f x y = !decide (cf y x < 0) := fun x hx y hy => by simp [leF, hc y hy x hx]
     refine List.Perm.eq_of_pairwise (le := fun x y => x ∈ xs ∧ y ∈ xs ∧ leF f x y = true) ?_ ?_ ?_ (hpx.trans hms.symm)
     · intro a b _ _ h1 h2
       obtain ⟨ha, hb, h1⟩ := h1
       obtain ⟨_, _, h2⟩ := h2
       rw [hle _ ha _ hb] at h1
       rw [hle _ hb _ ha] at h2
       simp only [Bool.not_eq_true', decide_eq_false_iff_not] at h1 h2
       exact hanti a ha b hb h2 h1
     · rw [List.pairwise_iff_getElem]
       intro a b ha hb hab
       refine ⟨hmem _ (List.getElem_mem _), hmem _ (List.getElem_mem _), ?_⟩
       rw [hle _ (hmem _ (List.getElem_mem _)) _ (hmem _ (List.getElem_mem _))]
       simp only [List.length_map, Array.length_toList] at ha hb
       have := hso a b (Nat.zero_le _) hab (by omega)
       rw [hlt, getElem!_pos d' b (by omega), getElem!_pos d' a (by omega)] at this
       simpa using this
     · have hpw : (xs.mergeSort (leF f)).Pairwise fun x y => leF f x y = true := by
        let le' : El1 En G xs → El1 En G xs → Bool := fun p q => !decide (cf q.x p.x < 0)
        have hm := List.map_mergeSort (r := le') (s := leF f) (f := El1.x) (l := d) (fun a _ b _ => (hle _ a.2.2 _ b.2.2).symm)
        rw [hd2] at hm
        rw [← hm, List.pairwise_map]
        have hs' := List.pairwise_mergeSort (le := le') ?_ ?_ d
        · refine hs'.imp ?_
          intro a b hab
          exact (hle a.x a.2.2 b.x b.2.2).trans hab
        · intro a b c h1 h2
          simp only [le', Bool.not_eq_true', decide_eq_false_iff_not] at h1 h2 ⊢
          exact hntr _ c.2.2 _ b.2.2 _ a.2.2 h2 h1
        · intro a b
          simp only [le', Bool.or_eq_true, Bool.not_eq_true', decide_eq_false_iff_not]
          by_cases h1 : cf b.x a.x < 0
          · right
            intro h2
            exact hirr _ b.2.2 (htr _ b.2.2 _ a.2.2 _ b.2.2 h1 h2)
          · exact .inl h1
       rw [List.pairwise_iff_getElem] at hpw ⊢
       intro a b ha hb hab
       exact ⟨hms.mem_iff.1 (List.getElem_mem _), hms.mem_iff.1 (List.getElem_mem _), hpw a b ha hb hab⟩
    rw [← this]
    exact hE
end
end Go.Mr
namespace Go.Proofs
open Go.Shelf Go.RowKit Go.Lib Go.Sort
end Go.Proofs
