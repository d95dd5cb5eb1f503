/- Small laws that the walks cite. -/
import Derived.Test.YtdkfkiifbagnnaaMr7
namespace Go.Mr
open Go.RowKit Go.Pu

section
variable {P : Program} {f : Fm} {w w' : World} {d : Option Tmp} {ty : TypeId} {pos : String} {aft : Array Edge} {gd : Option (Nat × Bool)} {x y : Operand} {v u : Value}
variable {H0 H H' : GH} {w0 : World} {l : List MO} {t e k n : Nat} {z : Value}

theorem eI_open {H : GH} {cs : List Value} {x : Int} (h : eI.rel H cs x) : cs = [.int .i64 x] := h
theorem eB_open {H : GH} {cs : List Value} {x : Bool} (h : eB.rel H cs x) : cs = [.bool x] := h
theorem eS_open {H : GH} {cs : List Value} {x : ByteArray} (h : eS.rel H cs x) : cs = [.string x] := h
theorem eL_open {α : Type} {E : Enc α} {k : Nat} {H : GH} {cs : List Value} {xs : List α} (h : (eL E k).rel H cs xs) : ∃ v, cs = [v] ∧ RSl H E k v xs := h
def eN (kk : IntKind) : Enc Int := ⟨fun _ cs n => cs = [.int kk n], fun _ h => h, by intro H cs x h; subst h; simp [Value.oneCell'], by intro H cs x h; subst h; simp [bl, neb]⟩
theorem eN_open {kk : IntKind} {H : GH} {cs : List Value} {x : Int} (h : (eN kk).rel H cs x) : cs = [.int kk x] := h
def eI2 : Enc (Int × Int) := ⟨fun _ cs p => cs = [.int .i64 p.1, .int .i64 p.2], fun _ h => h, by intro H cs x h; subst h; simp [Value.oneCell'], by intro H cs x h; subst h; simp [bl, neb]⟩
theorem eI2_open {H : GH} {cs : List Value} {x : Int × Int} (h : eI2.rel H cs x) : cs = [.int .i64 x.1, .int .i64 x.2] := h

theorem RSl.cells {α : Type} {E : Enc α} {v : Value} {xs : List α} (h : RSl H E k v xs) : v.cells = #[v] := by obtain ⟨a, cap, rfl, _⟩ := h; rfl
theorem cells_size {v u : Value} (h : v.cells = #[u]) : v.cells.size = 1 := by rw [h]; rfl
theorem fc_nil : (([] : List Value).map (·.cells.toList)).flatten = [] := rfl
theorem fc_cons {v : Value} {vs c cs : List Value} (h : v.cells = c.toArray) (t : (vs.map (·.cells.toList)).flatten = cs) : ((v :: vs).map (·.cells.toList)).flatten = c ++ cs := by simp [h, t]
theorem ones_nil : ∀ u ∈ ([] : List Value), u.oneCell' = true := by simp
theorem ones_cons {c : Value} {l : List Value} (h : c.oneCell' = true) (hl : ∀ u ∈ l, u.oneCell' = true) : ∀ u ∈ c :: l, u.oneCell' = true := by
  intro u hu; rcases List.mem_cons.1 hu with rfl | hu
  · exact h
  · exact hl u hu
theorem szs_nil {k : Nat} : ∀ v ∈ ([] : List Value), v.cells.size = k := by simp
theorem szs_cons {c : Value} {l : List Value} {k : Nat} (h : c.cells.size = k) (hl : ∀ v ∈ l, v.cells.size = k) : ∀ v ∈ c :: l, v.cells.size = k := by
  intro u hu; rcases List.mem_cons.1 hu with rfl | hu
  · exact h
  · exact hl u hu

theorem appA {xs : Array Operand} {a : Array Value} (h : xs.map (ev f) = a) (c : Array Value) : xs.map (ev f) ++ c = a ++ c := by rw [h]
theorem B0 : ((#[] : Array (Nat × Operand)).map fun (i, x) => (i, ev f x)) = #[] := by simp
theorem B1 {i1 : Nat} {x1 : Operand} {v1 : Value} (h1 : ev f x1 = v1) : (#[(i1, x1)].map fun (i, x) => (i, ev f x)) = #[(i1, v1)] := by simp [h1]
theorem B2 {i1 i2 : Nat} {x1 x2 : Operand} {v1 v2 : Value} (h1 : ev f x1 = v1) (h2 : ev f x2 = v2) : (#[(i1, x1), (i2, x2)].map fun (i, x) => (i, ev f x)) = #[(i1, v1), (i2, v2)] := by simp [h1, h2]
theorem B3 {i1 i2 i3 : Nat} {x1 x2 x3 : Operand} {v1 v2 v3 : Value} (h1 : ev f x1 = v1) (h2 : ev f x2 = v2) (h3 : ev f x3 = v3) :
    (#[(i1, x1), (i2, x2), (i3, x3)].map fun (i, x) => (i, ev f x)) = #[(i1, v1), (i2, v2), (i3, v3)] := by simp [h1, h2, h3]
theorem B4 {i1 i2 i3 i4 : Nat} {x1 x2 x3 x4 : Operand} {v1 v2 v3 v4 : Value} (h1 : ev f x1 = v1) (h2 : ev f x2 = v2) (h3 : ev f x3 = v3) (h4 : ev f x4 = v4) :
    (#[(i1, x1), (i2, x2), (i3, x3), (i4, x4)].map fun (i, x) => (i, ev f x)) = #[(i1, v1), (i2, v2), (i3, v3), (i4, v4)] := by simp [h1, h2, h3, h4]
theorem B5 {i1 i2 i3 i4 i5 : Nat} {x1 x2 x3 x4 x5 : Operand} {v1 v2 v3 v4 v5 : Value} (h1 : ev f x1 = v1) (h2 : ev f x2 = v2) (h3 : ev f x3 = v3) (h4 : ev f x4 = v4) (h5 : ev f x5 = v5) :
    (#[(i1, x1), (i2, x2), (i3, x3), (i4, x4), (i5, x5)].map fun (i, x) => (i, ev f x)) = #[(i1, v1), (i2, v2), (i3, v3), (i4, v4), (i5, v5)] := by simp [h1, h2, h3, h4, h5]
theorem B6 {i1 i2 i3 i4 i5 i6 : Nat} {x1 x2 x3 x4 x5 x6 : Operand} {v1 v2 v3 v4 v5 v6 : Value} (h1 : ev f x1 = v1) (h2 : ev f x2 = v2) (h3 : ev f x3 = v3) (h4 : ev f x4 = v4) (h5 : ev f x5 = v5) (h6 : ev f x6 = v6) :
    (#[(i1, x1), (i2, x2), (i3, x3), (i4, x4), (i5, x5), (i6, x6)].map fun (i, x) => (i, ev f x)) = #[(i1, v1), (i2, v2), (i3, v3), (i4, v4), (i5, v5), (i6, v6)] := by simp [h1, h2, h3, h4, h5, h6]

theorem E.build {ps : Array (Nat × Operand)} {parts : Array (Nat × Value)} (hp : (ps.map fun (i, x) => (i, ev f x)) = parts) (hr : (Instr.build t parts).run P w = .ok v w') :
    (execOp (ev f) ⟨d, .build t ps, ty, pos, aft, gd⟩).run P w = .ok (.value v) w' := by
  subst hp; simp [execOp, hr]
theorem E.fieldAddrN {i off a b : Nat} {p : Addr} (tf : TF P t i off) (hx : ev f x = .pointer (some (p.add a))) (h : a + off = b) : (execOp (ev f) ⟨d, .fieldAddr t x i, ty, pos, aft, gd⟩).run P w = .ok (.value (.pointer (some (p.add b)))) w := by
  subst h; rw [← addr_add_add]; exact E.fieldAddr tf hx
theorem E.lssT {k : IntKind} {a b : Int} {t t' : TypeId} (hx : ev f x = .int k a) (hy : ev f y = .int k b) (h : decide (a < b) = true) :
    (execOp (ev f) ⟨d, .binOp .lss t x y t', ty, pos, aft, gd⟩).run P w = .ok (.value (.bool true)) w := by
  have := E.lss (P := P) (w := w) (d := d) (ty := ty) (pos := pos) (aft := aft) (gd := gd) (t := t) (t' := t') hx hy
  rwa [h] at this
theorem lss_len {α : Type} {xs : List α} {i : Nat} {x : α} (h : xs[i]? = some x) : decide (((i : Nat) : Int) < len xs) = true := by
  have := lt_of_get h
  simp [len]; omega
theorem lss_nat {i n : Nat} (h : i < n) : decide (((i : Nat) : Int) < ((n : Nat) : Int)) = true := by simp; omega
theorem lss_natlen {α : Type} {xs : List α} {i : Nat} (h : i < xs.length) : decide (((i : Nat) : Int) < len xs) = true := by simp [len]; omega
theorem lss_chk {i m : Nat} {n : Int} (h : i < m) (hc : chk n = some m) : decide (((i : Nat) : Int) < n) = true := by
  unfold chk at hc; split at hc
  · cases hc; simp; omega
  · cases hc
theorem dlt_len {α : Type} {xs : List α} : decide (((xs.length : Nat) : Int) < len xs) = false := by simp [len]
theorem dlt_maxlen {α : Type} {xs : List α} {a : Nat} : decide (((max a xs.length : Nat) : Int) < len xs) = false := by simp [len]; omega
theorem dlt_maxnat {a n : Nat} : decide (((max a n : Nat) : Int) < ((n : Nat) : Int)) = false := by simp; omega
theorem dlt_maxchk {a m : Nat} {n : Int} (hc : chk n = some m) : decide (((max a m : Nat) : Int) < n) = false := by
  unfold chk at hc; split at hc
  · cases hc; simp; omega
  · cases hc
theorem dlt_chk {m : Nat} {n : Int} (hc : chk n = some m) : decide (((m : Nat) : Int) < n) = false := by
  unfold chk at hc; split at hc
  · cases hc; simp; omega
  · cases hc
theorem chk_le {m : Nat} {n : Int} (hc : chk n = some m) : m ≤ maxLen := by
  unfold chk at hc; split at hc
  · cases hc; simp only [maxLen]; omega
  · cases hc
theorem nat_succ {f : Fm} {s i n : Nat} (h : f s = .int .i64 (wr (((i : Nat) : Int) + 1))) (hi : i < n) (hn : n ≤ maxLen) : f s = .int .i64 ((i + 1 : Nat) : Int) := by
  rw [h, wr_of _ (by omega) (by simp only [maxLen] at hn; omega)]; rfl

theorem loadVar_A {p : Addr} {cs : List Value} {n : Nat} (ta : ∀ w, (isAgg t).run P w = .ok true w) (ts : ∀ w, (sizeOf t).run P w = .ok n w) (hw : WAt w p cs) (hn : cs.length = n) :
    (loadVar t p).run P w = .ok (.agg cs.toArray) w := by
  subst hn
  simp [loadVar, ta, ts, run_loadCells_list w p cs hw]
theorem run_loadA0 {p : Addr} {cs : List Value} {n : Nat} (ta : ∀ w, (isAgg t).run P w = .ok true w) (ts : ∀ w, (sizeOf t).run P w = .ok n w) (hw : WAt w (p.add 0) cs) (hn : cs.length = n) :
    (Instr.loadAt t (.pointer (some p))).run P w = .ok (.agg cs.toArray) w := by
  rw [Addr.add_zero'] at hw; exact run_loadA ta ts hw hn

theorem WAt.cls {p : Addr} {cs : List Value} (h : WAt w p cs) (hw : Run w.heap.size H w H' w') : WAt w' p cs := by
  intro j c hc
  have h1 := h j c hc
  have hlt : (p.add j).block < w.heap.size := World.block_lt_of_cell? w _ h1
  rw [World.cell?_of_block (hw.bel.block _ hlt)]; exact h1
theorem Calls.cls {fid : Nat} {args : Array Value} (hw : Run w.heap.size H w H w') (h : Calls P fid args w' (Sc H w' v)) :
    Calls P fid args w' (fun e w'' => e = .returned v ∧ Run w.heap.size H w H w'') :=
  h.mono fun _ _ ⟨he, hr⟩ => ⟨he, hw.tr hr hw.bel.size⟩

/-- a choice of the objects -/
theorem St.sel (h : St H0 w0 H w l) (is : List Nat) (hnd : is.Nodup) {l' : List MO} (hl : is.filterMap (l[·]?) = l') : St H0 w0 H w l' := by
  subst hl
  have key : ∀ (is : List Nat), ∃ g : Nat → Nat, (∀ (j : Nat) (o : MO), (is.filterMap (l[·]?))[j]? = some o → l[g j]? = some o ∧ g j ∈ is) ∧
      (is.Nodup → ∀ (j j' : Nat) (o o' : MO), (is.filterMap (l[·]?))[j]? = some o → (is.filterMap (l[·]?))[j']? = some o' → g j = g j' → j = j') := by
    intro is
    induction is with
    | nil => exact ⟨id, by simp, by simp⟩
    | cons i is ih =>
      obtain ⟨g, h1, h2⟩ := ih
      cases hi : l[i]? with
      | none =>
        refine ⟨g, fun j o hj => ?_, fun hn j j' o o' hj hj' => ?_⟩
        · simp only [List.filterMap_cons, hi] at hj
          obtain ⟨a, b⟩ := h1 j o hj; exact ⟨a, by simp [b]⟩
        · simp only [List.filterMap_cons, hi] at hj hj'
          exact h2 (List.nodup_cons.1 hn).2 j j' o o' hj hj'
      | some oi =>
        refine ⟨fun j => match j with | 0 => i | j + 1 => g j, fun j o hj => ?_, fun hn j j' o o' hj hj' he => ?_⟩
        · simp only [List.filterMap_cons, hi] at hj
          cases j with
          | zero => simp at hj; subst hj; exact ⟨hi, by simp⟩
          | succ j => obtain ⟨a, b⟩ := h1 j o (by simpa using hj); exact ⟨a, by simp [b]⟩
        · simp only [List.filterMap_cons, hi] at hj hj'
          obtain ⟨hn1, hn2⟩ := List.nodup_cons.1 hn
          cases j with
          | zero => cases j' with
            | zero => rfl
            | succ j' => have := (h1 j' o' (by simpa using hj')).2; simp only at he; rw [← he] at this; exact absurd this hn1
          | succ j => cases j' with
            | zero => have := (h1 j o (by simpa using hj)).2; simp only at he; rw [he] at this; exact absurd this hn1
            | succ j' => have := h2 hn2 j j' o o' (by simpa using hj) (by simpa using hj') he; omega
  obtain ⟨g, h1, h2⟩ := key is
  exact ⟨h.run, fun i o hi => h.ok _ o (h1 i o hi).1, fun i o b hi hb => h.out _ o b (h1 i o hi).1 hb,
    fun i j oi oj b hi hj hbi hbj => h2 hnd i j oi oj hi hj (h.dis _ _ oi oj b (h1 i oi hi).1 (h1 j oj hj).1 hbi hbj)⟩

theorem St.row_n {α : Type} {En : Enc α} {xs : List α} {cells : List Value} (h : St H0 w0 H w l) {i : Nat} (hi : l[i]? = some (.row e k v n cells)) (he : Els H' En k cells xs) (hk : 0 < k) : n = xs.length := by
  obtain ⟨⟨k1, _⟩, _⟩ := h.ok i _ hi
  have hl := he.length
  rw [k1] at hl
  exact Nat.eq_of_mul_eq_mul_right hk hl
theorem E.lenO {α : Type} {En : Enc α} {xs : List α} {cells : List Value} {t e' : Nat} (te : TE P t e' k z) (hx : ev f x = v) (h : St H0 w0 H w l) {i : Nat} (hi : l[i]? = some (.row e k v n cells)) (he : Els H' En k cells xs) (hk : 0 < k) :
    (execOp (ev f) ⟨d, .call ⟨.builtin .len, #[x], #[t]⟩, ty, pos, aft, gd⟩).run P w = .ok (.value (.int .i64 (Pu.len xs))) w := by
  have := E.len (P := P) (f := f) (w := w) (d := d) (ty := ty) (pos := pos) (aft := aft) (gd := gd) te hx (h.row_ln hi)
  rw [h.row_n hi he hk] at this; exact this

theorem St.appendO {α : Type} {G : GH} {En : Enc α} {xs ys zs : List α} {c1 c2 : List Value} {e2 n2 : Nat} (h : St H0 w0 H w l) (te : TE P t e k z) {i j : Nat} (hi : l[i]? = some (.row e k v n c1)) (he : Els G En k c1 xs)
    (hj : l[j]? = some (.row e2 k u n2 c2)) (hy : Els G En k c2 ys) (hz : app xs ys = some zs) :
    ∃ v' w1 n' c', (∀ ty, (Builtin.append_ #[t, t] ty #[v, u]).run P w = .ok v' w1) ∧ St H0 w0 H w1 (l.set i (.row e k v' n' c')) ∧ Els G En k c' zs ∧ c' = c1 ++ c2 := by
  obtain ⟨hb, rfl⟩ := app_some hz
  have hn := h.row_n hi he te.kp
  have hn2 := h.row_n hj hy te.kp
  obtain ⟨v', w1, hr, hS⟩ := h.append (P := P) te (l' := fun o => l.set i (o.headD (.box 0 0 []))) hi (h.row_src hj) (h.ok j _ hj).2 (by omega) (fun o => rfl)
  exact ⟨v', w1, _, _, hr, hS, he.app hy, rfl⟩
theorem St.appendP {α : Type} {G : GH} (hg : Inc G H) {En : Enc α} {xs ys zs : List α} {c1 : List Value} (h : St H0 w0 H w l) (te : TE P t e k z) {i : Nat} (hi : l[i]? = some (.row e k v n c1)) (he : Els G En k c1 xs)
    (hy : RSl G En k u ys) (hz : app xs ys = some zs) :
    ∃ v' w1 n' c', (∀ ty, (Builtin.append_ #[t, t] ty #[v, u]).run P w = .ok v' w1) ∧ St H0 w0 H w1 (l.set i (.row e k v' n' c')) ∧ Els G En k c' zs := by
  obtain ⟨hb, rfl⟩ := app_some hz
  have hn := h.row_n hi he te.kp
  obtain ⟨news, g1, g2, g3⟩ := hy.src (fun b o hb => h.sl b o (hg b o hb))
  obtain ⟨v', w1, hr, hS⟩ := h.append (P := P) te (l' := fun o => l.set i (o.headD (.box 0 0 []))) hi g3 g2 (by omega) (fun o => rfl)
  exact ⟨v', w1, _, _, hr, hS, he.app g1⟩

theorem St.putEls {α : Type} {G : GH} {En : Enc α} {xs ys : List α} {x0 : α} {cells c : List Value} (h : St H0 w0 H w l) {i : Nat} (hi : l[i]? = some (.row e k v n cells)) (he : Els G En k cells xs) {j : Int}
    (hy : put xs j x0 = some ys) {p : Addr} (hp : PtrOf k v j p) (ts : ∀ w, (sizeOf t).run P w = .ok k w) (hu : u.cells = c.toArray) (hck : c.length = k) (h1 : ∀ b ∈ c, b.oneCell' = true) (hr : En.rel G c x0) :
    ∃ w1 cells', (Instr.storeAt t (.pointer (some p)) u).run P w = .ok () w1 ∧ St H0 w0 H w1 (l.set i (.row e k v n cells')) ∧ Els G En k cells' ys ∧ cells' = cells.take (j.toNat * k) ++ c ++ cells.drop (j.toNat * k + k) := by
  obtain ⟨h0, h2, rfl⟩ := put_some hy
  obtain ⟨w1, hst, hS⟩ := h.putRow (P := P) (l' := fun o => l.set i o) hi hp ts (u := u) (by rw [hu]; simpa using hck) (by rw [hu]; simpa using h1) (fun o => rfl)
  rw [hu] at hS
  exact ⟨w1, _, hst, hS, he.put hck hr _ (by omega), rfl⟩

theorem St.makeEls {α : Type} {G : GH} {En : Enc α} {x0 : α} {xs : List α} {a c : Int} (h : St H0 w0 H w l) (te : TE P t e k z) (hm : mk2 x0 a c = some xs) (hz : En.rel G z.cells.toList x0) (h1 : ∀ u ∈ z.cells.toList, u.oneCell' = true) (kl kc : IntKind) :
    ∃ v w1 n cells, (Instr.makeSlice t (.int kl a) (.int kc c)).run P w = .ok v w1 ∧ St H0 w0 H w1 (.row e k v n cells :: l) ∧ Els G En k cells xs ∧ ((∀ u ∈ z.cells.toList, neb u = Option.none) → bl cells = []) := by
  obtain ⟨h0, hac, hc, rfl⟩ := mk2_some hm
  obtain ⟨v, w1, hr, hS⟩ := h.make (P := P) te kl kc h0 hac hc h1
  refine ⟨v, w1, _, _, hr, hS, Els.made te.zs hz _, fun hb => ?_⟩
  unfold bl
  rw [List.filterMap_eq_nil_iff]
  intro u hu
  simp only [madeCells, Array.toList_map, Array.toList_range, List.mem_map] at hu
  obtain ⟨j, _, rfl⟩ := hu
  have hk := te.kp
  have hlt : j % z.cells.size < z.cells.size := Nat.mod_lt _ (by rw [te.zs]; exact hk)
  rw [getElem!_pos z.cells _ hlt]
  exact hb _ (by simp)

theorem E.addS {a b c : ByteArray} {t t' : TypeId} {catS : ByteArray → ByteArray → Option ByteArray} (hx : ev f x = .string a) (hy : ev f y = .string b) (h : catS a b = some c) (hc : ∀ a b c, catS a b = some c → a.size + b.size ≤ 9223372036854775807 ∧ c = a ++ b) :
    (execOp (ev f) ⟨d, .binOp .add t x y t', ty, pos, aft, gd⟩).run P w = .ok (.value (.string c)) w := by
  obtain ⟨h1, rfl⟩ := hc a b c h
  have : ¬ (((a.size + b.size : Nat) : Int) > IntKind.i64.max) := by simp [IntKind.max, IntKind.signed, IntKind.bits]; omega
  simp [execOp, eqGuard, binOp, hx, hy, Op.stringOp]
  omega
end

section
variable {P : Program} {N : Nat} {Q : FQ} {f : Fm} {w : World}
theorem FW.forR {ρ : Option Nat} {δ : List Nat} {S X : Type} {c : Code} {a n : Nat} {body : Nat → S → Option (Lp S X)} (I : Nat → S → Fm → World → Prop) (Dn : Rs S X → FQ) {s : S} {q : Rs S X} (hq : Pu.forR a n body s = some q) (h0 : I a s f w)
    (hbody : ∀ i s f w, I i s f w → a ≤ i → i < n → ∀ o, body i s = some o → FW (ρ := ρ) (δ := δ) P N c (Rd (I (i + 1)) Dn o) f w)
    (hend : ∀ s f w, I (max a n) s f w → FW (ρ := ρ) (δ := δ) P N c (fun e f w => e ≠ .normal ∧ Dn (.go s) e f w) f w) : FW (ρ := ρ) (δ := δ) P N (.loop c) (Dn q) f w := by
  refine FW.loopG (fun m f w => ∃ i s, a ≤ i ∧ i + m = max a n ∧ I i s f w ∧ forFrom body m i s = some q) (m := n - a) ?_ ⟨a, s, Nat.le_refl _, by omega, h0, hq⟩
  rintro m f w ⟨i, s, hai, hm, hI, hs⟩
  cases m with
  | zero =>
    simp only [forFrom, Option.some.injEq] at hs
    subst hs
    have : i = max a n := by omega
    subst this
    exact (hend s f w hI).mono fun e f w ⟨he, h⟩ => then_of he h
  | succ m =>
    simp only [forFrom] at hs
    cases hb : body i s with
    | none => rw [hb] at hs; cases hs
    | some o =>
      rw [hb] at hs
      refine (hbody i s f w hI hai (by omega) o hb).mono fun e f' w' h => ?_
      cases o with
      | nx s' => obtain ⟨rfl, h⟩ := h; exact ⟨m, by omega, i + 1, s', by omega, by omega, h, hs⟩
      | bk s' => obtain ⟨he, h⟩ := h; simp only [Option.some.injEq] at hs; subst hs; exact then_of he h
      | rt x => obtain ⟨he, h⟩ := h; simp only [Option.some.injEq] at hs; subst hs; exact then_of he h
end
section
variable {A : Type} {En : Enc A}
theorem els1_some {H : GH} {cells : List Value} {xs : List A} (h : Els H En 1 cells xs) {i : Nat} {x : A} (hx : xs[i]? = some x) : ∃ c, cells[i]? = some c ∧ En.rel H [c] x := by
  obtain ⟨c, h1, h2, h3⟩ := h.get i x hx
  obtain ⟨c0, rfl⟩ : ∃ c0, c = [c0] := by
    match c, h1 with
    | [c0], _ => exact ⟨c0, rfl⟩
  exact ⟨c0, by simpa using h3 0 c0 rfl, h2⟩

end
theorem Ln.one {v : Value} {n : Nat} (h : Ln v n) : v.oneCell' = true := by obtain ⟨a, c, rfl⟩ := h; rfl
theorem Ln.cells {v : Value} {n : Nat} (h : Ln v n) : v.cells = #[v] := by obtain ⟨a, c, rfl⟩ := h; rfl
end Go.Mr
