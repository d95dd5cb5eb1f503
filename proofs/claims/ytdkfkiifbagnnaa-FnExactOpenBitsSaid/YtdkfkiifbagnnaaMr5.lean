/- Rows: append, make, literals, parts, stores; sealing; what a call hands back. -/
import Derived.Test.YtdkfkiifbagnnaaMr4
namespace Go.Mr
open Go.RowKit Go.Pu

section
variable {P : Program} {f : Fm} {w w' : World} {d : Option Tmp} {ty : TypeId} {pos : String} {aft : Array Edge} {gd : Option (Nat × Bool)} {x y : Operand} {v u : Value}
variable {H0 H H' : GH} {w0 : World} {l : List MO} {t e k n : Nat} {z : Value}

theorem addr_add_add (p : Addr) (a b : Nat) : (p.add a).add b = p.add (a + b) := by
  unfold Addr.add
  by_cases ha : a = 0 <;> by_cases hb : b = 0 <;> simp [ha, hb, Nat.add_assoc]

theorem run_append_mine {base : Nat} (te : TE P t e k z) {cells news : List Value} {m : Nat} (hown : w.ownsRow base e k v n cells) (hs : Src w k u m news)
    (h1 : ∀ c ∈ news, c.oneCell' = true) (hb : n + m ≤ lim) (hbase : base ≤ w.heap.size) :
    ∃ v' w', (Builtin.append_ #[t, t] ty #[v, u]).run P w = .ok v' w' ∧ w'.ownsRow base e k v' (n + m) (cells ++ news) ∧ w.grownBy w' v.ownBlock ∧
      (∀ b, v'.ownBlock = some b → v.ownBlock = some b ∨ w.heap.size ≤ b) ∧ w.drawn ≤ w'.drawn := by
  obtain ⟨info, hi, hz, hsz, hby⟩ := te.i
  have h63 : n + m ≤ maxLen := by unfold lim at hb; simp only [maxLen]; omega
  have hbytes : (n + m) * info.bytes ≤ 140737488355328 := by
    have : (n + m) * info.bytes ≤ lim * 4096 := Nat.mul_le_mul hb hby
    unfold lim at this; omega
  rcases hs with ⟨ad, c, rfl, hl, hnews⟩ | ⟨rfl, rfl, rfl⟩
  · obtain ⟨v', w', hr, h2, h3, _⟩ := run_append_own (P := P) w base t ty e info z k info.bytes te.u hi hz hsz rfl te.zs te.kp v n cells hown ad m c news hl hnews h1 h63 hbytes hbase
    refine ⟨v', w', hr, h2, h3, ?_⟩
    subst hsz
    rcases hown.2 with ⟨rfl, rfl⟩ | ⟨g, cap, cur, rfl, hbg, hg, hnc, hcm, hcs, htake⟩
    · by_cases hm : m = 0
      · subst hm
        have hn : news = [] := List.eq_nil_of_length_eq_zero (by simpa using hl)
        subst hn
        have : (Builtin.append_ #[t, t] ty #[.slice none 0 0, .slice (some ad) 0 c]).run P w = .ok (.slice none 0 0) w := by
          simp [Builtin.append_, run_underlying te.u, sizeOf, typeInfo, hi, Builtin.lenOf, Builtin.firstCells, loadCells, loadCellsFrom]
        rw [this] at hr; cases hr
        exact ⟨by intro b hb; simp [Value.ownBlock] at hb, Nat.le_refl _⟩
      · have := run_append_nil (P := P) w t ty e info z te.u hi hz ad m c news hl hnews (by omega) (by simp only [maxLen] at h63; omega) (by simp only [Nat.zero_add] at hbytes; omega)
        rw [this] at hr; cases hr
        exact ⟨by intro b hb; simp [Value.ownBlock] at hb; omega, Nat.le_succ _⟩
    · by_cases hroom : n + m ≤ cap
      · have hfit : n * info.size + news.length ≤ cur.size := by rw [hl, hcs, ← Nat.add_mul]; exact Nat.mul_le_mul_right _ hroom
        have := run_append_room (P := P) w t ty e info te.u hi g n cap cur hg ad m c news hl hnews h1 hroom hfit
        rw [this] at hr; cases hr
        exact ⟨fun b hb => .inl hb, Nat.le_refl _⟩
      · have holds : ∀ j u, cells[j]? = some u → w.cell? ((⟨g, 0, none⟩ : Addr).add j) = some u := hown.cells (g := g) rfl
        have := run_append_grow (P := P) w t ty e info z te.u hi hz ⟨g, 0, none⟩ n cap cells hown.1 holds ad m c news hl hnews (by omega) (by simp only [maxLen] at h63; omega) (growslice_fits (by omega) hbytes)
        rw [this] at hr; cases hr
        exact ⟨by intro b hb; simp [Value.ownBlock] at hb; omega, Nat.le_succ _⟩
  · refine ⟨v, w, run_append_owned_none (P := P) w base t ty e info k te.u hi v n cells hown, by simpa using hown, ⟨rfl, rfl, rfl, Nat.le_refl _, fun _ _ _ => rfl⟩, fun b hb => .inl hb, Nat.le_refl _⟩

/-- append to the row number i -/
theorem St.append (h : St H0 w0 H w l) (te : TE P t e k z) {i m : Nat} {cells news : List Value} {l' : List MO → List MO} (hi : l[i]? = some (.row e k v n cells)) (hs : Src w k u m news)
    (h1 : ∀ c ∈ news, c.oneCell' = true) (hb : n + m ≤ lim) (hl : ∀ o, l.set i o = l' [o]) :
    ∃ v' w1, (∀ ty, (Builtin.append_ #[t, t] ty #[v, u]).run P w = .ok v' w1) ∧ St H0 w0 H w1 (l' [.row e k v' (n + m) (cells ++ news)]) := by
  obtain ⟨g1, g2⟩ := h.ok i _ hi
  obtain ⟨v', w1, hr, h2, h3, h4, h5⟩ := run_append_mine (P := P) (ty := 0) te g1 hs h1 hb h.size
  refine ⟨v', w1, fun ty => hr, ?_⟩
  rw [← hl]
  refine h.upd hi h3 h5 ⟨h2, ?_⟩ (fun b hb => h4 b hb)
  intro c hc
  rcases List.mem_append.1 hc with hc | hc
  · exact g2 c hc
  · exact h1 c hc

theorem E.append (hx : ev f x = v) (hy : ev f y = u) (hr : ∀ ty, (Builtin.append_ #[t, t] ty #[v, u]).run P w = .ok z w') :
    (execOp (ev f) ⟨d, .call ⟨.builtin .append, #[x, y], #[t, t]⟩, ty, pos, aft, gd⟩).run P w = .ok (.value z) w' := by
  simp [execOp, resolve, invoke, builtin, hx, hy, hr]

/-- a nil row of the call's own -/
theorem St.nil (h : St H0 w0 H w l) (e k : Nat) : St H0 w0 H w (.row e k (.slice none 0 0) 0 [] :: l) := by
  refine ⟨h.run, fun i o hi => ?_, fun i o b hi hb => ?_, fun i j oi oj b hi hj h1 h2 => ?_⟩
  · cases i with
    | zero => simp at hi; subst hi; exact ⟨World.ownsRow_nil w _ e k, by simp⟩
    | succ i => exact h.ok i o (by simpa using hi)
  · cases i with
    | zero => simp at hi; subst hi; simp [MO.blk, Value.ownBlock] at hb
    | succ i => exact h.out i o b (by simpa using hi) hb
  · cases i with
    | zero => simp at hi; subst hi; simp [MO.blk, Value.ownBlock] at h1
    | succ i => cases j with
      | zero => simp at hj; subst hj; simp [MO.blk, Value.ownBlock] at h2
      | succ j => have := h.dis i j oi oj b (by simpa using hi) (by simpa using hj) h1 h2; omega

theorem St.pushRow (h : St H0 w0 H w l) (e k n : Nat) (cells : List Value) (hl : cells.length = n * k) (h1 : ∀ c ∈ cells, c.oneCell' = true) (hn : n ≤ maxLen) :
    St H0 w0 H (w.alloc (.cells cells.toArray e (0, 0))) (.row e k (.slice (some ⟨w.heap.size, 0, none⟩) n n) n cells :: l) := by
  refine h.push _ _ ⟨⟨hl, .inr ⟨w.heap.size, n, cells.toArray, rfl, h.size, heap_alloc_new w _, Nat.le_refl _, hn, by simpa using hl, by simp [← hl]⟩⟩, h1⟩ ?_
  intro b hb
  simpa [MO.blk, Value.ownBlock] using hb.symm

/-! a literal -/
theorem foldl_set (new : List Value) : ∀ (off j : Nat) (cs : Array Value), off + j + new.length ≤ cs.size →
    ((new.zipIdx j).foldl (fun (cs : Array Value) (p : Value × Nat) => cs.setIfInBounds (off + p.2) p.1) cs).toList = cs.toList.take (off + j) ++ new ++ cs.toList.drop (off + j + new.length) := by
  induction new with
  | nil => intro off j cs _; simp
  | cons c new ih =>
    intro off j cs h
    simp only [List.length_cons] at h
    rw [List.zipIdx_cons, List.foldl_cons]
    rw [ih off (j + 1) _ (by simp; omega)]
    simp only [Array.toList_setIfInBounds, List.length_cons]
    have hlt : off + j < cs.toList.length := by simp; omega
    rw [show off + (j + 1) = off + j + 1 by omega, List.take_succ_eq_append_getElem (by simpa using hlt), List.take_set_of_le (Nat.le_refl _), List.getElem_set_self, List.drop_set_of_lt (by omega)]
    simp only [List.append_assoc, List.cons_append]
    rw [show off + j + 1 + new.length = off + j + (new.length + 1) by omega]
    rfl

theorem fill_all (k : Nat) : ∀ (vs : List Value) (i : Nat) (cs : Array Value), (∀ v ∈ vs, v.cells.size = k) → cs.size = (i + vs.length) * k →
    ∃ cs', Instr.fill (fun i => some (i * k, k)) cs ((vs.zipIdx i).map fun p => (p.2, p.1)) = some cs' ∧ cs'.toList = cs.toList.take (i * k) ++ (vs.map (·.cells.toList)).flatten := by
  intro vs
  induction vs with
  | nil => intro i cs _ hs; exact ⟨cs, rfl, by simp at hs ⊢; rw [List.take_of_length_le (by simp [hs])]⟩
  | cons v vs ih =>
    intro i cs hv hs
    have hk := hv v (by simp)
    simp only [List.length_cons] at hs
    have hik : (i + (vs.length + 1)) * k = i * k + k + vs.length * k := by rw [Nat.add_mul, Nat.add_mul, Nat.one_mul]; omega
    have hset := foldl_set v.cells.toList (i * k) 0 cs (by simp [hk]; omega)
    simp only [Nat.add_zero, Array.length_toList, hk] at hset
    rw [List.zipIdx_cons, List.map_cons]
    unfold Instr.fill
    simp only
    rw [if_neg (by simp [hk]; omega)]
    rw [show v.cells.zipIdx = (v.cells.toList.zipIdx 0).toArray by apply Array.ext'; simp]
    obtain ⟨cs', h1, h2⟩ := ih (i + 1) (List.foldl (fun (cs : Array Value) (p : Value × Nat) => cs.setIfInBounds (i * k + p.2) p.1) cs (v.cells.toList.zipIdx 0)) (fun u hu => hv u (by simp [hu])) (by
      have := congrArg List.length hset
      simp only [Array.length_toList, List.length_append, List.length_take, List.length_drop] at this
      rw [this, hk, hs, hik, Nat.add_mul, Nat.add_mul, Nat.one_mul, Nat.min_eq_left (by omega)]
      omega)
    refine ⟨cs', ?_, ?_⟩
    · rw [← h1]
      congr 1
      simp [List.foldl_toArray']
    · have hle : i * k ≤ cs.toList.length := by rw [Array.length_toList, hs, hik]; omega
      rw [h2, hset, Nat.add_mul, Nat.one_mul]
      rw [List.take_left' (by rw [List.length_append, List.length_take, Nat.min_eq_left hle, Array.length_toList, hk])]
      simp only [List.map_cons, List.flatten_cons, List.append_assoc]

theorem St.buildSlice (h : St H0 w0 H w l) (te : TE P t e k z) (vs : List Value) {parts : Array (Nat × Value)} {cells : List Value} (hp : parts.toList = (vs.zipIdx 0).map fun p => (p.2, p.1))
    (hv : ∀ v ∈ vs, v.cells.size = k) (hc : (vs.map (·.cells.toList)).flatten = cells) (h1 : ∀ c ∈ cells, c.oneCell' = true) (hsm : vs.length * k ≤ 16777216) :
    ∃ v w1, (Instr.buildSlice t vs.length parts).run P w = .ok v w1 ∧ St H0 w0 H w1 (.row e k v vs.length cells :: l) := by
  subst hc
  obtain ⟨info, hi, hz, hsz, hby⟩ := te.i
  have hk := te.kp
  refine ⟨_, _, ?_, h.pushRow e k vs.length _ ?_ h1 ?_⟩
  · by_cases h0 : vs.length * k = 0
    · have : vs = [] := by
        rcases Nat.mul_eq_zero.1 h0 with h | h
        · exact List.eq_nil_of_length_eq_zero h
        · omega
      subst this
      simp [Instr.buildSlice, run_underlying te.u, sizeOf, typeInfo, hi, hp, Instr.fill, newRow]
      rw [show Array.map (fun _ => (default : Value)) (Array.range 0) = #[] from by apply Array.ext'; simp]
    · obtain ⟨cs', h3, h4⟩ := fill_all k vs 0 (madeCells z.cells (vs.length * k)) hv (by simp [size_madeCells])
      have h5 : cs' = (vs.map (·.cells.toList)).flatten.toArray := by apply Array.ext'; simpa using h4
      subst h5
      have h6 : (Array.range (vs.length * k)).map (z.cells[· % z.cells.size]!) = madeCells z.cells (vs.length * k) := rfl
      have hsm' : ¬ vs.length * k > 2 ^ 24 := by omega
      simp [Instr.buildSlice, run_underlying te.u, sizeOf, typeInfo, hi, hsz, hsm', h0, zeroValue, hz, hp, h6, h3, newRow]
  · clear h1 hp hsm
    induction vs with
    | nil => simp
    | cons v vs ih => simp [ih (fun u hu => hv u (by simp [hu])), hv v (by simp), Nat.add_mul]; omega
  · have : vs.length ≤ vs.length * k := Nat.le_mul_of_pos_right _ hk
    simp only [maxLen]; omega
theorem E.buildSlice {m : Nat} {ps : Array (Nat × Operand)} {parts : Array (Nat × Value)} (hp : (ps.map fun (i, x) => (i, ev f x)) = parts) (hr : (Instr.buildSlice t m parts).run P w = .ok v w') :
    (execOp (ev f) ⟨d, .buildSlice t m ps, ty, pos, aft, gd⟩).run P w = .ok (.value v) w' := by
  subst hp; simp [execOp, hr]

/-! make -/
theorem made_succ (zc : Array Value) (n k : Nat) (hz : zc.size = k) : (madeCells zc ((n + 1) * k)).toList = (madeCells zc (n * k)).toList ++ zc.toList := by
  apply List.ext_getElem?
  intro j
  subst hz
  simp only [madeCells, Array.toList_map, Array.toList_range, List.getElem?_map, List.getElem?_append, List.length_map, List.length_range, Nat.add_mul, Nat.one_mul]
  by_cases h1 : j < n * zc.size
  · rw [if_pos h1, List.getElem?_range (by omega), List.getElem?_range h1]
  · rw [if_neg h1]
    by_cases h2 : j < n * zc.size + zc.size
    · rw [List.getElem?_range h2]
      have h3 : j % zc.size = j - n * zc.size := by
        have : j = (j - n * zc.size) + n * zc.size := by omega
        rw [this, Nat.add_mul_mod_self_right, Nat.mod_eq_of_lt (by omega)]; omega
      have h4 : j - n * zc.size < zc.size := by omega
      simp [h3, h4]
    · rw [List.getElem?_eq_none (by simp; omega), List.getElem?_eq_none (by simp; omega)]; rfl
theorem Els.made {α : Type} {En : Enc α} {x0 : α} {zc : Array Value} (hz : zc.size = k) (hx : En.rel H zc.toList x0) : ∀ n, Els H En k (madeCells zc (n * k)).toList (List.replicate n x0) := by
  intro n
  induction n with
  | zero => have : (madeCells zc (0 * k)).toList = [] := by simp [madeCells]
            rw [this]; exact .nil
  | succ n ih => rw [made_succ zc n k hz, List.replicate_succ']; exact .snoc ih (by simpa using hz) hx

theorem St.make (h : St H0 w0 H w l) (te : TE P t e k z) (kl kc : IntKind) {a c : Int} (h0 : 0 ≤ a) (hac : a ≤ c) (hc : c ≤ lim) (h1 : ∀ u ∈ z.cells.toList, u.oneCell' = true) :
    ∃ v w1, (Instr.makeSlice t (.int kl a) (.int kc c)).run P w = .ok v w1 ∧ St H0 w0 H w1 (.row e k v a.toNat (madeCells z.cells (a.toNat * k)).toList :: l) := by
  obtain ⟨info, hi, hz, hsz, hby⟩ := te.i
  have hm : ∀ n, ∀ u ∈ (madeCells z.cells n).toList, u.oneCell' = true := by
    intro n u hu
    simp only [madeCells, Array.toList_map, Array.toList_range, List.mem_map] at hu
    obtain ⟨j, _, rfl⟩ := hu
    have hk := te.kp
    have hlt : j % z.cells.size < z.cells.size := Nat.mod_lt _ (by rw [te.zs]; exact hk)
    rw [getElem!_pos z.cells _ hlt]
    exact h1 _ (by simp)
  have hcn : c.toNat ≤ lim := by unfold lim at hc ⊢; omega
  have hb : (info.bytes : Int) * c ≤ 281474976710656 := by
    have e1 : ((info.bytes * c.toNat : Nat) : Int) = (info.bytes : Int) * c := by rw [Int.natCast_mul, Int.toNat_of_nonneg (by omega)]
    have e2 : info.bytes * c.toNat ≤ 4096 * lim := Nat.mul_le_mul hby hcn
    unfold lim at e2
    omega
  have hr := run_make (P := P) w t e info z te.u hi hz kl kc a c h0 hac hb (by unfold lim at hc; omega)
  refine ⟨_, _, hr, h.push _ _ ⟨⟨?_, .inr ⟨w.heap.size, c.toNat, madeCells z.cells (c.toNat * info.size), rfl, h.size, heap_alloc_new w _, by omega, ?_, ?_, ?_⟩⟩, hm _⟩ ?_⟩
  · simp [size_madeCells]
  · unfold lim at hcn; simp only [maxLen]; omega
  · rw [size_madeCells, hsz]
  · rw [hsz]
    have : a.toNat * k ≤ c.toNat * k := Nat.mul_le_mul_right _ (by omega)
    simp only [madeCells, Array.toList_map, Array.toList_range, ← List.map_take, List.take_range, Nat.min_eq_left this]
  · intro b hb; simpa [MO.blk, Value.ownBlock] using hb.symm
theorem E.makeSlice (hx : ev f x = u) (hy : ev f y = z) (hr : (Instr.makeSlice t u z).run P w = .ok v w') : (execOp (ev f) ⟨d, .makeSlice t x y, ty, pos, aft, gd⟩).run P w = .ok (.value v) w' := by
  subst hx hy; simp [execOp, hr]
end
end Go.Mr
