/- Zeros that are hung on: append(s, make([]int, n)...). -/
import Derived.Test.YtdkfkiifbagnnaaMr25
import Derived.Lib.AppendZerosOnto
namespace Go.Mr
open Go.RowKit Go.Pu
section
variable {H0 H : GH} {w0 w : World} {l : List MO} {P : Program} {t e tn : TypeId} {v : Value} {n : Nat}
theorem zeroCells_one (m : Nat) : Builtin.zeroCells (Value.int .i64 0).cells m = (List.replicate m (Value.int .i64 0)).toArray := by
  apply Array.ext
  · simp [Builtin.zeroCells, Value.cells]
  · intro i h1 h2
    simp [Builtin.zeroCells, Value.cells, Nat.mod_one]
theorem run_append_zeros_own {base : Nat} (te : TE P t e 1 (.int .i64 0)) {kn : IntKind} (htn : P.underlying tn = some (.int kn)) {cells : List Value} {m : Nat} (hown : w.ownsRow base e 1 v n cells) (hb : n + m ≤ lim) (hbase : base ≤ w.heap.size) :
    ∃ v' w', (∀ ty, (Builtin.append_ #[t, tn] ty #[v, .int .i64 (m : Int)]).run P w = .ok v' w') ∧ w'.ownsRow base e 1 v' (n + m) (cells ++ List.replicate m (.int .i64 0)) ∧ w.grownBy w' v.ownBlock ∧
      (∀ b, v'.ownBlock = some b → v.ownBlock = some b ∨ w.heap.size ≤ b) ∧ w.drawn ≤ w'.drawn := by
  obtain ⟨info, hi, hz, hsz, hby⟩ := te.i
  have hlim : lim = 4294967296 := rfl
  have hw : IntKind.i64.wrap (m : Int) = m := by rw [IntKind.wrap_i64]; omega
  have hbytes : (n + m) * info.bytes ≤ 140737488355328 := by
    have : (n + m) * info.bytes ≤ lim * 4096 := Nat.mul_le_mul hb hby
    rw [hlim] at this
    exact Nat.le_trans this (by decide)
  have hmb : m * info.bytes ≤ 140737488355328 := Nat.le_trans (Nat.mul_le_mul_right _ (Nat.le_add_left m n)) hbytes
  have hmi : ¬ (281474976710656 < (m : Int) * (info.bytes : Int)) := by rw [← Int.natCast_mul]; omega
  have hneg : ¬ ((m : Int) < 0) := by omega
  have hlen : (cells ++ List.replicate m (Value.int .i64 0)).length = (n + m) * 1 := by rw [List.length_append, hown.1, List.length_replicate]; omega
  have grown : ∀ (old : Nat), old < n + m → ∀ (row : Option Nat),
      (w.drew.alloc (.cells (cells.toArray ++ Builtin.zeroCells (Value.int .i64 0).cells m ++ Builtin.zeroCells (Value.int .i64 0).cells (grownCap w (n + m) old e - (n + m))) e)).ownsRow base e 1
        (.slice (some ⟨w.heap.size, 0, none⟩) (n + m) (grownCap w (n + m) old e)) (n + m) (cells ++ List.replicate m (.int .i64 0)) ∧
      w.grownBy (w.drew.alloc (.cells (cells.toArray ++ Builtin.zeroCells (Value.int .i64 0).cells m ++ Builtin.zeroCells (Value.int .i64 0).cells (grownCap w (n + m) old e - (n + m))) e)) row := by
    intro old ho row
    have hge := grownCap_ge w (n + m) old e
    have hcm : grownCap w (n + m) old e ≤ maxLen := grownCap_le_maxLen w (n + m) old e (by simp only [maxLen]; omega)
    have hc1 := hown.1
    refine ⟨⟨hlen, .inr ⟨w.heap.size, _, _, rfl, hbase, heap_alloc_new w.drew _, hge, hcm, ?_, ?_⟩⟩, ⟨rfl, rfl, rfl, by simp, fun k hk _ => heap_alloc_old w.drew _ (by simpa using hk)⟩⟩
    · rw [zeroCells_one, zeroCells_one]; simp; omega
    · rw [zeroCells_one, zeroCells_one]
      simp only [Array.toList_append, List.append_assoc]
      rw [← List.append_assoc, ← hlen]
      exact List.take_left
  rcases hown.2 with ⟨rfl, rfl⟩ | ⟨g, cap, cur, rfl, hbg, hg, hnc, hcm, hcs, htake⟩
  · have hx : cells = [] := List.eq_nil_of_length_eq_zero (by simpa using hown.1)
    subst hx
    by_cases hm : m = 0
    · subst hm
      refine ⟨.slice none 0 0, w, fun ty => ?_, by simpa using World.ownsRow_nil w base e 1, ⟨rfl, rfl, rfl, Nat.le_refl _, fun _ _ _ => rfl⟩, fun b hb => .inl hb, Nat.le_refl _⟩
      simp [Builtin.append_, run_underlying te.u, run_underlying htn, sizeOf, typeInfo, hi, asInt, asIntOf, IntKind.wrap_i64]
    · have hr := fun ty => Go.Lib.run_append_grow_zeros (P := P) w t tn ty e info (.int .i64 0) .i64 kn te.u htn hi hz none 0 0 [] (by simp [Builtin.firstCells]) m (by omega) (by omega) (by omega) (by omega) (by omega) (growslice_fits (by omega) (by simpa using hbytes))
      have hgr := grown 0 (by omega) (Value.ownBlock (.slice none 0 0))
      simp only [Nat.zero_add, List.nil_append, Array.empty_append] at hr hgr ⊢
      exact ⟨_, _, hr, hgr.1, hgr.2, fun b hb => .inr (by simp [Value.ownBlock] at hb; omega), Nat.le_succ _⟩
  · by_cases hroom : n + m ≤ cap
    · have hst := run_storeCells_at P g n e (List.replicate m (Value.int .i64 0)) 0 cur w hg (by rw [hcs]; simp; omega) (fun u hu => by rw [(List.mem_replicate.1 hu).2]; rfl)
      simp only [Nat.add_zero] at hst
      have hc1 := hown.1
      refine ⟨.slice (some ⟨g, 0, none⟩) (n + m) cap, w.setRow g (cur.toList.take n ++ List.replicate m (Value.int .i64 0) ++ cur.toList.drop (n + (List.replicate m (Value.int .i64 0)).length)).toArray, fun ty => ?_,
        ⟨hlen, .inr ⟨g, cap, _, rfl, hbg, setRow_heap w g cur _ e _ hg, hroom, hcm, ?_, ?_⟩⟩, ⟨rfl, rfl, rfl, by simp, fun k _ hk => setRow_other w g k _ (fun e => hk (by simp [Value.ownBlock, e]))⟩, fun b hb => .inl hb, Nat.le_refl _⟩
      · by_cases hm : m = 0
        · subst hm
          have hst0 := hst
          simp only [List.replicate_zero] at hst0
          simp [Builtin.append_, run_underlying te.u, run_underlying htn, sizeOf, typeInfo, hi, hsz, asInt, asIntOf, IntKind.wrap_i64, hnc, Addr.add_lit, hst0]
        · have hns : ¬ (m * info.size = 0) := by rw [hsz]; omega
          simp [Builtin.append_, run_underlying te.u, run_underlying htn, sizeOf, typeInfo, zeroValue, hi, hz, hsz, asInt, asIntOf, hw, hneg, hmi, hroom, hm, zeroCells_one, Addr.add_lit, hst]
      · simp only [List.size_toArray, List.length_append, List.length_take, List.length_drop, Array.length_toList, List.length_replicate]
        omega
      · rw [Nat.mul_one] at htake
        rw [htake, ← hlen]
        exact List.take_left
    · have holds : ∀ j u, cells[j]? = some u → w.cell? ((⟨g, 0, none⟩ : Addr).add j) = some u := hown.cells (g := g) rfl
      have hold : (Builtin.firstCells info.size n (.slice (some ⟨g, 0, none⟩) n cap)).run P w.drew = .ok cells.toArray w.drew :=
        run_firstCells_some (P := P) w.drew info.size n ⟨g, 0, none⟩ n cap cells (by rw [hsz]; exact hown.1) (fun j u hu => by simpa using holds j u hu)
      have hr := fun ty => Go.Lib.run_append_grow_zeros (P := P) w t tn ty e info (.int .i64 0) .i64 kn te.u htn hi hz (some ⟨g, 0, none⟩) n cap cells hold m (by omega) (by omega) (by omega) (by omega) (by omega) (growslice_fits (by omega) hbytes)
      have hgr := grown cap (by omega) (Value.ownBlock (.slice (some ⟨g, 0, none⟩) n cap))
      exact ⟨_, _, hr, hgr.1, hgr.2, fun b hb => .inr (by simp [Value.ownBlock] at hb; omega), Nat.le_succ _⟩
theorem els_zeros {G : GH} : ∀ m : Nat, Els G eI 1 (List.replicate m (Value.int .i64 0)) (List.replicate m 0)
  | 0 => .nil
  | m + 1 => by
    have := Els.snoc (els_zeros (G := G) m) (c := [Value.int .i64 0]) (x := 0) rfl rfl
    rw [← List.replicate_succ', ← List.replicate_succ'] at this
    exact this
theorem St.appendZ {G : GH} {xs zs : List Int} {c1 : List Value} {a : Int} (h : St H0 w0 H w l) (te : TE P t e 1 (.int .i64 0)) {kn : IntKind} (htn : P.underlying tn = some (.int kn)) {i : Nat} (hi : l[i]? = some (.row e 1 v n c1)) (he : Els G eI 1 c1 xs) (hz : appZ xs a = some zs) :
    ∃ v' w1 n' c', (∀ ty, (Builtin.append_ #[t, tn] ty #[v, .int .i64 a]).run P w = .ok v' w1) ∧ St H0 w0 H w1 (l.set i (.row e 1 v' n' c')) ∧ Els G eI 1 c' zs := by
  obtain ⟨h0, hb, rfl⟩ := appZ_some hz
  have hn := h.row_n hi he te.kp
  obtain ⟨g1, g2⟩ := h.ok i _ hi
  obtain ⟨v', w1, hr, h2, h3, h4, h5⟩ := run_append_zeros_own (P := P) te htn (m := a.toNat) g1 (by omega) h.size
  rw [show ((a.toNat : Nat) : Int) = a by omega] at hr
  refine ⟨v', w1, _, _, hr, h.upd hi h3 h5 ⟨h2, fun c hc => ?_⟩ (fun b hb => h4 b hb), he.app (els_zeros _)⟩
  rcases List.mem_append.1 hc with hc | hc
  · exact g2 c hc
  · rw [(List.mem_replicate.1 hc).2]; rfl
theorem E.appendZ {f : Fm} {d : Option Tmp} {ty : TypeId} {pos : String} {aft : Array Edge} {gd : Option (Nat × Bool)} {x y : Operand} {u z : Value} {w' : World} (hx : ev f x = v) (hy : ev f y = u) (hr : ∀ ty, (Builtin.append_ #[t, tn] ty #[v, u]).run P w = .ok z w') :
    (execOp (ev f) ⟨d, .call ⟨.builtin .append, #[x, y], #[t, tn]⟩, ty, pos, aft, gd⟩).run P w = .ok (.value z) w' := by
  simp [execOp, resolve, invoke, builtin, hx, hy, hr]
end
end Go.Mr
