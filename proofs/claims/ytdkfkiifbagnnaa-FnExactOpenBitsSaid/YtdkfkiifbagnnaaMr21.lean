/- slices.Delete. -/
import Derived.Test.YtdkfkiifbagnnaaMr16
import Derived.Test.YtdkfkiifbagnnaaMr13
import Derived.Shelf.SlicesE.Delete
namespace Go.Mr
open Go.RowKit Go.Pu Go.Shelf Go.Sort
section
variable {P : Program} {H0 H : GH} {w0 w : World} {l : List MO} {e n : Nat} {v : Value} {A : Type} {En : Enc A}

theorem Els.delete {G : GH} {cells : List Value} {xs : List A} (he : Els G En 1 cells xs) (i j : Nat) (hij : i ≤ j) (hj : j ≤ xs.length) : Els G En 1 (cells.take i ++ cells.drop j) (xs.take i ++ xs.drop j) := by
  have hl := he.length
  refine els1_mk _ _ (by simp; omega) fun m u x hu hx => ?_
  rw [List.getElem?_append] at hu hx
  simp only [List.length_take] at hu hx
  have get : ∀ (q : Nat), cells[q]? = some u → xs[q]? = some x → En.rel G [u] x := fun q h1 h2 => by
    obtain ⟨c, hc, hr⟩ := els1_some he h2
    rw [h1] at hc; cases hc; exact hr
  by_cases hm : m < i
  · rw [if_pos (by omega), List.getElem?_take_of_lt hm] at hu hx
    exact get m hu hx
  · rw [if_neg (by omega), List.getElem?_drop] at hu hx
    have e1 : j + (m - min i cells.length) = j + (m - min i xs.length) := by rw [Nat.min_eq_left (by omega), Nat.min_eq_left (by omega)]
    rw [e1] at hu
    exact get _ hu hx

abbrev OC := { v : Value // v.oneCell' = true }
instance : Inhabited OC := ⟨⟨.int .i64 0, rfl⟩⟩
theorem St.deleteF {G : GH} (h : St H0 w0 H w l) {i : Nat} {cells : List Value} (hi : l[i]? = some (.row e 1 v n cells)) {xs r : List A} (he : Els G En 1 cells xs) {fid : Nat} (z : OC) {a b : Int} (hr : delL xs a b = some r)
    (k1 : ∀ (blk off cap i j : Nat) (d : Array OC) (w : World) (_ : Holds (fun x : OC => x.1) w blk off d) (_ : d.size ≤ cap) (_ : cap ≤ 9223372036854775807) (_ : i ≤ j) (_ : j ≤ d.size),
      Calls P fid #[.slice (some ⟨blk, off, Option.none⟩) d.size cap, .int .i64 i, .int .i64 j] w fun e w' => e = .returned (.slice (some ⟨blk, off, Option.none⟩) (d.size - (j - i)) cap) ∧
        ∃ q, w' = Go.Sort.putRow (fun x : OC => x.1) (Sort.ahead w q) blk off (d.toList.take i ++ d.toList.drop j ++ List.replicate (j - i) z).toArray) :
    Calls P fid #[v, .int .i64 a, .int .i64 b] w fun e' w' => ∃ v' n' cells', e' = .returned v' ∧ St H0 w0 H w' (l.set i (.row e 1 v' n' cells')) ∧ Els G En 1 cells' r := by
  obtain ⟨h0, hab, hb, rfl⟩ := delL_some hr
  obtain ⟨⟨g1, g2⟩, g3⟩ := h.ok i _ hi
  have hlen := he.length
  rcases g2 with ⟨rfl, rfl⟩ | ⟨g, cap, cur, rfl, hg, hh, hle, hcm, hsz, htk⟩
  · exfalso; rw [g1] at hlen; omega
  · obtain ⟨d, hd⟩ : ∃ d : List OC, d.map (fun x => x.1) = cells := by
      clear hi htk hlen he g1
      induction cells with
      | nil => exact ⟨[], rfl⟩
      | cons c cs ih =>
        obtain ⟨d, hd⟩ := ih (fun u hu => g3 u (by simp [hu]))
        exact ⟨⟨c, g3 c (by simp)⟩ :: d, by simp [hd]⟩
    obtain ⟨hH, hblk, hdl, hcap, hcm2⟩ := h.holds1 hi d hd
    have ha' : ((a.toNat : Nat) : Int) = a := by omega
    have hb' : ((b.toNat : Nat) : Int) = b := by omega
    have hK := k1 g 0 cap a.toNat b.toNat d.toArray w hH (by simp [hdl]; omega) (by simp only [maxLen] at hcm; omega) (by omega) (by simp [hdl]; omega)
    simp only [List.size_toArray, hdl, ha', hb'] at hK
    refine hK.mono ?_
    rintro _ _ ⟨rfl, q, rfl⟩
    have hT := h.turned (m := q) (n' := n - (b.toNat - a.toNat)) hi (enc := fun x : OC => x.1) (fun x => x.2) (d.take a.toNat ++ d.drop b.toNat ++ List.replicate (b.toNat - a.toNat) z) #[] (by simp; omega) (by simp; omega)
    refine ⟨_, n - (b.toNat - a.toNat), ((d.take a.toNat ++ d.drop b.toNat ++ List.replicate (b.toNat - a.toNat) z).take (n - (b.toNat - a.toNat))).map (fun x => x.1), rfl, ?_, ?_⟩
    · unfold Go.Proofs.sortWorld at hT
      rw [grow_empty] at hT
      exact hT
    · have e2 : (d.take a.toNat ++ d.drop b.toNat ++ List.replicate (b.toNat - a.toNat) z).take (n - (b.toNat - a.toNat)) = d.take a.toNat ++ d.drop b.toNat := by
        rw [List.take_append_of_le_length (by simp; omega), List.take_of_length_le (by simp; omega)]
      rw [e2, List.map_append, List.map_take, List.map_drop, hd]
      exact he.delete _ _ (by omega) (by omega)

/-! a row's tail, that is read -/
variable {f : Fm} {d : Option Tmp} {ty : TypeId} {pos : String} {aft : Array Edge} {gd : Option (Nat × Bool)} {x : Operand} {k : Nat} {z : Value}
theorem PtrOf.uniq {i : Int} {p q : Addr} (h1 : PtrOf k v i p) (h2 : PtrOf k v i q) : p = q := by
  obtain ⟨a, m, c, rfl, _, _, rfl⟩ := h1
  obtain ⟨a', m', c', hv, _, _, rfl⟩ := h2
  cases hv; rfl
theorem PtrOf.tail {v' : Value} {a i : Int} {q : Addr} (ht : TailOf k v a v') (h : PtrOf k v (a + i) q) (h0 : 0 ≤ i) : PtrOf k v' i q := by
  obtain ⟨p, len, cap, rfl, h1, h2, h3, rfl⟩ := ht
  obtain ⟨p0, len', cap', hv, g0, g1, rfl⟩ := h
  cases hv
  rw [if_neg (by omega)]
  refine ⟨_, _, _, rfl, h0, by omega, ?_⟩
  rw [addr_add_add, ← Nat.add_mul]
  congr 2
  omega
theorem St.tailLn {G : GH} (h : St H0 w0 H w l) {i : Nat} {cells : List Value} (hi : l[i]? = some (.row e k v n cells)) {xs : List A} (he : Els G En k cells xs) (hk : 0 < k) {a : Int} {v' : Value} (ht : TailOf k v a v') : ∃ m : Nat, Ln v' m ∧ (m : Int) = Pu.len xs - a := by
  have hn := h.row_n hi he hk
  obtain ⟨a', c', hv⟩ := h.row_ln hi
  obtain ⟨p, len, cap, rfl, h1, h2, h3, rfl⟩ := ht
  cases hv
  refine ⟨_, ⟨_, _, rfl⟩, ?_⟩
  simp only [Pu.len]; omega
theorem E.lenT {G : GH} {t e' : Nat} (te : TE P t e' k z) {v' : Value} (hx : ev f x = v') (h : St H0 w0 H w l) {i : Nat} {cells : List Value} (hi : l[i]? = some (.row e k v n cells)) {xs : List A} (he : Els G En k cells xs) (hk : 0 < k) {a : Int} (ht : TailOf k v a v') :
    (execOp (ev f) ⟨d, .call ⟨.builtin .len, #[x], #[t]⟩, ty, pos, aft, gd⟩).run P w = .ok (.value (.int .i64 (Pu.len xs - a))) w := by
  obtain ⟨m, h1, h2⟩ := h.tailLn hi he hk ht
  rw [← h2]; exact E.len te hx h1
end
end Go.Mr
