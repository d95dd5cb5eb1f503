/- Helpers of the walks and plain laws. -/
import Derived.Test.YtdkfkiifbagnnaaGreatFcPA
set_option linter.unusedVariables false
namespace Go.PF
open Go.Pu
theorem forR_invG {σ X : Type} {m : Nat} {body : Nat → σ → Option (Lp σ X)} (I : Nat → σ → Prop) {s0 : σ} (h0 : I 0 s0) (h : ∀ i s, i < m → I i s → ∃ s', body i s = some (.nx s') ∧ I (i + 1) s') : ∃ s', forR 0 m body s0 = some (.go s') ∧ I m s' := by
 have key : ∀ (n i : Nat) (s : σ), i + n = m → I i s → ∃ s', forFrom body n i s = some (.go s') ∧ I m s' := by
  intro n
  induction n with
  | zero => intro i s hi hI; rw [Nat.add_zero] at hi; subst hi; exact ⟨s, rfl, hI⟩
  | succ n ih =>
   intro i s hi hI
   obtain ⟨s', e, hI'⟩ := h i s (by omega) hI
   obtain ⟨q, e', hq⟩ := ih (i + 1) s' (by omega) hI'
   refine ⟨q, ?_, hq⟩
   rw [forFrom, e]; exact e'
 exact key (m - 0) 0 s0 (by omega) h0
theorem lf_cases {c : UInt8} (h : isLf c = true) : c = 48 ∨ c = 49 ∨ c = 97 ∨ c = 98 ∨ c = 99 ∨ c = 100 ∨ c = 101 ∨ c = 102 := by
 rw [isLf_spec] at h
 simp only [Bool.or_eq_true, Bool.and_eq_true, decide_eq_true_eq, beq_iff_eq] at h
 rcases h with (rfl | rfl) | ⟨h1, h2⟩
 · exact .inl rfl
 · exact .inr (.inl rfl)
 · have g1 : 97 ≤ c.toNat := UInt8.le_iff_toNat_le.1 h1
   have g2 : c.toNat ≤ 102 := UInt8.le_iff_toNat_le.1 h2
   have e : c = UInt8.ofNat c.toNat := (UInt8.ofNat_toNat).symm
   rcases (show c.toNat = 97 ∨ c.toNat = 98 ∨ c.toNat = 99 ∨ c.toNat = 100 ∨ c.toNat = 101 ∨ c.toNat = 102 by omega) with g | g | g | g | g | g <;> rw [g] at e <;> rw [e] <;> decide
theorem op_cases {o : UInt8} (h : isOp o = true) : o = 38 ∨ o = 124 ∨ o = 62 := by
 unfold isOp at h
 simp only [Bool.or_eq_true, beq_iff_eq] at h
 rcases h with (h | h) | h
 · exact .inl h
 · exact .inr (.inl h)
 · exact .inr (.inr h)
def Ft.val (n : Nat) : Ft → Bool
 | .leaf c => if c = 48 then false else if c = 49 then true else n.testBit (c.toNat - 97)
 | .neg a => !a.val n
 | .bin o a b => if o = 38 then a.val n && b.val n else if o = 124 then a.val n || b.val n else !a.val n || b.val n
theorem value_F {k : Nat} (hk : k < 1000000) : ∀ (n : Nat) (t : Ft), t.wf = true → t.dep ≤ n → impl_formula_value_F n t.fo (k : Int) = some (t.val k)
 | 0, t, _, hn => by have := t.dep_pos; omega
 | n + 1, .leaf c, hw, _ => by
  show impl_formula_value_B _ _ _ = _
  unfold impl_formula_value_B
  have hb : ∀ j : Nat, j ≤ 63 → (andK true 64 (shrK 64 (k : Int) (j : Int)) 1 == 1) = k.testBit j := fun j hj => bit_nat (by omega) hj
  rcases lf_cases (show isLf c = true from hw) with rfl | rfl | rfl | rfl | rfl | rfl | rfl | rfl
  · rfl
  · rfl
  · exact congrArg some (hb 0 (by omega))
  · exact congrArg some (hb 1 (by omega))
  · exact congrArg some (hb 2 (by omega))
  · exact congrArg some (hb 3 (by omega))
  · exact congrArg some (hb 4 (by omega))
  · exact congrArg some (hb 5 (by omega))
 | n + 1, .neg a, hw, hn => by
  simp only [Ft.dep] at hn
  show impl_formula_value_B _ _ _ = _
  unfold impl_formula_value_B
  show bd (impl_formula_value_F n a.fo (k : Int)) (fun r => some (!r)) = _
  rw [value_F hk n a hw (by omega)]; rfl
 | n + 1, .bin o a b, hw, hn => by
  simp only [Ft.dep] at hn
  simp only [Ft.wf, Bool.and_eq_true] at hw
  have ia := value_F hk n a hw.1.2 (by omega)
  have ib := value_F hk n b hw.2 (by omega)
  show impl_formula_value_B _ _ _ = _
  unfold impl_formula_value_B
  rcases op_cases hw.1.1 with rfl | rfl | rfl
  · show bd (impl_formula_value_F n a.fo (k : Int)) (fun r => bd (bif r then bd (impl_formula_value_F n b.fo (k : Int)) (fun r => some r) else some false) (fun t => some t)) = _
    rw [ia, ib, bd_some]
    show _ = some (a.val k && b.val k)
    cases a.val k <;> rfl
  · show bd (impl_formula_value_F n a.fo (k : Int)) (fun r => bd (bif r then some true else bd (impl_formula_value_F n b.fo (k : Int)) (fun r => some r)) (fun t => some t)) = _
    rw [ia, ib, bd_some]
    show _ = some (a.val k || b.val k)
    cases a.val k <;> rfl
  · show bd (impl_formula_value_F n a.fo (k : Int)) (fun r => bd (bif !r then some true else bd (impl_formula_value_F n b.fo (k : Int)) (fun r => some r)) (fun t => some t)) = _
    rw [ia, ib, bd_some]
    show _ = some (!a.val k || b.val k)
    cases a.val k <;> rfl
structure Gd (s : ByteArray) (t : Ft) : Prop where
 txt : s = txB t
 wf : t.wf = true
 le80 : t.txt.length ≤ 80
theorem Gd.of {s : ByteArray} (h : goodB s = true) : ∃ t, Gd s t := by
 obtain ⟨t, h1, h2⟩ := good_iff.1 h
 obtain ⟨e, hw⟩ := ft_of h1
 exact ⟨t, e, hw, by rw [e, tx_size] at h2; exact h2⟩
theorem Gd.parse {s : ByteArray} {t : Ft} (h : Gd s t) : impl_parse s = some (t.fo, true) := by
 rw [h.txt]; exact impl_parse_good (F?_tx h.wf) (by rw [tx_size]; exact h.le80)
theorem Gd.good {s : ByteArray} {t : Ft} (h : Gd s t) : spec_l22Good s = some true := by
 rw [spec_l22Good_eq]
 congr 1
 exact good_iff.2 ⟨t, by rw [h.txt]; exact F?_tx h.wf, by rw [h.txt, tx_size]; exact h.le80⟩
theorem Gd.dep {s : ByteArray} {t : Ft} (h : Gd s t) : t.dep ≤ deep := by have := t.dep_le; have := h.le80; rw [deep_eq]; omega
theorem Gd.value {s : ByteArray} {t : Ft} (h : Gd s t) {k : Nat} (hk : k < 64) : impl_formula_value t.fo (k : Int) = some (t.val k) := value_F (by omega) deep t h.wf h.dep
theorem Gd.fvalue {s : ByteArray} {t : Ft} (h : Gd s t) {k : Nat} (hk : k < 64) : impl_FormulaValue s (k : Int) = some (t.val k, true) := by
 unfold impl_FormulaValue impl_within
 rw [h.parse, bd_some, decide_eq_true (show (0 : Int) ≤ k by omega), decide_eq_true (show (k : Int) ≤ 63 by omega)]
 dsimp only
 rw [Bool.not_true, cond_false, cond_true, Bool.not_true, cond_false, h.value hk, bd_some]
def cntB (p : Nat → Bool) (m : Nat) : Nat := (List.range m).countP p
theorem cntB_succ (p : Nat → Bool) (m : Nat) : cntB p (m + 1) = cntB p m + (bif p m then 1 else 0) := by
 unfold cntB
 rw [List.range_succ, List.countP_append, List.countP_cons, List.countP_nil]
 cases p m <;> simp
theorem cntB_le (p : Nat → Bool) (m : Nat) : cntB p m ≤ m := by
 have := List.countP_le_length (p := p) (l := List.range m)
 rwa [List.length_range] at this
theorem cnt_loop {p : Nat → Bool} {m : Nat} (hm : m ≤ 1000000) {f : Nat → Option Bool} (hf : ∀ i, i < m → f i = some (p i)) :
 forR (S := Int) (X := Empty) 0 m (fun i s => bd (f i) (fun r => (bif r then some (Lp.nx (wr (s + 1))) else some (Lp.nx s)))) 0 = some (.go (cntB p m : Int)) := by
 obtain ⟨s', e, hI⟩ := forR_invG (m := m) (body := fun i s => bd (f i) (fun r => (bif r then some (Lp.nx (wr (s + 1))) else some (Lp.nx s)))) (X := Empty) (fun i s => s = (cntB p i : Int)) (s0 := 0) rfl (fun i s hi hs => by
  have := cntB_le p i
  rw [hs, hf i hi, bd_some, cntB_succ]
  cases p i with
  | true => exact ⟨_, rfl, by rw [wr_of _ (by omega) (by omega)]; rfl⟩
  | false => exact ⟨_, rfl, rfl⟩)
 rw [e, hI]
theorem Gd.models {s : ByteArray} {t : Ft} (h : Gd s t) : impl_CountModels s = some ((cntB (fun k => t.val k) 64 : Int), true) := by
 unfold impl_CountModels
 rw [h.parse, bd_some]
 dsimp only
 rw [Bool.not_true, cond_false, cnt_loop (p := fun k => t.val k) (by omega) (fun i hi => h.value hi), bdR_go]
theorem Gd.partsI {s : ByteArray} {t : Ft} (h : Gd s t) : impl_FormulaParts s = some (partT t, true) := by
 obtain ⟨P, p1, p2, p3⟩ := parts_eq h.wf h.le80
 have hl := partT_len t
 have hlen := h.le80
 have hP : P.length = (partT t).length := by rw [← p2, List.length_map]
 unfold impl_FormulaParts
 rw [h.parse, bd_some]
 dsimp only
 rw [Bool.not_true, cond_false, p1, bd_some]
 have hc : chk (len (P.map Ft.fo)) = some P.length := by unfold chk; rw [len_eq, List.length_map, if_pos (by omega), Int.toNat_natCast]
 rw [hc, bd_some]
 obtain ⟨s', e, hI⟩ := forR_invG (m := P.length) (X := Empty) (body := fun i41 s41 => bd (ix (P.map Ft.fo) ((i41 : Nat) : Int)) (fun x104 => bd (x104.get) (fun y108 => bd (app s41 [y108.text]) (fun xs121 => some (Lp.nx xs121)))))
  (fun i s => s = (P.map txB).take i) (s0 := []) (by simp) (fun i s hi hs => by
   subst hs
   have h1 : P[i]? = some P[i] := List.getElem?_eq_getElem hi
   obtain ⟨n, n1, _, n2⟩ := (P[i]).get_eq
   rw [ix_nat (x := (P[i]).fo) (by rw [List.getElem?_map, h1]; rfl), bd_some, n1, bd_some, n2, app_ok (by simp [lim]; omega), bd_some]
   refine ⟨_, rfl, ?_⟩
   rw [List.take_add_one, List.getElem?_map, h1]; rfl)
 rw [e, bdR_go, hI, List.take_of_length_le (by rw [List.length_map]; omega), p2]
theorem Gd.partsS {s : ByteArray} {t : Ft} (h : Gd s t) : spec_FormulaParts s = some (partT t, true) := by
 unfold spec_FormulaParts
 rw [h.good, bd_some, Bool.not_true, cond_false, h.txt, spec_all_eq h.wf h.le80, bd_some]
theorem partT_mem {t : Ft} {x : ByteArray} : x ∈ partT t ↔ ∃ y ∈ t.subs, txB y = x := by unfold partT; rw [mem_setO STO_F, List.mem_map]
theorem partT_last {t : Ft} (hw : t.wf = true) : ∃ l, partT t = l ++ [txB t] := by
 have hm : txB t ∈ partT t := partT_mem.2 ⟨t, t.subs_self, rfl⟩
 have hs : SS ltF (partT t) := SS_setO STO_F
 obtain ⟨a, b, e⟩ := List.append_of_mem hm
 cases b with
 | nil => exact ⟨a, e⟩
 | cons y b =>
  exfalso
  have hy : y ∈ partT t := by rw [e]; simp
  obtain ⟨z, hz, rfl⟩ := partT_mem.1 hy
  have hlt : ltF (txB t) (txB z) = true := by
   rw [e] at hs
   have := (List.pairwise_append.1 hs).2.1
   exact (List.pairwise_cons.1 this).1 _ (by simp)
  have hb := Ft.subs_txt hz
  rw [ltF_eq, tx_size, tx_size, Bool.or_eq_true, Bool.and_eq_true, decide_eq_true_iff, decide_eq_true_iff] at hlt
  rcases hlt with h | ⟨h, h'⟩
  · omega
  · have := hb.2 h.symm
    subst this
    rw [bs_tx, ltB_irr] at h'; cases h'
def Ft.hgt : Ft → Nat
 | .leaf _ => 0
 | .neg a => a.hgt + 1
 | .bin _ a b => max a.hgt b.hgt + 1
theorem Ft.hgt_lt : ∀ t : Ft, t.hgt < t.txt.length
 | .leaf c => by simp [Ft.hgt, Ft.txt]
 | .neg a => by have := a.hgt_lt; simp only [Ft.hgt, Ft.txt, List.length_cons]; omega
 | .bin o a b => by have := a.hgt_lt; have := b.hgt_lt; simp only [Ft.hgt, Ft.txt, List.length_cons, List.length_append, List.length_nil]; omega
theorem depth_F : ∀ (n : Nat) (t : Ft), t.dep ≤ n → t.txt.length ≤ 1000000 → impl_formula_depth_F n t.fo = some (t.hgt : Int)
 | 0, t, hn, _ => by have := t.dep_pos; omega
 | n + 1, .leaf c, _, _ => rfl
 | n + 1, .neg a, hn, hl => by
  simp only [Ft.dep] at hn
  simp only [Ft.txt, List.length_cons] at hl
  have := a.hgt_lt
  show impl_formula_depth_B _ _ = _
  unfold impl_formula_depth_B
  show (bif a.fo.isNil then _ else bif Fo.nil.isNil then bd (impl_formula_depth_F n a.fo) (fun r31 => some (wr (1 + r31))) else _) = _
  have ha' : a.fo.isNil = false := by cases a <;> rfl
  rw [ha', cond_false, show Fo.nil.isNil = true from rfl, cond_true, depth_F n a (by omega) (by omega), bd_some, wr_of _ (by omega) (by omega)]
  simp only [Ft.hgt]; congr 1; omega
 | n + 1, .bin o a b, hn, hl => by
  simp only [Ft.dep] at hn
  simp only [Ft.txt, List.length_cons, List.length_append, List.length_nil] at hl
  have := a.hgt_lt; have := b.hgt_lt
  show impl_formula_depth_B _ _ = _
  unfold impl_formula_depth_B
  show (bif a.fo.isNil then _ else bif b.fo.isNil then _ else bd (impl_formula_depth_F n a.fo) (fun r => bd (impl_formula_depth_F n b.fo) (fun q => some (wr (1 + mx r q))))) = _
  have ha' : a.fo.isNil = false := by cases a <;> rfl
  have hb' : b.fo.isNil = false := by cases b <;> rfl
  rw [ha', cond_false, hb', cond_false, depth_F n a (by omega) (by omega), bd_some, depth_F n b (by omega) (by omega), bd_some]
  unfold mx
  split <;> rw [wr_of _ (by omega) (by omega)] <;> simp only [Ft.hgt] <;> congr 1 <;> omega
theorem Gd.depthI {s : ByteArray} {t : Ft} (h : Gd s t) : impl_FormulaDepth s = some ((t.hgt : Int), true) := by
 unfold impl_FormulaDepth
 rw [h.parse, bd_some]
 dsimp only
 rw [Bool.not_true, cond_false]
 unfold impl_formula_depth
 rw [depth_F deep t h.dep (by have := h.le80; omega), bd_some]
theorem rTexts_self (a : List ByteArray) : laws_rTexts a a = some true := by
 unfold laws_rTexts
 rw [beq_self_eq_true, Bool.not_true, cond_false]
 have key : ∀ (l : List ByteArray) (k : Nat), a.drop k = l → forLFrom (S := Unit) (X := Bool) (fun i23 y22 s23 => bd (ix a ((i23 : Nat) : Int)) (fun x72 => (bif (!(y22.toList == x72.toList)) then some (Lp.rt false) else some (Lp.nx ())))) l k () = some (.go ()) := by
  intro l
  induction l with
  | nil => intro k _; rfl
  | cons y l ih =>
   intro k hk
   have h1 : a[k]? = some y := by have := congrArg (·[0]?) hk; simpa [List.getElem?_drop] using this
   rw [forLFrom_nx (s' := ()) (by rw [ix_nat h1, bd_some, beq_self_eq_true]; rfl)]
   exact ih (k + 1) (by rw [← List.tail_drop, hk]; rfl)
 unfold forL
 rw [key a 0 rfl, bdR_go]
end Go.PF
namespace Go.PF
open Go.Pu
def lookM (M : List (Ft × Nat)) (y : Ft) : Option Nat := (M.find? fun p => decide (p.1 = y)).map (·.2)
def lookI (M : List (Ft × Nat)) (y : Ft) : Int := (((lookM M y).getD 0 : Nat) : Int)
def gatesOf (M : List (Ft × Nat)) (n : Nat) : Ft → List Gate
 | .leaf c => if c = 48 then [⟨3, 0, 0⟩] else if c = 49 then [⟨2, 0, 0⟩] else [⟨1, ((c.toNat - 96 : Nat) : Int), 0⟩]
 | .neg a => [⟨4, lookI M a, 0⟩]
 | .bin o a b => if o = 38 then [⟨5, lookI M a, lookI M b⟩] else if o = 124 then [⟨6, lookI M a, lookI M b⟩] else [⟨4, lookI M a, 0⟩, ⟨6, (n : Int), lookI M b⟩]
def gstep (s : List (Ft × Nat) × List Gate) (x : Ft) : List (Ft × Nat) × List Gate :=
 (s.1 ++ [(x, (s.2 ++ gatesOf s.1 s.2.length x).length - 1)], s.2 ++ gatesOf s.1 s.2.length x)
def circ (P : List Ft) : List (Ft × Nat) × List Gate := P.foldl gstep ([], [])
theorem circ_snoc (P : List Ft) (x : Ft) : circ (P ++ [x]) = gstep (circ P) x := by unfold circ; rw [List.foldl_append]; rfl
theorem circ_fst (P : List Ft) : (circ P).1.map (·.1) = P := by
 have key : ∀ (P : List Ft) (s : List (Ft × Nat) × List Gate), (P.foldl gstep s).1.map (·.1) = s.1.map (·.1) ++ P := by
  intro P
  induction P with
  | nil => intro s; simp
  | cons x P ih => intro s; rw [List.foldl_cons, ih]; simp [gstep]
 have := key P ([], [])
 simpa [circ] using this
theorem gatesOf_len (M : List (Ft × Nat)) (n : Nat) (x : Ft) : 1 ≤ (gatesOf M n x).length ∧ (gatesOf M n x).length ≤ 2 := by
 cases x with
 | leaf c =>
  simp only [gatesOf]
  by_cases h : c = 48
  · rw [if_pos h]; simp
  rw [if_neg h]
  by_cases h : c = 49
  · rw [if_pos h]; simp
  · rw [if_neg h]; simp
 | neg a => simp [gatesOf]
 | bin o a b =>
  simp only [gatesOf]
  by_cases h : o = 38
  · rw [if_pos h]; simp
  rw [if_neg h]
  by_cases h : o = 124
  · rw [if_pos h]; simp
  · rw [if_neg h]; simp
theorem circ_len (P : List Ft) : P.length ≤ (circ P).2.length ∧ (circ P).2.length ≤ 2 * P.length := by
 have key : ∀ (P : List Ft) (s : List (Ft × Nat) × List Gate), s.2.length + P.length ≤ (P.foldl gstep s).2.length ∧ (P.foldl gstep s).2.length ≤ s.2.length + 2 * P.length := by
  intro P
  induction P with
  | nil => intro s; simp
  | cons x P ih =>
   intro s
   have := ih (gstep s x)
   have g := gatesOf_len s.1 s.2.length x
   have e : (gstep s x).2.length = s.2.length + (gatesOf s.1 s.2.length x).length := by simp [gstep]
   rw [List.foldl_cons, List.length_cons]
   omega
 have := key P ([], [])
 simpa [circ] using this
def gval (k : Nat) (vs : List Bool) (g : Gate) : Bool :=
 if g.kind = 1 then k.testBit (g.a - 1).toNat
 else if g.kind = 2 then true
 else if g.kind = 4 then !(vs[g.a.toNat]?.getD false)
 else if g.kind = 5 then vs[g.a.toNat]?.getD false && vs[g.b.toNat]?.getD false
 else if g.kind = 6 then vs[g.a.toNat]?.getD false || vs[g.b.toNat]?.getD false
 else false
def evalG (k : Nat) (G : List Gate) : List Bool := G.foldl (fun vs g => vs ++ [gval k vs g]) []
theorem evalG_snoc (k : Nat) (G : List Gate) (g : Gate) : evalG k (G ++ [g]) = evalG k G ++ [gval k (evalG k G) g] := by unfold evalG; rw [List.foldl_append]; rfl
theorem evalG_len (k : Nat) (G : List Gate) : (evalG k G).length = G.length := by
 have key : ∀ (G : List Gate) (vs : List Bool), (G.foldl (fun vs g => vs ++ [gval k vs g]) vs).length = vs.length + G.length := by
  intro G
  induction G with
  | nil => intro vs; rfl
  | cons g G ih => intro vs; rw [List.foldl_cons, ih]; simp; omega
 have := key G []
 simpa [evalG] using this
def gok (i : Nat) (g : Gate) : Prop :=
 (g.kind = 1 ∧ 1 ≤ g.a ∧ g.a ≤ 6 ∧ g.b = 0) ∨ ((g.kind = 2 ∨ g.kind = 3) ∧ g.a = 0 ∧ g.b = 0) ∨ (g.kind = 4 ∧ 0 ≤ g.a ∧ g.a < i ∧ g.b = 0) ∨ ((g.kind = 5 ∨ g.kind = 6) ∧ 0 ≤ g.a ∧ g.a < i ∧ 0 ≤ g.b ∧ g.b < i)
def allOk (G : List Gate) : Prop := ∀ i g, G[i]? = some g → gok i g
theorem allOk.snoc {G : List Gate} {g : Gate} (h : allOk G) (hg : gok G.length g) : allOk (G ++ [g]) := by
 intro i x hx
 rcases Nat.lt_trichotomy i G.length with c | c | c
 · rw [List.getElem?_append_left c] at hx; exact h i x hx
 · subst c
   rw [List.getElem?_append_right (Nat.le_refl _), Nat.sub_self] at hx
   cases hx; exact hg
 · rw [List.getElem?_eq_none (by simp; omega)] at hx; cases hx
theorem lookM_mem {M : List (Ft × Nat)} {y : Ft} (h : y ∈ M.map (·.1)) : ∃ j, lookM M y = some j ∧ (y, j) ∈ M := by
 obtain ⟨p, hp, rfl⟩ := List.mem_map.1 h
 unfold lookM
 cases hf : M.find? fun q => decide (q.1 = p.1) with
 | none => have := List.find?_eq_none.1 hf p hp; simp at this
 | some q =>
  have h1 := List.find?_some hf
  have h2 := List.mem_of_find?_eq_some hf
  simp only [decide_eq_true_eq] at h1
  exact ⟨q.2, rfl, by rw [← h1]; exact h2⟩
structure CI (M : List (Ft × Nat)) (G : List Gate) : Prop where
 ok : allOk G
 lt : ∀ p ∈ M, p.2 < G.length
 val : ∀ k, ∀ p ∈ M, (evalG k G)[p.2]? = some (p.1.val k)
def Ft.kids : Ft → List Ft
 | .leaf _ => []
 | .neg a => [a]
 | .bin _ a b => [a, b]
theorem CI.step {M : List (Ft × Nat)} {G : List Gate} (h : CI M G) {x : Ft} (hw : x.wf = true) (hk : ∀ y ∈ x.kids, y ∈ M.map (·.1)) : CI (gstep (M, G) x).1 (gstep (M, G) x).2 := by
 have look : ∀ y ∈ x.kids, ∃ j : Nat, lookI M y = (j : Int) ∧ j < G.length ∧ ∀ k, (evalG k G)[j]? = some (y.val k) := fun y hy => by
  obtain ⟨j, h1, h2⟩ := lookM_mem (hk y hy)
  exact ⟨j, by unfold lookI; rw [h1]; rfl, h.lt _ h2, fun k => h.val k _ h2⟩
 -- from the gates' facts to all
 have one : ∀ g : Gate, gatesOf M G.length x = [g] → gok G.length g → (∀ k, gval k (evalG k G) g = x.val k) → CI (gstep (M, G) x).1 (gstep (M, G) x).2 := fun g e g1 g2 => by
  have e2 : (gstep (M, G) x).2 = G ++ [g] := by simp [gstep, e]
  have e1 : (gstep (M, G) x).1 = M ++ [(x, G.length)] := by simp [gstep, e]
  rw [e1, e2]
  refine ⟨h.ok.snoc g1, fun p hp => ?_, fun k p hp => ?_⟩
  · rcases List.mem_append.1 hp with hp | hp
    · have := h.lt p hp; simp; omega
    · rw [List.mem_singleton] at hp; subst hp; simp
  · rw [evalG_snoc]
    rcases List.mem_append.1 hp with hp | hp
    · rw [List.getElem?_append_left (by rw [evalG_len]; exact h.lt p hp)]; exact h.val k p hp
    · rw [List.mem_singleton] at hp; subst hp
      rw [List.getElem?_append_right (by rw [evalG_len]; exact Nat.le_refl _), evalG_len, Nat.sub_self, g2]; rfl
 cases x with
 | leaf c =>
  rcases lf_cases (show isLf c = true from hw) with rfl | rfl | rfl | rfl | rfl | rfl | rfl | rfl
  · exact one ⟨3, 0, 0⟩ rfl (.inr (.inl ⟨.inr rfl, rfl, rfl⟩)) fun k => rfl
  · exact one ⟨2, 0, 0⟩ rfl (.inr (.inl ⟨.inl rfl, rfl, rfl⟩)) fun k => rfl
  · exact one ⟨1, 1, 0⟩ rfl (.inl ⟨rfl, by decide, by decide, rfl⟩) fun k => rfl
  · exact one ⟨1, 2, 0⟩ rfl (.inl ⟨rfl, by decide, by decide, rfl⟩) fun k => rfl
  · exact one ⟨1, 3, 0⟩ rfl (.inl ⟨rfl, by decide, by decide, rfl⟩) fun k => rfl
  · exact one ⟨1, 4, 0⟩ rfl (.inl ⟨rfl, by decide, by decide, rfl⟩) fun k => rfl
  · exact one ⟨1, 5, 0⟩ rfl (.inl ⟨rfl, by decide, by decide, rfl⟩) fun k => rfl
  · exact one ⟨1, 6, 0⟩ rfl (.inl ⟨rfl, by decide, by decide, rfl⟩) fun k => rfl
 | neg a =>
  obtain ⟨j, j1, j2, j3⟩ := look a (by simp [Ft.kids])
  refine one ⟨4, lookI M a, 0⟩ rfl (.inr (.inr (.inl ⟨rfl, by dsimp only; omega, by dsimp only; omega, rfl⟩))) fun k => ?_
  show (!((evalG k G)[(lookI M a).toNat]?.getD false)) = !a.val k
  rw [j1, Int.toNat_natCast, j3 k]; rfl
 | bin o a b =>
  obtain ⟨i, i1, i2, i3⟩ := look a (by simp [Ft.kids])
  obtain ⟨j, j1, j2, j3⟩ := look b (by simp [Ft.kids])
  simp only [Ft.wf, Bool.and_eq_true] at hw
  rcases op_cases hw.1.1 with rfl | rfl | rfl
  · refine one ⟨5, lookI M a, lookI M b⟩ rfl (.inr (.inr (.inr ⟨.inl rfl, by dsimp only; omega, by dsimp only; omega, by dsimp only; omega, by dsimp only; omega⟩))) fun k => ?_
    show ((evalG k G)[(lookI M a).toNat]?.getD false && (evalG k G)[(lookI M b).toNat]?.getD false) = (a.val k && b.val k)
    rw [i1, j1, Int.toNat_natCast, Int.toNat_natCast, i3 k, j3 k]; rfl
  · refine one ⟨6, lookI M a, lookI M b⟩ rfl (.inr (.inr (.inr ⟨.inr rfl, by dsimp only; omega, by dsimp only; omega, by dsimp only; omega, by dsimp only; omega⟩))) fun k => ?_
    show ((evalG k G)[(lookI M a).toNat]?.getD false || (evalG k G)[(lookI M b).toNat]?.getD false) = (a.val k || b.val k)
    rw [i1, j1, Int.toNat_natCast, Int.toNat_natCast, i3 k, j3 k]; rfl
  · have e2 : (gstep (M, G) (Ft.bin 62 a b)).2 = (G ++ [⟨4, lookI M a, 0⟩]) ++ [⟨6, (G.length : Int), lookI M b⟩] := by simp [gstep, gatesOf]
    have e1 : (gstep (M, G) (Ft.bin 62 a b)).1 = M ++ [(Ft.bin 62 a b, G.length + 1)] := by simp [gstep, gatesOf]
    rw [e1, e2]
    have v1 : ∀ k, gval k (evalG k G) ⟨4, lookI M a, 0⟩ = !a.val k := fun k => by
     show (!((evalG k G)[(lookI M a).toNat]?.getD false)) = !a.val k
     rw [i1, Int.toNat_natCast, i3 k]; rfl
    refine ⟨(h.ok.snoc (.inr (.inr (.inl ⟨rfl, by dsimp only; omega, by dsimp only; omega, rfl⟩)))).snoc (.inr (.inr (.inr ⟨.inr rfl, by dsimp only; omega, by dsimp only; simp; omega, by dsimp only; omega, by dsimp only; simp; omega⟩))), fun p hp => ?_, fun k p hp => ?_⟩
    · rcases List.mem_append.1 hp with hp | hp
      · have := h.lt p hp; simp; omega
      · rw [List.mem_singleton] at hp; subst hp; simp
    · rw [evalG_snoc, evalG_snoc, v1]
      rcases List.mem_append.1 hp with hp | hp
      · have hlt := h.lt p hp
        rw [List.getElem?_append_left (by rw [List.length_append, evalG_len]; omega), List.getElem?_append_left (by rw [evalG_len]; exact hlt)]; exact h.val k p hp
      · rw [List.mem_singleton] at hp; subst hp
        rw [List.getElem?_append_right (by rw [List.length_append, evalG_len]; simp), List.length_append, evalG_len]
        simp only [List.length_singleton, Nat.sub_self, List.getElem?_cons_zero]
        congr 1
        show ((evalG k G ++ [!a.val k])[((G.length : Int)).toNat]?.getD false || (evalG k G ++ [!a.val k])[(lookI M b).toNat]?.getD false) = _
        rw [Int.toNat_natCast, List.getElem?_append_right (by rw [evalG_len]; exact Nat.le_refl _), evalG_len, Nat.sub_self, j1, Int.toNat_natCast, List.getElem?_append_left (by rw [evalG_len]; exact j2), j3 k]
        rfl
def Ladder (P : List Ft) : Prop := ∀ Q x R, P = Q ++ x :: R → ∀ y ∈ x.kids, y ∈ Q
theorem circ_CI {P : List Ft} (hP : Ladder P) (hw : ∀ x ∈ P, x.wf = true) : ∀ (n : Nat), n ≤ P.length → CI (circ (P.take n)).1 (circ (P.take n)).2 := by
 intro n
 induction n with
 | zero => intro _; exact ⟨fun i g h => by simp [circ] at h, fun p hp => by simp [circ] at hp, fun k p hp => by simp [circ] at hp⟩
 | succ n ih =>
  intro hn
  have hx : P[n]? = some P[n] := List.getElem?_eq_getElem (by omega)
  have e : P.take (n + 1) = P.take n ++ [P[n]] := by rw [List.take_add_one, hx]; rfl
  have e' : P = P.take n ++ P[n] :: P.drop (n + 1) := by rw [← List.drop_eq_getElem_cons, List.take_append_drop]
  rw [e, circ_snoc]
  exact (ih (by omega)).step (hw _ (List.getElem_mem _)) fun y hy => by rw [circ_fst]; exact hP _ _ _ e' y hy
end Go.PF
namespace Go.PF
open Go.Pu
theorem beqB (a b : ByteArray) : (a == b) = decide (a = b) := by
 cases a with | mk a => cases b with | mk b =>
 show (a == b) = _
 by_cases h : a = b
 · subst h; simp
 · rw [decide_eq_false (by simpa using h)]; simpa using h
theorem mget_putB : ∀ (m : List (ByteArray × Int)) (k : ByteArray) (v : Int) (j : ByteArray), mget (mput m k v) j = if j = k then some v else mget m j := by
 intro m k v j
 induction m with
 | nil =>
  show (bif j == k then some v else none) = _
  rw [beqB]
  by_cases h : j = k
  · rw [decide_eq_true h, if_pos h]; rfl
  · rw [decide_eq_false h, if_neg h]; rfl
 | cons p m ih =>
  show mget (bif k == p.1 then (k, v) :: m else p :: mput m k v) j = if j = k then some v else (bif j == p.1 then some p.2 else mget m j)
  rw [beqB, beqB]
  by_cases h : k = p.1
  · rw [decide_eq_true h, cond_true]
    show (bif j == k then some v else mget m j) = _
    rw [beqB]
    by_cases h2 : j = k
    · rw [decide_eq_true h2, if_pos h2]; rfl
    · rw [decide_eq_false h2, if_neg h2, decide_eq_false (fun e => h2 (e.trans h.symm))]; rfl
  · rw [decide_eq_false h, cond_false]
    show (bif j == p.1 then some p.2 else mget (mput m k v) j) = _
    rw [beqB, ih]
    by_cases h2 : j = k
    · rw [if_pos h2, if_pos h2, decide_eq_false (fun e => h (h2.symm.trans e))]; rfl
    · rw [if_neg h2, if_neg h2]
theorem forR_use {σ X B : Type} {m : Nat} {body : Nat → σ → Option (Lp σ X)} {s0 : σ} {k : σ → Option B} {lx : X → Option B} {R : Option B → Prop} (I : Nat → σ → Prop) (h0 : I 0 s0) (h : ∀ i s, i < m → I i s → ∃ s', body i s = some (.nx s') ∧ I (i + 1) s') (hk : ∀ s', I m s' → R (k s')) : R (bdR (forR 0 m body s0) k lx) := by
 obtain ⟨s', e, hI⟩ := forR_invG I h0 h
 rw [e, bdR_go]; exact hk s' hI
theorem lookM_snoc (M : List (Ft × Nat)) (x : Ft) (j : Nat) (y : Ft) : lookM (M ++ [(x, j)]) y = (lookM M y).or (if x = y then some j else none) := by
 unfold lookM
 rw [List.find?_append]
 cases M.find? fun p => decide (p.1 = y) with
 | some p => rfl
 | none =>
  by_cases h : x = y
  · simp [h]
  · simp [h]
theorem lookM_none {M : List (Ft × Nat)} {y : Ft} (h : y ∉ M.map (·.1)) : lookM M y = none := by
 unfold lookM
 rw [List.find?_eq_none.2 fun p hp => ?_]
 · rfl
 · simp only [decide_eq_true_eq]
   intro e; exact h (List.mem_map.2 ⟨p, hp, e⟩)
structure Parts (P : List Ft) : Prop where
 wf : ∀ x ∈ P, x.wf = true
 lad : Ladder P
 nd : P.Nodup
 len : P.length ≤ 80
theorem parts_of {t : Ft} {P : List Ft} (hw : t.wf = true) (hz : t.txt.length ≤ 80) (h1 : P.map txB = partT t) (h2 : ∀ x, x ∈ P ↔ x ∈ t.subs) : Parts P := by
 have hs : SS ltF (P.map txB) := by rw [h1]; exact SS_setO STO_F
 refine ⟨fun x hx => Ft.subs_wf hw x ((h2 x).1 hx), fun Q x R e y hy => ?_, ?_, ?_⟩
 · have hx : x ∈ t.subs := (h2 x).1 (by rw [e]; simp)
   have kid : ∀ {z : Ft}, ∀ x ∈ z.subs, ∀ y ∈ x.kids, y ∈ z.subs ∧ y.txt.length < x.txt.length := by
    intro z
    induction z with
    | leaf c => intro x hx y hy; simp only [Ft.subs, List.mem_singleton] at hx; subst hx; simp [Ft.kids] at hy
    | neg a ih =>
     intro x hx y hy
     simp only [Ft.subs, List.mem_cons] at hx ⊢
     rcases hx with rfl | hx
     · simp only [Ft.kids, List.mem_singleton] at hy; subst hy
       exact ⟨.inr y.subs_self, by simp [Ft.txt]⟩
     · have := ih x hx y hy; exact ⟨.inr this.1, this.2⟩
    | bin o a b iha ihb =>
     intro x hx y hy
     simp only [Ft.subs, List.mem_cons, List.mem_append] at hx ⊢
     rcases hx with rfl | hx | hx
     · simp only [Ft.kids, List.mem_cons, List.not_mem_nil, or_false] at hy
       rcases hy with rfl | rfl
       · exact ⟨.inr (.inl y.subs_self), by simp [Ft.txt]; omega⟩
       · exact ⟨.inr (.inr y.subs_self), by simp [Ft.txt]; omega⟩
     · have := iha x hx y hy; exact ⟨.inr (.inl this.1), this.2⟩
     · have := ihb x hx y hy; exact ⟨.inr (.inr this.1), this.2⟩
   obtain ⟨k1, k2⟩ := kid x hx y hy
   have hy' : y ∈ P := (h2 y).2 k1
   rw [e, List.mem_append, List.mem_cons] at hy'
   rcases hy' with h | h | h
   · exact h
   · subst h; omega
   · exfalso
     rw [e, List.map_append, List.map_cons] at hs
     have := (List.pairwise_cons.1 (List.pairwise_append.1 hs).2.1).1 (txB y) (List.mem_map.2 ⟨y, h, rfl⟩)
     rw [ltF_eq, tx_size, tx_size, Bool.or_eq_true, Bool.and_eq_true, decide_eq_true_iff, decide_eq_true_iff] at this
     omega
 · have := hs.nodup STO_F
   exact (List.pairwise_map.1 this).imp fun {a b} h e => h (by rw [e])
 · have := partT_len t
   rw [← h1, List.length_map] at this; omega
theorem Gd.parts {s : ByteArray} {t : Ft} (h : Gd s t) : ∃ P : List Ft, impl_formula_parts t.fo = some (P.map Ft.fo) ∧ P.map txB = partT t ∧ Parts P ∧ ∃ Q, P = Q ++ [t] := by
 obtain ⟨P, p1, p2, p3⟩ := parts_eq h.wf h.le80
 refine ⟨P, p1, p2, parts_of h.wf h.le80 p2 p3, ?_⟩
 obtain ⟨l, hl⟩ := partT_last h.wf
 rcases List.eq_nil_or_concat P with rfl | ⟨Q, x, rfl⟩
 · rw [← p2] at hl; simp at hl
 · rw [← p2, List.concat_eq_append, List.map_append] at hl
   have := (List.append_inj' hl rfl).2
   simp only [List.map_cons, List.map_nil, List.cons.injEq, and_true] at this
   have hx : x ∈ t.subs := (p3 x).1 (by simp)
   exact ⟨Q, by rw [List.concat_eq_append, txB_inj (Ft.subs_wf h.wf x hx) h.wf this]⟩
theorem lt_at {c : UInt8} (h : isLf c = true) (h8 : c ≠ 48) (h9 : c ≠ 49) : wr (wrk true 64 (wrk false 8 ((c.toNat : Int) - 97)) + 1) = ((c.toNat - 96 : Nat) : Int) := by
 rcases lf_cases h with rfl | rfl | rfl | rfl | rfl | rfl | rfl | rfl
 · exact absurd rfl h8
 · exact absurd rfl h9
 all_goals decide
def Tab (m : List (ByteArray × Int)) (M : List (Ft × Nat)) : Prop := ∀ y : Ft, y.wf = true → mget m (txB y) = (lookM M y).map fun j => (j : Int)
theorem Tab.get {m : List (ByteArray × Int)} {M : List (Ft × Nat)} (h : Tab m M) {y : Ft} (hy : y.wf = true) : (mget m (txB y)).getD 0 = lookI M y := by
 rw [h y hy]; unfold lookI
 cases lookM M y <;> rfl
theorem Tab.put {m : List (ByteArray × Int)} {M : List (Ft × Nat)} (h : Tab m M) {x : Ft} (hx : x.wf = true) (hn : x ∉ M.map (·.1)) (j : Nat) : Tab (mput m (txB x) (j : Int)) (M ++ [(x, j)]) := fun y hy => by
 rw [mget_putB, lookM_snoc]
 by_cases e : y = x
 · subst e
   rw [if_pos rfl, lookM_none hn, if_pos rfl]; rfl
 · rw [if_neg fun e' => e (txB_inj hy hx e'), h y hy, if_neg (Ne.symm e)]
   cases lookM M y <;> rfl
theorem Gd.circuitI {s : ByteArray} {t : Ft} (h : Gd s t) {P : List Ft} (p1 : impl_formula_parts t.fo = some (P.map Ft.fo)) (hP : Parts P) : impl_CircuitOfFormula s = some ((circ P).2, true) := by
 have h80 := hP.len
 unfold impl_CircuitOfFormula
 rw [h.parse, bd_some]
 dsimp only
 rw [Bool.not_true, cond_false, p1, bd_some]
 have hc : chk (Go.Pu.len (P.map Ft.fo)) = some P.length := by unfold chk; rw [len_eq, List.length_map, if_pos (by omega), Int.toNat_natCast]
 rw [hc, bd_some]
 refine forR_use (R := fun o => o = some ((circ P).2, true)) (fun i (s : List (ByteArray × Int) × List Gate) => s.2 = (circ (P.take i)).2 ∧ Tab s.1 (circ (P.take i)).1) ⟨rfl, fun y _ => rfl⟩ (fun i s hi hs => ?_) (fun s' hI => ?_)
 · obtain ⟨m, G⟩ := s
   obtain ⟨hG, hm⟩ := hs
   dsimp only at hG hm
   have h1 : P[i]? = some P[i] := List.getElem?_eq_getElem hi
   have hw := hP.wf _ (List.getElem_mem hi)
   have hcirc : circ (P.take (i + 1)) = gstep (circ (P.take i)) P[i] := by rw [List.take_add_one, h1]; exact circ_snoc _ _
   have hnew : P[i] ∉ (circ (P.take i)).1.map (·.1) := by
    rw [circ_fst]
    have hd : P = P.take i ++ P[i] :: P.drop (i + 1) := by rw [← List.drop_eq_getElem_cons, List.take_append_drop]
    have nd := hP.nd
    rw [hd] at nd
    intro hmem
    exact (List.nodup_append.1 nd).2.2 (P[i]) hmem (P[i]) List.mem_cons_self rfl
   have hlen := circ_len (P.take i)
   rw [List.length_take] at hlen
   generalize hM : (circ (P.take i)).1 = M at *
   have hcM : circ (P.take i) = (M, G) := by rw [hG, ← hM]
   rw [hcM] at hcirc
   rw [← hG] at hlen
   generalize P[i] = x at *
   rw [hcirc]
   rw [ix_nat (x := x.fo) (by rw [List.getElem?_map, h1]; rfl), bd_some]
   have fin : ∀ (G1 : List Gate) (g : Gate), G1 ++ [g] = (gstep (M, G) x).2 → G1.length ≤ 1000 →
    ∃ s', bd (app G1 [g]) (fun xs => bd (x.fo.get) (fun y => (some (Lp.nx (mput m y.text (wr (Go.Pu.len xs - 1)), xs)) : Option (Lp (List (ByteArray × Int) × List Gate) Empty)))) = some (.nx s') ∧ s'.2 = (gstep (M, G) x).2 ∧ Tab s'.1 (gstep (M, G) x).1 := fun G1 g e hl => by
    obtain ⟨n, n1, _, n2⟩ := x.get_eq
    rw [app_ok (by simp [lim]; omega), bd_some, n1, bd_some, n2, e]
    refine ⟨_, rfl, rfl, ?_⟩
    have hj : wr (Go.Pu.len (gstep (M, G) x).2 - 1) = (((gstep (M, G) x).2.length - 1 : Nat) : Int) := by
     rw [len_eq, ← e, List.length_append, List.length_singleton, wr_of _ (by omega) (by omega)]; omega
    dsimp only
    rw [hj]
    exact hm.put hw hnew _
   cases x with
   | leaf c =>
    have hc : isLf c = true := hw
    by_cases c8 : c = 48
    · subst c8; exact fin G ⟨3, 0, 0⟩ rfl (by omega)
    by_cases c9 : c = 49
    · subst c9; exact fin G ⟨2, 0, 0⟩ rfl (by omega)
    have hl := leaf_ne hc
    rw [show (Ft.leaf c).fo.get = some ⟨(c.toNat : Int), Fo.nil, Fo.nil, tx [c]⟩ from rfl, bd_some]
    dsimp only
    rw [c48, c49, c126, c38, c124, c62, beq_eq_false_iff_ne.2 c8, beq_eq_false_iff_ne.2 c9, beq_eq_false_iff_ne.2 hl.1, beq_eq_false_iff_ne.2 hl.2.1, beq_eq_false_iff_ne.2 hl.2.2.1, beq_eq_false_iff_ne.2 hl.2.2.2,
     cond_false, cond_false, cond_false, cond_false, cond_false, cond_false, bdR_go, lt_at hc c8 c9]
    exact fin G ⟨1, ((c.toNat - 96 : Nat) : Int), 0⟩ (by simp [gstep, gatesOf, c8, c9]) (by omega)
   | neg a =>
    obtain ⟨n, n1, _, n2⟩ := a.get_eq
    have hg : (mget m n.text).getD 0 = lookI M a := by rw [n2]; exact hm.get (show a.wf = true from hw)
    have := fin G ⟨4, lookI M a, 0⟩ rfl (by omega)
    rw [← hg] at this
    show ∃ s', bdR (bd a.fo.get fun y => some (Rs.go (G, 4, (mget m y.text).getD 0, 0, (Ft.neg a).fo))) _ _ = _ ∧ _
    rw [n1, bd_some, bdR_go]
    exact this
   | bin o a b =>
    simp only [Ft.wf, Bool.and_eq_true] at hw
    obtain ⟨n, n1, _, n2⟩ := a.get_eq
    obtain ⟨q, q1, _, q2⟩ := b.get_eq
    have ga : (mget m n.text).getD 0 = lookI M a := by rw [n2]; exact hm.get hw.1.2
    have gb : (mget m q.text).getD 0 = lookI M b := by rw [q2]; exact hm.get hw.2
    rcases op_cases hw.1.1 with rfl | rfl | rfl
    · have := fin G ⟨5, lookI M a, lookI M b⟩ rfl (by omega)
      rw [← ga, ← gb] at this
      show ∃ s', bdR (bd a.fo.get fun y => bd b.fo.get fun z => some (Rs.go (G, 5, (mget m y.text).getD 0, (mget m z.text).getD 0, (Ft.bin 38 a b).fo))) _ _ = _ ∧ _
      rw [n1, bd_some, q1, bd_some, bdR_go]
      exact this
    · have := fin G ⟨6, lookI M a, lookI M b⟩ rfl (by omega)
      rw [← ga, ← gb] at this
      show ∃ s', bdR (bd a.fo.get fun y => bd b.fo.get fun z => some (Rs.go (G, 6, (mget m y.text).getD 0, (mget m z.text).getD 0, (Ft.bin 124 a b).fo))) _ _ = _ ∧ _
      rw [n1, bd_some, q1, bd_some, bdR_go]
      exact this
    · have := fin (G ++ [⟨4, lookI M a, 0⟩]) ⟨6, (G.length : Int), lookI M b⟩ (by simp [gstep, gatesOf]) (by simp; omega)
      show ∃ s', bdR (bd a.fo.get fun y => bd (app G [Gate.mk 4 ((mget m y.text).getD 0) 0]) fun xs => bd b.fo.get fun z => some (Rs.go (xs, 6, wr (Go.Pu.len xs - 1), (mget m z.text).getD 0, (Ft.bin 62 a b).fo))) _ _ = _ ∧ _
      have hj : wr (Go.Pu.len (G ++ [Gate.mk 4 (lookI M a) 0]) - 1) = (G.length : Int) := by
       rw [len_eq, List.length_append, List.length_singleton, wr_of _ (by omega) (by omega)]; omega
      rw [n1, bd_some, ga, app_ok (by simp [lim]; omega), bd_some, q1, bd_some, hj, gb, bdR_go]
      exact this
 · have hl := circ_len P
   rw [List.take_of_length_le (Nat.le_refl _)] at hI
   rw [hI.1, decide_eq_false (by rw [len_eq]; omega), cond_false]
end Go.PF
namespace Go.PF
open Go.Pu
theorem forL_use {α σ X B : Type} {l : List α} {body : Nat → α → σ → Option (Lp σ X)} {s0 : σ} {k : σ → Option B} {lx : X → Option B} {R : Option B → Prop} (I : Nat → σ → Prop) (h0 : I 0 s0) (h : ∀ i y s, l[i]? = some y → I i s → ∃ s', body i y s = some (.nx s') ∧ I (i + 1) s') (hk : ∀ s', I l.length s' → R (k s')) : R (bdR (forL l body s0) k lx) := by
 have key : ∀ (m : List α) (i : Nat) (s : σ), l.drop i = m → i + m.length = l.length → I i s → ∃ s', forLFrom body m i s = some (.go s') ∧ I l.length s' := by
  intro m
  induction m with
  | nil => intro i s _ hi hI; simp only [List.length_nil, Nat.add_zero] at hi; subst hi; exact ⟨s, rfl, hI⟩
  | cons y m ih =>
   intro i s hd hi hI
   have h1 : l[i]? = some y := by have := congrArg (·[0]?) hd; simpa [List.getElem?_drop] using this
   obtain ⟨s', e, hI'⟩ := h i y s h1 hI
   obtain ⟨q, e', hq⟩ := ih (i + 1) s' (by rw [← List.tail_drop, hd]; rfl) (by rw [List.length_cons] at hi; omega) hI'
   exact ⟨q, by rw [forLFrom_nx e]; exact e', hq⟩
 obtain ⟨s', e, hI⟩ := key l 0 s0 rfl (by simp) h0
 unfold forL
 rw [e, bdR_go]; exact hk s' hI
def pk (A : List Int) (L : List ByteArray) (w : ByteArray) : Nat → Int
 | 0 => 0
 | k + 1 => if L[k]? = some w then A[k]?.getD 0 else pk A L w k
def Arr (A : List Int) (M : List (Ft × Nat)) : Prop := ∀ (j : Nat) p, M[j]? = some p → A[j]? = some (p.2 : Int)
theorem pk_look {A : List Int} {P : List Ft} {M : List (Ft × Nat)} (hA : Arr A M) (hw : ∀ x ∈ P, x.wf = true) (hn : P.Nodup) (hM : ∃ R, P = M.map (·.1) ++ R) {y : Ft} (hy : y.wf = true) : ∀ k, k ≤ M.length → pk A (P.map txB) (txB y) k = lookI (M.take k) y := by
 obtain ⟨R, hR⟩ := hM
 intro k
 induction k with
 | zero => intro _; rfl
 | succ k ih =>
  intro hk
  have h1 : M[k]? = some M[k] := List.getElem?_eq_getElem (by omega)
  have h2 : P[k]? = some (M[k]).1 := by rw [hR, List.getElem?_append_left (by simp; omega), List.getElem?_map, h1]; rfl
  have e : M.take (k + 1) = M.take k ++ [((M[k]).1, (M[k]).2)] := by rw [List.take_add_one, h1]; rfl
  rw [pk, List.getElem?_map, h2, e]
  unfold lookI at ih ⊢
  rw [lookM_snoc]
  by_cases c : (M[k]).1 = y
  · rw [if_pos (by rw [← c]; rfl), if_pos c, hA k _ h1]
    have : lookM (M.take k) y = none := lookM_none fun hmem => by
     rw [hR] at hn
     have n1 := (List.nodup_append.1 hn).1
     have e3 : M.map (·.1) = (M.take k).map (·.1) ++ (M[k]).1 :: (M.drop (k + 1)).map (·.1) := by
      rw [← List.map_cons, ← List.map_append, ← List.drop_eq_getElem_cons, List.take_append_drop]
     rw [e3, c] at n1
     exact (List.nodup_append.1 n1).2.2 y hmem y List.mem_cons_self rfl
    rw [this]; rfl
  · rw [if_neg, if_neg c, ih (by omega)]
    · cases lookM (M.take k) y <;> rfl
    · simp only [Option.map_some, Option.some.injEq]
      intro e
      exact c (txB_inj (hw _ (List.mem_of_getElem? h2)) hy e)
theorem put_set {A : List Int} {i : Nat} (h : i < A.length) (v : Int) : put A (i : Int) v = some (A.set i v) := by
 unfold put; rw [if_pos ⟨by omega, by omega⟩, Int.toNat_natCast]
theorem Gd.circuitS {s : ByteArray} {t : Ft} (h : Gd s t) {P : List Ft} (p2 : P.map txB = partT t) (hP : Parts P) : spec_CircuitOfFormula s = some ((circ P).2, true) := by
 have h80 := hP.len
 unfold spec_CircuitOfFormula
 rw [h.good, bd_some, Bool.not_true, cond_false, h.txt, spec_all_eq h.wf h.le80, bd_some, ← p2]
 have hl : Go.Pu.len (P.map txB) = (P.length : Int) := by rw [len_eq, List.length_map]
 rw [hl]
 have hmk : mk2 (0 : Int) (P.length : Int) (P.length : Int) = some (List.replicate P.length 0) := by
  unfold mk2; rw [if_pos (by unfold lim; omega), Int.toNat_natCast]
 rw [hmk, bd_some]
 refine forL_use (R := fun o => o = some ((circ P).2, true)) (fun i (s : List Int × List Gate) => s.1.length = P.length ∧ Arr s.1 (circ (P.take i)).1 ∧ s.2 = (circ (P.take i)).2) ⟨by simp, fun j p hp => by simp [circ] at hp, rfl⟩ (fun i y s hy hs => ?_) (fun s' hI => ?_)
 · obtain ⟨A, G⟩ := s
   obtain ⟨hA1, hA2, hG⟩ := hs
   dsimp only at hA1 hA2 hG
   have hi : i < P.length := by have := (List.getElem?_eq_some_iff.1 hy).1; rwa [List.length_map] at this
   have h1 : P[i]? = some P[i] := List.getElem?_eq_getElem hi
   have hw := hP.wf _ (List.getElem_mem hi)
   have hcirc : circ (P.take (i + 1)) = gstep (circ (P.take i)) P[i] := by rw [List.take_add_one, h1]; exact circ_snoc _ _
   have hfst : (circ (P.take i)).1.map (·.1) = P.take i := circ_fst _
   have hML : (circ (P.take i)).1.length = i := by have := congrArg List.length hfst; rw [List.length_map, List.length_take] at this; omega
   have hy' : y = txB P[i] := by rw [List.getElem?_map, h1] at hy; cases hy; rfl
   have hz : (P[i]).txt.length ≤ 80 := by
    have hm : P[i] ∈ t.subs := by
     have : txB P[i] ∈ partT t := by rw [← p2]; exact List.mem_map.2 ⟨_, List.getElem_mem hi, rfl⟩
     obtain ⟨z, hz, e⟩ := partT_mem.1 this
     rw [← txB_inj (Ft.subs_wf h.wf z hz) hw e]; exact hz
    have := (Ft.subs_txt hm).1; have := h.le80; omega
   have hlen := circ_len (P.take i)
   rw [List.length_take] at hlen
   have hPM : ∃ R, P = (circ (P.take i)).1.map (·.1) ++ R := ⟨P.drop i, by rw [hfst, List.take_append_drop]⟩
   generalize hM : (circ (P.take i)).1 = M at *
   have hcM : circ (P.take i) = (M, G) := by rw [hG, ← hM]
   rw [hcM] at hcirc
   rw [← hG] at hlen
   have look : ∀ z : Ft, z.wf = true → pk A (P.map txB) (txB z) i = lookI M z := fun z hz => by
    rw [pk_look hA2 hP.wf hP.nd hPM hz i (by omega), List.take_of_length_le (by omega)]
   generalize P[i] = x at *
   rw [hcirc, hy', spec_l22Parts_eq (F?_tx hw) (by rw [tx_size]; omega), bd_some]
   have hck : chk ((i : Nat) : Int) = some i := by unfold chk; rw [if_pos (by omega), Int.toNat_natCast]
   rw [hck, bd_some]
   dsimp only
   refine forR_use (R := fun (o : Option (Lp (List Int × List Gate) Empty)) => ∃ s', o = some (.nx s') ∧ s'.1.length = P.length ∧ Arr s'.1 (gstep (M, G) x).1 ∧ s'.2 = (gstep (M, G) x).2) (fun k (s : Int × Int) => s = (pk A (P.map txB) x.tA k, pk A (P.map txB) x.tB k)) rfl (fun k s hk hs => ?_) (fun s' hI => ?_)
   · subst hs
     have hkP : k < P.length := by omega
     have e1 : ix (P.map txB) (k : Int) = some (txB P[k]) := ix_nat (by rw [List.getElem?_map, List.getElem?_eq_getElem hkP]; rfl)
     have e2 : ∃ v, ix A (k : Int) = some v ∧ A[k]? = some v := ⟨A[k]'(by omega), ix_nat (List.getElem?_eq_getElem (by omega)), List.getElem?_eq_getElem (by omega)⟩
     obtain ⟨v, e2, e3⟩ := e2
     have e4 : (P.map txB)[k]? = some (txB P[k]) := by rw [List.getElem?_map, List.getElem?_eq_getElem hkP]; rfl
     rw [e1, bd_some, eqS, e2]
     simp only [bd_some]
     rw [eqS]
     refine ⟨_, ?_, rfl⟩
     rw [pk, pk, e4, e3]
     simp only [Option.some.injEq]
     by_cases c1 : txB P[k] = x.tA
     · rw [decide_eq_true c1, cond_true, if_pos c1]
       by_cases c2 : txB P[k] = x.tB
       · rw [decide_eq_true c2, cond_true, if_pos c2]; rfl
       · rw [decide_eq_false c2, cond_false, if_neg c2]; rfl
     · rw [decide_eq_false c1, cond_false, if_neg c1]
       by_cases c2 : txB P[k] = x.tB
       · rw [decide_eq_true c2, cond_true, if_pos c2]; rfl
       · rw [decide_eq_false c2, cond_false, if_neg c2]
   · subst hI
     have fin : ∀ (G1 : List Gate) (g : Gate), G1 ++ [g] = (gstep (M, G) x).2 → G1.length ≤ 1000 →
      ∃ s', bd (app G1 [g]) (fun xs => bd (ix A (i : Int)) (fun _ => bd (put A (i : Int) (wr (Go.Pu.len xs - 1))) (fun ys => (some (Lp.nx (ys, xs)) : Option (Lp (List Int × List Gate) Empty))))) = some (.nx s') ∧ s'.1.length = P.length ∧ Arr s'.1 (gstep (M, G) x).1 ∧ s'.2 = (gstep (M, G) x).2 := fun G1 g e hl => by
      rw [app_ok (by simp [lim]; omega), bd_some, ix_nat (List.getElem?_eq_getElem (by omega)), bd_some, put_set (by omega), bd_some, e]
      refine ⟨_, rfl, by simp [hA1], ?_, rfl⟩
      have hj : wr (Go.Pu.len (gstep (M, G) x).2 - 1) = (((gstep (M, G) x).2.length - 1 : Nat) : Int) := by
       rw [len_eq, ← e, List.length_append, List.length_singleton, wr_of _ (by omega) (by omega)]; omega
      dsimp only
      rw [hj]
      intro j p hp
      have hg1 : (gstep (M, G) x).1 = M ++ [(x, (gstep (M, G) x).2.length - 1)] := rfl
      rw [hg1] at hp
      rcases Nat.lt_trichotomy j M.length with c | c | c
      · rw [List.getElem?_append_left c] at hp
        rw [List.getElem?_set_ne (by omega)]; exact hA2 j p hp
      · subst c
        rw [List.getElem?_append_right (Nat.le_refl _), Nat.sub_self] at hp
        cases hp
        rw [hML, List.getElem?_set_self (by omega)]
      · rw [List.getElem?_eq_none (by simp; omega)] at hp; cases hp
     cases x with
     | leaf c =>
      have hc : isLf c = true := hw
      by_cases c8 : c = 48
      · subst c8; exact fin G ⟨3, 0, 0⟩ rfl (by omega)
      by_cases c9 : c = 49
      · subst c9; exact fin G ⟨2, 0, 0⟩ rfl (by omega)
      have hl := leaf_ne hc
      simp only [Ft.opI]
      rw [c48, c49, c126, c38, c124, c62, beq_eq_false_iff_ne.2 c8, beq_eq_false_iff_ne.2 c9, beq_eq_false_iff_ne.2 hl.1, beq_eq_false_iff_ne.2 hl.2.1, beq_eq_false_iff_ne.2 hl.2.2.1, beq_eq_false_iff_ne.2 hl.2.2.2,
       cond_false, cond_false, cond_false, cond_false, cond_false, cond_false, lt_at hc c8 c9]
      exact fin G ⟨1, ((c.toNat - 96 : Nat) : Int), 0⟩ (by simp [gstep, gatesOf, c8, c9]) (by omega)
     | neg a =>
      have ga := look a hw
      have := fin G ⟨4, lookI M a, 0⟩ rfl (by omega)
      rw [← ga] at this
      exact this
     | bin o a b =>
      simp only [Ft.wf, Bool.and_eq_true] at hw
      have ga := look a hw.1.2
      have gb := look b hw.2
      rcases op_cases hw.1.1 with rfl | rfl | rfl
      · have := fin G ⟨5, lookI M a, lookI M b⟩ rfl (by omega)
        rw [← ga, ← gb] at this
        exact this
      · have := fin G ⟨6, lookI M a, lookI M b⟩ rfl (by omega)
        rw [← ga, ← gb] at this
        exact this
      · have := fin (G ++ [⟨4, lookI M a, 0⟩]) ⟨6, (G.length : Int), lookI M b⟩ (by simp [gstep, gatesOf]) (by simp; omega)
        show ∃ s', bd (app G [Gate.mk 4 (pk A (P.map txB) (txB a) i) 0]) (fun xs => bd (app xs [Gate.mk 6 (wr (Go.Pu.len xs - 1)) (pk A (P.map txB) (txB b) i)]) _) = _ ∧ _
        have hj : wr (Go.Pu.len (G ++ [Gate.mk 4 (lookI M a) 0]) - 1) = (G.length : Int) := by
         rw [len_eq, List.length_append, List.length_singleton, wr_of _ (by omega) (by omega)]; omega
        rw [ga, gb, app_ok (by simp [lim]; omega), bd_some, hj]
        exact this
 · rw [List.take_of_length_le (by rw [List.length_map]; exact Nat.le_refl _)] at hI
   rw [hI.2.2]
end Go.PF
namespace Go.PF
open Go.Pu
theorem put_setB {A : List Bool} {i : Nat} (h : i < A.length) (v : Bool) : put A (i : Int) v = some (A.set i v) := by
 unfold put; rw [if_pos ⟨by omega, by omega⟩, Int.toNat_natCast]
theorem gateValues_eq {G : List Gate} (hG : allOk G) (hl : G.length ≤ 200) {k : Nat} (hk : k < 64) : impl_gateValues G (k : Int) = some (evalG k G) := by
 unfold impl_gateValues
 have hmk : mk2 false (Go.Pu.len G) (Go.Pu.len G) = some (List.replicate G.length false) := by
  rw [len_eq]; unfold mk2; rw [if_pos (by unfold lim; omega), Int.toNat_natCast]
 rw [hmk, bd_some]
 refine forL_use (R := fun o => o = some (evalG k G)) (fun i s => s = evalG k (G.take i) ++ List.replicate (G.length - i) false) (by simp [evalG]) (fun i y s hy hs => ?_) (fun s' hI => ?_)
 · subst hs
   have hi : i < G.length := (List.getElem?_eq_some_iff.1 hy).1
   have hE : (evalG k (G.take i)).length = i := by rw [evalG_len, List.length_take]; omega
   have e1 : G.take (i + 1) = G.take i ++ [y] := by rw [List.take_add_one, hy]; rfl
   have e2 : List.replicate (G.length - i) false = false :: List.replicate (G.length - (i + 1)) false := by
    rw [show G.length - i = (G.length - (i + 1)) + 1 by omega, List.replicate_succ]
   rw [e1, evalG_snoc, e2]
   generalize hv : evalG k (G.take i) = vs at *
   generalize List.replicate (G.length - (i + 1)) false = tl
   have hix : ix (vs ++ false :: tl) (i : Int) = some false := ix_nat (by rw [List.getElem?_append_right (by omega), hE, Nat.sub_self]; rfl)
   have hput : ∀ b : Bool, put (vs ++ false :: tl) (i : Int) b = some ((vs ++ [b]) ++ tl) := fun b => by
    rw [put_setB (by simp; omega), List.set_append_right _ _ (by omega), hE, Nat.sub_self]; simp
   have hat : ∀ a : Int, 0 ≤ a → a < i → ix (vs ++ false :: tl) a = some (vs[a.toNat]?.getD false) := fun a h0 h1 => by
    have h2 : vs[a.toNat]? = some (vs[a.toNat]'(by omega)) := List.getElem?_eq_getElem (by omega)
    rw [h2, ix, if_pos h0, List.getElem?_append_left (by omega), h2]; rfl
   obtain ⟨kd, a, b⟩ := y
   rcases hG i _ hy with ⟨h1, h2, h3, h4⟩ | ⟨h1, h2, h3⟩ | ⟨h1, h2, h3, h4⟩ | ⟨h1, h2, h3, h4, h5⟩
   · dsimp only at h1 h2 h3 h4; subst h1
     have hw : wr (a - 1) = (((a - 1).toNat : Nat) : Int) := by rw [wr_of _ (by omega) (by omega)]; omega
     have hnn : nn (((a - 1).toNat : Nat) : Int) = some () := by unfold nn; rw [if_neg (by omega)]
     refine ⟨_, ?_, rfl⟩
     dsimp only
     rw [beq_self_eq_true, cond_true, hw, hnn, bd_some, hix, bd_some, bit_nat (by omega) (by omega), hput, bd_some]; rfl
   · dsimp only at h1 h2 h3
     rcases h1 with rfl | rfl
     · refine ⟨_, ?_, rfl⟩
       show bd (ix (vs ++ false :: tl) (i : Int)) (fun _ => bd (put (vs ++ false :: tl) (i : Int) true) fun xs => some (Lp.nx xs)) = _
       rw [hix, bd_some, hput, bd_some]; rfl
     · refine ⟨_, rfl, ?_⟩
       show vs ++ false :: tl = vs ++ [false] ++ tl
       simp
   · dsimp only at h1 h2 h3 h4; subst h1
     refine ⟨_, ?_, rfl⟩
     show bd (ix (vs ++ false :: tl) a) (fun x => bd (ix (vs ++ false :: tl) (i : Int)) (fun _ => bd (put (vs ++ false :: tl) (i : Int) (!x)) fun xs => some (Lp.nx xs))) = _
     rw [hat a h2 h3, bd_some, hix, bd_some, hput, bd_some]; rfl
   · dsimp only at h1 h2 h3 h4 h5
     rcases h1 with rfl | rfl
     · refine ⟨_, ?_, rfl⟩
       show bd (ix (vs ++ false :: tl) a) (fun x => bd (bif x then bd (ix (vs ++ false :: tl) b) (fun z => some z) else some false) (fun t => bd (ix (vs ++ false :: tl) (i : Int)) (fun _ => bd (put (vs ++ false :: tl) (i : Int) t) fun xs => some (Lp.nx xs)))) = _
       have e : (bif vs[a.toNat]?.getD false then bd (ix (vs ++ false :: tl) b) (fun z => some z) else some false) = some (vs[a.toNat]?.getD false && vs[b.toNat]?.getD false) := by
        rw [hat b h4 h5]; cases vs[a.toNat]?.getD false <;> rfl
       rw [hat a h2 h3, bd_some, e, bd_some, hix, bd_some, hput, bd_some]; rfl
     · refine ⟨_, ?_, rfl⟩
       show bd (ix (vs ++ false :: tl) a) (fun x => bd (bif x then some true else bd (ix (vs ++ false :: tl) b) (fun z => some z)) (fun t => bd (ix (vs ++ false :: tl) (i : Int)) (fun _ => bd (put (vs ++ false :: tl) (i : Int) t) fun xs => some (Lp.nx xs)))) = _
       have e : (bif vs[a.toNat]?.getD false then some true else bd (ix (vs ++ false :: tl) b) (fun z => some z)) = some (vs[a.toNat]?.getD false || vs[b.toNat]?.getD false) := by
        rw [hat b h4 h5]; cases vs[a.toNat]?.getD false <;> rfl
       rw [hat a h2 h3, bd_some, e, bd_some, hix, bd_some, hput, bd_some]; rfl
 · rw [hI, List.take_of_length_le (Nat.le_refl _)]; simp
theorem within_t {a l h : Int} (h1 : l ≤ a) (h2 : a ≤ h) : impl_within a l h = true := by
 unfold impl_within; rw [decide_eq_true h1, decide_eq_true h2]; rfl
theorem gateOk_t {i : Nat} {g : Gate} (hi : i ≤ 1000) (h : gok i g) : impl_gateOk 6 (i : Int) g = some true := by
 obtain ⟨kd, a, b⟩ := g
 unfold impl_gateOk impl_isVar
 rcases h with ⟨h1, h2, h3, h4⟩ | ⟨h1, h2, h3⟩ | ⟨h1, h2, h3, h4⟩ | ⟨h1, h2, h3, h4, h5⟩
 · dsimp only at h1 h2 h3 h4; subst h1; subst h4
   show some (bif impl_within a 1 6 then _ else _) = _
   rw [within_t h2 h3]; rfl
 · dsimp only at h1 h2 h3; subst h2; subst h3
   rcases h1 with rfl | rfl <;> rfl
 · dsimp only at h1 h2 h3 h4; subst h1; subst h4
   show some (bif impl_within a 0 (wr ((i : Int) - 1)) then _ else _) = _
   rw [wr_of _ (by omega) (by omega), within_t h2 (by omega)]; rfl
 · dsimp only at h1 h2 h3 h4 h5
   rcases h1 with rfl | rfl
   · show some (bif impl_within a 0 (wr ((i : Int) - 1)) then impl_within b 0 (wr ((i : Int) - 1)) else _) = _
     rw [wr_of _ (by omega) (by omega), within_t h2 (by omega), within_t h4 (by omega)]; rfl
   · show some (bif impl_within a 0 (wr ((i : Int) - 1)) then impl_within b 0 (wr ((i : Int) - 1)) else _) = _
     rw [wr_of _ (by omega) (by omega), within_t h2 (by omega), within_t h4 (by omega)]; rfl
theorem isCircuit_t {G : List Gate} (hG : allOk G) (h1 : 1 ≤ G.length) (hl : G.length ≤ 200) : impl_IsCircuit 6 G = some true := by
 unfold impl_IsCircuit
 refine forL_use (R := fun o => o = some true) (fun i s => i ≤ G.length) (Nat.zero_le _) (fun i y s hy hs => ?_) (fun s' hI => ?_)
 · have hi : i < G.length := (List.getElem?_eq_some_iff.1 hy).1
   rw [gateOk_t (by omega) (hG i y hy), bd_some]
   exact ⟨(), rfl, by omega⟩
 · rw [show impl_varsOk 6 = true from rfl, cond_true, within_t (by rw [len_eq]; omega) (by rw [len_eq]; omega)]
structure Cv (G : List Gate) (t : Ft) : Prop where
 ok : allOk G
 one : 1 ≤ G.length
 len : G.length ≤ 200
 val : ∀ k, (evalG k G)[G.length - 1]? = some (t.val k)
theorem circ_Cv {P : List Ft} {t : Ft} (hP : Parts P) (hQ : ∃ Q, P = Q ++ [t]) : Cv (circ P).2 t := by
 have h80 := hP.len
 have hl := circ_len P
 have hc := circ_CI hP.lad hP.wf P.length (Nat.le_refl _)
 rw [List.take_of_length_le (Nat.le_refl _)] at hc
 obtain ⟨Q, rfl⟩ := hQ
 have h1 : 1 ≤ (Q ++ [t]).length := by simp
 refine ⟨hc.ok, by omega, by omega, fun k => ?_⟩
 have := hc.val k (t, (circ (Q ++ [t])).2.length - 1) (by rw [circ_snoc]; simp [gstep])
 exact this
theorem Cv.circuitValue {G : List Gate} {t : Ft} (h : Cv G t) {k : Nat} (hk : k < 64) : impl_circuitValue G (k : Int) = some (t.val k) := by
 have h1 := h.one; have h2 := h.len
 unfold impl_circuitValue
 rw [gateValues_eq h.ok h.len hk, bd_some]
 have hw : wr (Go.Pu.len G - 1) = ((G.length - 1 : Nat) : Int) := by rw [len_eq, wr_of _ (by omega) (by omega)]; omega
 rw [hw, ix_nat (h.val k), bd_some]
theorem Cv.value {G : List Gate} {t : Ft} (h : Cv G t) {k : Nat} (hk : k < 64) : impl_CircuitValue 6 G (k : Int) = some (t.val k, true) := by
 unfold impl_CircuitValue impl_bitsOk
 rw [isCircuit_t h.ok h.one h.len, bd_some, Bool.not_true, cond_false, show nn (6 : Int) = some () from rfl, bd_some, show wr (shlK true 64 1 6 - 1) = 63 by decide, within_t (by omega) (by omega)]
 simp only [bd_some, Bool.not_true, cond_false]
 rw [h.circuitValue hk, bd_some]
theorem Cv.count {G : List Gate} {t : Ft} (h : Cv G t) : impl_CountTrue 6 G = some ((cntB (fun k => t.val k) 64 : Int), true) := by
 unfold impl_CountTrue
 rw [isCircuit_t h.ok h.one h.len, bd_some, Bool.not_true, cond_false, show nn (6 : Int) = some () from rfl, bd_some, show chk (shlK true 64 1 6) = some 64 by decide, bd_some,
  cnt_loop (p := fun k => t.val k) (by omega) (fun i hi => h.circuitValue hi), bdR_go]
theorem rGates_self (a : List Gate) : laws_rGates a a = some true := by
 unfold laws_rGates
 rw [beq_self_eq_true, Bool.not_true, cond_false]
 refine forL_use (R := fun o => o = some true) (fun i s => True) trivial (fun i y s hy hs => ?_) (fun s' hI => rfl)
 rw [ix_nat hy, bd_some, beq_self_eq_true, beq_self_eq_true, beq_self_eq_true]
 exact ⟨(), rfl, trivial⟩
theorem rInts_self (a : List Int) : laws_rInts a a = some true := by
 unfold laws_rInts
 rw [beq_self_eq_true, Bool.not_true, cond_false]
 refine forL_use (R := fun o => o = some true) (fun i s => True) trivial (fun i y s hy hs => ?_) (fun s' hI => rfl)
 rw [ix_nat hy, bd_some, beq_self_eq_true]
 exact ⟨(), rfl, trivial⟩
theorem rCnf_self (a : Cnf) : laws_rCnf a a = some true := by
 have e : laws_rTable a.clauses a.clauses = some true := by
  unfold laws_rTable
  rw [beq_self_eq_true, Bool.not_true, cond_false]
  refine forL_use (R := fun o => o = some true) (fun i s => True) trivial (fun i y s hy hs => ?_) (fun s' hI => rfl)
  rw [ix_nat hy, bd_some, rInts_self, bd_some]
  exact ⟨(), rfl, trivial⟩
 unfold laws_rCnf
 rw [beq_self_eq_true, cond_true, e]; rfl
end Go.PF
namespace Go.PF
open Go.Pu
theorem joinL_cons (s : List Int) (y : Int) (b : List Int) : joinL s (y :: b) = (match joinL s [y] with | some t => joinL t b | none => none) := by
 rw [joinL, joinL]
 cases s.contains (wr (-y)) <;> rfl
theorem spec_l2Of_eq {c : List Int} (hc : c.length ≤ 1000) : spec_l2Of c = some (joined [] c) := by
 unfold spec_l2Of forL
 have len1 : ∀ (s t : List Int) (y : Int), joinL s [y] = some t → t.length ≤ s.length + 1 := fun s t y h => by
  rw [joinL] at h
  cases hq : s.contains (wr (-y)) with
  | true => rw [hq] at h; cases h
  | false =>
   rw [hq] at h
   simp only [cond_false, joinL, Option.some.injEq] at h
   subst h
   cases s.contains y
   · show (putL s y).length ≤ _
     rw [putL_length]; exact Nat.le_refl _
   · simp
 have key : ∀ (m : List Int) (k : Nat) (s : List Int), s.length + m.length ≤ 1000 →
  forLFrom (S := (List Int)) (X := ((List Int) × Bool)) (fun i27 y26 s27 => bd (PF.spec_l2Join s27 [y26]) (fun r159 => (bif (!r159.2) then some (Lp.rt ([], false)) else some (Lp.nx r159.1)))) m k s = some (match joinL s m with | some t => .go t | none => .rt ([], false)) := by
  intro m
  induction m with
  | nil => intro k s _; rfl
  | cons y m ih =>
   intro k s hs
   rw [List.length_cons] at hs
   have hj := spec_l2Join_eq (a := s) (b := [y]) (by simp only [List.length_singleton]; unfold lim; omega)
   rw [joinL_cons]
   cases hq : joinL s [y] with
   | none =>
    rw [hq] at hj
    dsimp only at hj ⊢
    rw [forLFrom]
    rw [hj]; rfl
   | some t =>
    rw [hq] at hj
    dsimp only at hj ⊢
    have := len1 s t y hq
    rw [forLFrom_nx (s' := t) (by rw [hj]; rfl)]
    exact ih (k + 1) t (by omega)
 rw [key c 0 [] (by simpa using hc)]
 unfold joined
 cases joinL [] c <;> rfl
theorem joinL_one (x : Int) (b : List Int) : joinL [] (x :: b) = joinL [x] b := rfl
theorem impl_clause_one {x : Int} {b : List Int} (hb : Srt b) (sx : Sm [x]) (sb : Sm b) (hl : b.length < 1000) : impl_clause (x :: b) = some (joined [] (x :: b)) := by
 have := clause_joined (a := [x]) (b := b) (List.pairwise_singleton _ _) hb sx sb (by simp only [List.length_singleton]; unfold lim; omega)
 rw [show x :: b = [x] ++ b from rfl, this]
 unfold joined
 rw [show [x] ++ b = x :: b from rfl, joinL_one]
def clO (c : List Int) : Option (List Int) := joinL [] c
theorem joined_clO (c : List Int) : joined [] c = match clO c with | some s => (s, true) | none => ([], false) := rfl
theorem clO_sem {x : Int} {b : List Int} (hb : Srt b) (sx : Sm [x]) (sb : Sm b) (f : Nat → Bool) :
 (∀ s, clO (x :: b) = some s → (∀ V : Int, 0 ≤ V → V ≤ 12 → (∀ l ∈ x :: b, -V ≤ l ∧ l ≤ V) → IsC V s) ∧ tc f s = (x :: b).any (tl f)) ∧ (clO (x :: b) = none → (x :: b).any (tl f) = true) := by
 unfold clO
 rw [joinL_one]
 have h := joinL_spec (s := [x]) (List.pairwise_singleton _ _) sx hb sb
 have x0 := sx x (by simp)
 by_cases hex : ∃ y ∈ b, -y ∈ [x]
 · rw [if_pos hex] at h
   rw [h]
   refine ⟨fun s hs => (by cases hs), fun _ => ?_⟩
   obtain ⟨y, hy, hyx⟩ := hex
   simp only [List.mem_singleton] at hyx
   rw [List.any_eq_true]
   cases hx : tl f x with
   | true => exact ⟨x, by simp, hx⟩
   | false =>
    refine ⟨y, by simp [hy], ?_⟩
    have hy0 := sb y hy
    unfold tl at hx ⊢
    have e1 : y.natAbs = x.natAbs := by omega
    rw [e1]
    by_cases c : 0 < x
    · rw [decide_eq_true c] at hx
      rw [decide_eq_false (by omega)]
      cases hf : f x.natAbs <;> simp [hf] at hx ⊢
    · rw [decide_eq_false c] at hx
      rw [decide_eq_true (by omega)]
      cases hf : f x.natAbs <;> simp [hf] at hx ⊢
 · rw [if_neg hex] at h
   obtain ⟨t, t1, t2, t3⟩ := h
   rw [t1]
   refine ⟨fun s hs => ?_, fun hn => by cases hn⟩
   cases hs
   have mem : ∀ z, z ∈ t ↔ z ∈ x :: b := fun z => by rw [t3, List.mem_singleton, List.mem_cons]
   refine ⟨fun V h0 h1 h2 => ⟨h0, h1, fun l hl => ?_, t2⟩, ?_⟩
   · have hm := (mem l).1 hl
     have := h2 l hm
     refine ⟨this.1, this.2, ?_⟩
     rcases List.mem_cons.1 hm with rfl | hm
     · exact x0.2.2
     · exact (sb l hm).2.2
   · unfold tc
     rw [Bool.eq_iff_iff, List.any_eq_true, List.any_eq_true]
     exact ⟨fun ⟨z, hz, e⟩ => ⟨z, (mem z).1 hz, e⟩, fun ⟨z, hz, e⟩ => ⟨z, (mem z).2 hz, e⟩⟩
def defL (x : Ft) (v X Y : Int) : List (List Int) := match x with
 | .leaf c => if c = 48 then [[-v]] else [[v]]
 | .neg _ => [[X, v], [-X, -v]]
 | .bin o _ _ => if o = 38 then [[X, -v], [Y, -v], [-X, -Y, v]] else if o = 124 then [[-X, v], [-Y, v], [X, Y, -v]] else [[X, v], [-Y, v], [-X, Y, -v]]
def Lok (V : Int) (c : List Int) : Prop := ∃ x b, c = x :: b ∧ Srt b ∧ (∀ l ∈ x :: b, -V ≤ l ∧ l ≤ V ∧ l ≠ 0) ∧ b.length ≤ 2
theorem Lok.sm {V : Int} {x : Int} {b : List Int} (hV : V ≤ 12) (h : ∀ l ∈ x :: b, -V ≤ l ∧ l ≤ V ∧ l ≠ 0) : Sm [x] ∧ Sm b :=
 ⟨fun l hl => by have := h l (by rw [List.mem_singleton] at hl; simp [hl]); exact ⟨by omega, by omega, this.2.2⟩, fun l hl => by have := h l (by simp [hl]); exact ⟨by omega, by omega, this.2.2⟩⟩
theorem lok1 {V a : Int} (ha : -V ≤ a ∧ a ≤ V ∧ a ≠ 0) : Lok V [a] := ⟨a, [], rfl, List.Pairwise.nil, fun l hl => by simp only [List.mem_singleton] at hl; rw [hl]; exact ha, by simp⟩
theorem lok2 {V a b : Int} (ha : -V ≤ a ∧ a ≤ V ∧ a ≠ 0) (hb : -V ≤ b ∧ b ≤ V ∧ b ≠ 0) : Lok V [a, b] :=
 ⟨a, [b], rfl, List.pairwise_singleton _ _, fun l hl => by simp only [List.mem_cons, List.not_mem_nil, or_false] at hl; rcases hl with rfl | rfl <;> assumption, by simp⟩
theorem lok3 {V a b c : Int} (ha : -V ≤ a ∧ a ≤ V ∧ a ≠ 0) (hb : -V ≤ b ∧ b ≤ V ∧ b ≠ 0) (hc : -V ≤ c ∧ c ≤ V ∧ c ≠ 0) (h : b.natAbs < c.natAbs) : Lok V [a, b, c] :=
 ⟨a, [b, c], rfl, by simp [h], fun l hl => by simp only [List.mem_cons, List.not_mem_nil, or_false] at hl; rcases hl with rfl | rfl | rfl <;> assumption, by simp⟩
structure Vok (x : Ft) (v X Y : Int) : Prop where
 hv : 7 ≤ v ∧ v ≤ 12
 hX : x.kids ≠ [] → 1 ≤ X ∧ X < v
 hY : x.kids.length = 2 → 1 ≤ Y ∧ Y < v
theorem defL_ok {x : Ft} {v X Y : Int} (h : Vok x v X Y) : ∀ c ∈ defL x v X Y, Lok v c := by
 have hv := h.hv
 intro c hc
 cases x with
 | leaf k =>
  unfold defL at hc
  dsimp only at hc
  by_cases e : k = 48
  · rw [if_pos e, List.mem_singleton] at hc; rw [hc]; exact lok1 (by omega)
  · rw [if_neg e, List.mem_singleton] at hc; rw [hc]; exact lok1 (by omega)
 | neg a =>
  have hX := h.hX (by simp [Ft.kids])
  simp only [defL, List.mem_cons, List.not_mem_nil, or_false] at hc
  rcases hc with rfl | rfl
  · exact lok2 (by omega) (by omega)
  · exact lok2 (by omega) (by omega)
 | bin o a b =>
  have hX := h.hX (by simp [Ft.kids])
  have hY := h.hY (by simp [Ft.kids])
  unfold defL at hc
  dsimp only at hc
  by_cases e : o = 38
  · rw [if_pos e] at hc
    simp only [List.mem_cons, List.not_mem_nil, or_false] at hc
    rcases hc with rfl | rfl | rfl
    · exact lok2 (by omega) (by omega)
    · exact lok2 (by omega) (by omega)
    · exact lok3 (by omega) (by omega) (by omega) (by omega)
  rw [if_neg e] at hc
  by_cases e : o = 124
  · rw [if_pos e] at hc
    simp only [List.mem_cons, List.not_mem_nil, or_false] at hc
    rcases hc with rfl | rfl | rfl
    · exact lok2 (by omega) (by omega)
    · exact lok2 (by omega) (by omega)
    · exact lok3 (by omega) (by omega) (by omega) (by omega)
  · rw [if_neg e] at hc
    simp only [List.mem_cons, List.not_mem_nil, or_false] at hc
    rcases hc with rfl | rfl | rfl
    · exact lok2 (by omega) (by omega)
    · exact lok2 (by omega) (by omega)
    · exact lok3 (by omega) (by omega) (by omega) (by omega)
def cls (l : List (List Int)) : List (List Int) := l.filterMap clO
theorem cls_isC {V : Int} (h0 : 0 ≤ V) (h12 : V ≤ 12) {l : List (List Int)} (h : ∀ c ∈ l, Lok V c) : ∀ s ∈ cls l, IsC V s := by
 intro s hs
 obtain ⟨c, hc, e⟩ := List.mem_filterMap.1 hs
 obtain ⟨x, b, rfl, h1, h2, _⟩ := h c hc
 obtain ⟨sx, sb⟩ := Lok.sm h12 h2
 exact ((clO_sem h1 sx sb (fun _ => true)).1 s e).1 V h0 h12 fun l hl => ⟨(h2 l hl).1, (h2 l hl).2.1⟩
theorem cls_sem {V : Int} (h12 : V ≤ 12) {l : List (List Int)} (h : ∀ c ∈ l, Lok V c) (f : Nat → Bool) : ((cls l).all fun s => tc f s) = l.all fun c => c.any (tl f) := by
 induction l with
 | nil => rfl
 | cons c l ih =>
  have ih := ih fun d hd => h d (List.mem_cons_of_mem _ hd)
  obtain ⟨x, b, rfl, h1, h2, _⟩ := h c (by simp)
  obtain ⟨sx, sb⟩ := Lok.sm h12 h2
  have hsem := clO_sem h1 sx sb f
  rw [List.all_cons, ← ih]
  unfold cls
  cases hq : clO (x :: b) with
  | none => rw [List.filterMap_cons_none hq, hsem.2 hq, Bool.true_and]
  | some s => rw [List.filterMap_cons_some hq, List.all_cons, (hsem.1 s hq).2]
def sayB (x : Ft) (p q : Bool) : Bool := match x with
 | .leaf c => if c = 48 then false else true
 | .neg _ => !p
 | .bin o _ _ => if o = 38 then p && q else if o = 124 then p || q else !p || q
theorem tlP {f : Nat → Bool} {l : Int} (h : 0 < l) : tl f l = f l.toNat := by
 unfold tl; rw [decide_eq_true h, show l.natAbs = l.toNat by omega]; simp
theorem tlN {f : Nat → Bool} {l : Int} (h : 0 < l) : tl f (-l) = !f l.toNat := by
 unfold tl; rw [decide_eq_false (by omega), show (-l).natAbs = l.toNat by omega]; simp
theorem defL_sem {x : Ft} {v X Y : Int} (h : Vok x v X Y) (f : Nat → Bool) : ((defL x v X Y).all fun c => c.any (tl f)) = (f v.toNat == sayB x (f X.toNat) (f Y.toNat)) := by
 have hv : 0 < v := by have := h.hv; omega
 cases x with
 | leaf k =>
  unfold defL sayB
  dsimp only
  by_cases e : k = 48
  · rw [if_pos e, if_pos e]; simp [tlN hv]
  · rw [if_neg e, if_neg e]; simp [tlP hv]
 | neg a =>
  have hX : 0 < X := by have := h.hX (by simp [Ft.kids]); omega
  simp only [defL, sayB, List.all_cons, List.all_nil, List.any_cons, List.any_nil, tlP hv, tlN hv, tlP hX, tlN hX]
  cases f v.toNat <;> cases f X.toNat <;> rfl
 | bin o a b =>
  have hX : 0 < X := by have := h.hX (by simp [Ft.kids]); omega
  have hY : 0 < Y := by have := h.hY (by simp [Ft.kids]); omega
  unfold defL sayB
  dsimp only
  by_cases e : o = 38
  · rw [if_pos e, if_pos e]
    simp only [List.all_cons, List.all_nil, List.any_cons, List.any_nil, tlP hv, tlN hv, tlP hX, tlN hX, tlP hY, tlN hY]
    cases f v.toNat <;> cases f X.toNat <;> cases f Y.toNat <;> rfl
  rw [if_neg e, if_neg e]
  by_cases e : o = 124
  · rw [if_pos e, if_pos e]
    simp only [List.all_cons, List.all_nil, List.any_cons, List.any_nil, tlP hv, tlN hv, tlP hX, tlN hX, tlP hY, tlN hY]
    cases f v.toNat <;> cases f X.toNat <;> cases f Y.toNat <;> rfl
  · rw [if_neg e, if_neg e]
    simp only [List.all_cons, List.all_nil, List.any_cons, List.any_nil, tlP hv, tlN hv, tlP hX, tlN hX, tlP hY, tlN hY]
    cases f v.toNat <;> cases f X.toNat <;> cases f Y.toNat <;> rfl
end Go.PF
namespace Go.PF
open Go.Pu
theorem spec_letter1 {y : ByteArray} {c : UInt8} (h : bs y = [c]) : spec_l22Letter y = some (decide (97 ≤ c) && decide (c ≤ 102)) := by
 unfold spec_l22Letter
 have hz := bs_len y
 rw [h] at hz
 have hi : ixS y 0 = some (c.toNat : Int) := ixS_at (k := 0) (by rw [h]; rfl)
 rw [show ((y.size : Int) == 1) = true by rw [beq_iff_eq, ← hz]; rfl, cond_true, hi, bd_some, bd_some, cge]
 cases decide (97 ≤ c) with
 | false => rfl
 | true => rw [cond_true, bd_some, cle]; rfl
def isLet : Ft → Bool
 | .leaf c => decide (97 ≤ c) && decide (c ≤ 102)
 | _ => false
def letN : Ft → Int
 | .leaf c => ((c.toNat - 96 : Nat) : Int)
 | _ => 0
def varO (Q : List Ft) (y : Ft) : Option Int := if isLet y then some (letN y) else (Q.findIdx? fun z => decide (z = y)).map fun (i : Nat) => (i : Int) + 7
def varI (Q : List Ft) (y : Ft) : Int := (varO Q y).getD 0
def kidX (Q : List Ft) (x : Ft) : Int := match x with | .leaf _ => 0 | .neg a => varI Q a | .bin _ a _ => varI Q a
def kidY (Q : List Ft) (x : Ft) : Int := match x with | .leaf _ => 0 | .neg _ => 0 | .bin _ _ b => varI Q b
def clsN (Q : List Ft) : Nat → List (List Int)
 | 0 => []
 | n + 1 => clsN Q n ++ (match Q[n]? with | some x => cls (defL x ((n : Int) + 7) (kidX Q x) (kidY Q x)) | none => [])
theorem letter_leaf {c : UInt8} (hc : isLf c = true) (h : isLet (.leaf c) = false) : c = 48 ∨ c = 49 := by
 rcases lf_cases hc with rfl | rfl | rfl | rfl | rfl | rfl | rfl | rfl
 · exact .inl rfl
 · exact .inr rfl
 all_goals (revert h; decide)
theorem isLet_rng {y : Ft} (h : isLet y = true) : 1 ≤ letN y ∧ letN y ≤ 6 := by
 cases y with
 | leaf c =>
  simp only [isLet, Bool.and_eq_true, decide_eq_true_eq] at h
  have g1 : 97 ≤ c.toNat := UInt8.le_iff_toNat_le.1 h.1
  have g2 : c.toNat ≤ 102 := UInt8.le_iff_toNat_le.1 h.2
  show 1 ≤ ((c.toNat - 96 : Nat) : Int) ∧ ((c.toNat - 96 : Nat) : Int) ≤ 6
  omega
 | neg a => cases h
 | bin o a b => cases h
theorem spec_letter_eq {y : Ft} (hw : y.wf = true) : spec_l22Letter (txB y) = some (isLet y) := by
 cases y with
 | leaf c => exact spec_letter1 (bs_tx _)
 | neg a =>
  have hn : ((txB (Ft.neg a)).size : Int) ≠ 1 := by
   have := List.length_pos_iff.2 a.txt_ne
   rw [tx_size]; simp only [Ft.txt, List.length_cons]; omega
  unfold spec_l22Letter
  rw [beq_eq_false_iff_ne.2 hn]; rfl
 | bin o a b =>
  have hn : ((txB (Ft.bin o a b)).size : Int) ≠ 1 := by
   rw [tx_size]; simp only [Ft.txt, List.length_cons, List.length_append, List.length_nil]; omega
  unfold spec_l22Letter
  rw [beq_eq_false_iff_ne.2 hn]; rfl
theorem spec_var_eq {Q : List Ft} (hQ : ∀ x ∈ Q, x.wf = true) (hl : Q.length ≤ 1000) {y : Ft} (hw : y.wf = true) : spec_l22Var (Q.map txB) (txB y) = some (varI Q y) := by
 unfold spec_l22Var varI varO
 rw [spec_letter_eq hw, bd_some]
 cases hq : isLet y with
 | true =>
  rw [cond_true, if_pos rfl]
  cases y with
  | leaf c =>
   have hc : isLf c = true := hw
   have h8 : c ≠ 48 := by rintro rfl; revert hq; decide
   have h9 : c ≠ 49 := by rintro rfl; revert hq; decide
   have hi : ixS (txB (Ft.leaf c)) 0 = some (c.toNat : Int) := ixS_at (k := 0) (by rw [bs_tx]; rfl)
   rw [hi, bd_some, lt_at hc h8 h9]; rfl
  | neg a => cases hq
  | bin o a b => cases hq
 | false =>
  rw [cond_false, if_neg (by simp)]
  have key : ∀ (R : List Ft) (k : Nat), (∀ x ∈ R, x.wf = true) → k + R.length ≤ 1000 →
   forLFrom (S := Unit) (X := Int) (fun i30 y29 s30 => (bif (y29.toList == (txB y).toList) then some (Lp.rt (wr (((i30 : Nat) : Int) + 7))) else some (Lp.nx ()))) (R.map txB) k () = some (match R.findIdx? fun z => decide (z = y) with | some i => .rt (((k + i : Nat) : Int) + 7) | none => .go ()) := by
   intro R
   induction R with
   | nil => intro k _ _; rfl
   | cons x R ih =>
    intro k hR hk
    rw [List.length_cons] at hk
    rw [List.map_cons, List.findIdx?_cons]
    by_cases e : x = y
    · subst e
      rw [forLFrom]
      rw [beq_self_eq_true, cond_true, wr_of _ (by omega) (by omega)]
      simp
    · have e' : ¬ txB x = txB y := fun g => e (txB_inj (hR x (by simp)) hw g)
      rw [forLFrom_nx (s' := ()) (by rw [eqS, decide_eq_false e']; rfl), ih (k + 1) (fun z hz => hR z (List.mem_cons_of_mem _ hz)) (by omega), decide_eq_false e]
      cases R.findIdx? fun z => decide (z = y) with
      | none => rfl
      | some i =>
       simp only [Bool.false_eq_true, if_false, Option.map_some]
       congr 3
       omega
  unfold forL
  rw [key Q 0 hQ (by omega)]
  cases Q.findIdx? fun z => decide (z = y) with
  | none => rfl
  | some i =>
   show some ((((0 + i : Nat) : Int)) + 7) = some ((i : Int) + 7)
   rw [Nat.zero_add]
theorem of_loop {l : List (List Int)} (hl : ∀ c ∈ l, c.length ≤ 3) (hn : l.length ≤ 3) : ∀ (m k : Nat) (o : List (List Int)), k + m = l.length → o.length ≤ k →
 iter (S := ((List (List Int)) × Int)) (X := Empty) (fun s439 => (bif (decide (s439.2 < (len l))) then bd (ix l s439.2) (fun x513 => bd (PF.spec_l2Of x513) (fun r517 => (bif r517.2 then bd (app s439.1 [r517.1]) (fun xs539 => some (Lp.nx (xs539, (wr (s439.2 + 1))))) else some (Lp.nx (s439.1, (wr (s439.2 + 1))))))) else some (Lp.bk (s439.1, s439.2)))) (o, (k : Int))
  = some (.go (o ++ cls (l.drop k), (l.length : Int))) := by
 intro m
 induction m with
 | zero =>
  intro k o hk _
  rw [iter_bk (s' := (o, (k : Int))) (by dsimp only; rw [decide_eq_false (by rw [len_eq]; omega)]; rfl), List.drop_eq_nil_of_le (by omega)]
  have : k = l.length := by omega
  subst this
  simp [cls]
 | succ m ih =>
  intro k o hk ho
  have hlt : k < l.length := by omega
  have h1 : l[k]? = some l[k] := List.getElem?_eq_getElem hlt
  have hd : l.drop k = l[k] :: l.drop (k + 1) := List.drop_eq_getElem_cons hlt
  have h3 := hl _ (List.getElem_mem hlt)
  have hw : wr ((k : Int) + 1) = ((k + 1 : Nat) : Int) := by rw [wr_of _ (by omega) (by omega)]; omega
  have hb : (decide (((k : Nat) : Int) < len l)) = true := by rw [len_eq]; exact decide_eq_true (by omega)
  rw [hd]
  generalize l[k] = c at *
  have hj := spec_l2Of_eq (c := c) (by omega)
  rw [joined_clO] at hj
  unfold cls
  cases hq : clO c with
  | none =>
   rw [hq] at hj; dsimp only at hj
   rw [iter_nx (s' := (o, ((k + 1 : Nat) : Int))) (by dsimp only; rw [hb, cond_true, ix_nat h1, bd_some, hj, bd_some, hw]; rfl), ih (k + 1) o (by omega) (by omega), List.filterMap_cons_none hq]; rfl
  | some s =>
   rw [hq] at hj; dsimp only at hj
   rw [iter_nx (s' := (o ++ [s], ((k + 1 : Nat) : Int))) (by dsimp only; rw [hb, cond_true, ix_nat h1, bd_some, hj, bd_some, hw]; dsimp only; rw [cond_true, app_ok (by simp [lim]; omega), bd_some]), ih (k + 1) (o ++ [s]) (by omega) (by simp; omega), List.filterMap_cons_some hq]
   simp [cls]
def others (P : List Ft) : List Ft := P.filter fun x => !isLet x
structure Kok (Q : List Ft) (n : Nat) (x : Ft) : Prop where
 w : x.wf = true
 X : x.kids ≠ [] → 1 ≤ kidX Q x ∧ kidX Q x < (n : Int) + 7
 Y : x.kids.length = 2 → 1 ≤ kidY Q x ∧ kidY Q x < (n : Int) + 7
theorem spec_defining {Q : List Ft} (hQ : ∀ x ∈ Q, x.wf = true) (hl : Q.length ≤ 80) {x : Ft} {n : Nat} (hn : n ≤ 80) (hx : Kok Q n x) (hz : x.txt.length ≤ 80) (hlet : isLet x = false) :
 spec_l22Defining (Q.map txB) (txB x) ((n : Int) + 7) = some (cls (defL x ((n : Int) + 7) (kidX Q x) (kidY Q x))) := by
 have hw := hx.w
 unfold spec_l22Defining
 rw [spec_l22Parts_eq (F?_tx hw) (by rw [tx_size]; omega), bd_some]
 have w1 : wr (-((n : Int) + 7)) = -((n : Int) + 7) := wr_of _ (by omega) (by omega)
 have fin : ∀ l : List (List Int), (∀ c ∈ l, c.length ≤ 3) → l.length ≤ 3 → cls l = cls (defL x ((n : Int) + 7) (kidX Q x) (kidY Q x)) →
  bdR (iter (S := ((List (List Int)) × Int)) (X := Empty) (fun s439 => (bif (decide (s439.2 < (len l))) then bd (ix l s439.2) (fun x513 => bd (PF.spec_l2Of x513) (fun r517 => (bif r517.2 then bd (app s439.1 [r517.1]) (fun xs539 => some (Lp.nx (xs539, (wr (s439.2 + 1))))) else some (Lp.nx (s439.1, (wr (s439.2 + 1))))))) else some (Lp.bk (s439.1, s439.2)))) ([], 0)) (fun s439 => some s439.1) (fun x439 => nomatch x439) = some (cls (defL x ((n : Int) + 7) (kidX Q x) (kidY Q x))) := fun l h1 h2 e => by
  have := of_loop h1 h2 l.length 0 [] (by omega) (by simp)
  rw [show ((0 : Nat) : Int) = 0 from rfl] at this
  rw [this, bdR_go, List.drop_zero, List.nil_append, e]
 have ne : ∀ y : Ft, (((txB y).toList == (ByteArray.mk #[]).toList)) = false := fun y => by
  rw [eqS]
  refine decide_eq_false fun e => y.txt_ne ?_
  exact tx_inj (e.trans (show ByteArray.mk #[] = tx [] from rfl))
 have em : (((tx []).toList == (ByteArray.mk #[]).toList)) = true := by rw [eqS]; rfl
 cases x with
 | leaf c =>
  have h2 : (ByteArray.mk #[]) = tx [] := rfl
  simp only [Ft.tA, Ft.tB, em, Bool.not_true, cond_false, bdR_go]
  rcases letter_leaf (show isLf c = true from hw) hlet with rfl | rfl
  · have := fin [[-((n : Int) + 7)]] (by simp) (by simp) rfl
    rw [← w1] at this
    exact this
  · exact fin [[(n : Int) + 7]] (by simp) (by simp) rfl
 | neg a =>
  have hX := hx.X (by simp [Ft.kids])
  have hk : kidX Q (Ft.neg a) = varI Q a := rfl
  rw [hk] at hX
  simp only [Ft.tA, Ft.tB, em, ne, Bool.not_true, Bool.not_false, cond_false, cond_true, spec_var_eq hQ (by omega) (show a.wf = true from hw), bd_some, bdR_go]
  have w2 : wr (-varI Q a) = -varI Q a := wr_of _ (by omega) (by omega)
  have := fin [[varI Q a, (n : Int) + 7], [-varI Q a, -((n : Int) + 7)]] (by simp) (by simp) rfl
  rw [← w1, ← w2] at this
  exact this
 | bin o a b =>
  have hX := hx.X (by simp [Ft.kids])
  have hY := hx.Y (by simp [Ft.kids])
  have hk : kidX Q (Ft.bin o a b) = varI Q a := rfl
  have hk2 : kidY Q (Ft.bin o a b) = varI Q b := rfl
  rw [hk] at hX; rw [hk2] at hY
  simp only [Ft.wf, Bool.and_eq_true] at hw
  simp only [Ft.tA, Ft.tB, ne, Bool.not_false, cond_true, spec_var_eq hQ (by omega) hw.1.2, spec_var_eq hQ (by omega) hw.2, bd_some, bdR_go]
  have w2 : wr (-varI Q a) = -varI Q a := wr_of _ (by omega) (by omega)
  have w3 : wr (-varI Q b) = -varI Q b := wr_of _ (by omega) (by omega)
  rcases op_cases hw.1.1 with rfl | rfl | rfl
  · have := fin [[varI Q a, -((n : Int) + 7)], [varI Q b, -((n : Int) + 7)], [-varI Q a, -varI Q b, (n : Int) + 7]] (by simp) (by simp) rfl
    rw [← w1, ← w2, ← w3] at this
    exact this
  · have := fin [[-varI Q a, (n : Int) + 7], [-varI Q b, (n : Int) + 7], [varI Q a, varI Q b, -((n : Int) + 7)]] (by simp) (by simp) rfl
    rw [← w1, ← w2, ← w3] at this
    exact this
  · have := fin [[varI Q a, (n : Int) + 7], [-varI Q b, (n : Int) + 7], [-varI Q a, varI Q b, -((n : Int) + 7)]] (by simp) (by simp) rfl
    rw [← w1, ← w2, ← w3] at this
    exact this
end Go.PF
namespace Go.PF
open Go.Pu
theorem find_app {L R : List Ft} {y : Ft} (h : y ∈ L) : ∃ i : Nat, i < L.length ∧ L.findIdx? (fun z => decide (z = y)) = some i ∧ (L ++ R).findIdx? (fun z => decide (z = y)) = some i := by
 induction L with
 | nil => cases h
 | cons x L ih =>
  rw [List.cons_append, List.findIdx?_cons, List.findIdx?_cons]
  by_cases e : x = y
  · rw [decide_eq_true e, if_pos rfl, if_pos rfl]; exact ⟨0, by simp, rfl, rfl⟩
  · obtain ⟨i, h1, h2, h3⟩ := ih ((List.mem_cons.1 h).resolve_left (fun g => e g.symm))
    rw [decide_eq_false e, h2, h3]
    exact ⟨i + 1, by simp; omega, rfl, rfl⟩
theorem find_none {L : List Ft} {y : Ft} (h : y ∉ L) : L.findIdx? (fun z => decide (z = y)) = none := by
 induction L with
 | nil => rfl
 | cons x L ih =>
  rw [List.findIdx?_cons, decide_eq_false (fun e => h (by rw [e]; simp)), ih fun g => h (List.mem_cons_of_mem _ g)]; rfl
theorem find_self {L : List Ft} {y : Ft} (h : y ∉ L) : (L ++ [y]).findIdx? (fun z => decide (z = y)) = some L.length := by
 induction L with
 | nil => rw [List.nil_append, List.findIdx?_cons, decide_eq_true rfl]; rfl
 | cons x L ih =>
  rw [List.cons_append, List.findIdx?_cons, decide_eq_false (fun e => h (by rw [e]; simp)), ih fun g => h (List.mem_cons_of_mem _ g)]; rfl
theorem var_kid {L R : List Ft} {y : Ft} (h : isLet y = true ∨ y ∈ L) : varO (L ++ R) y = varO L y ∧ ∃ v, varO L y = some v ∧ 1 ≤ v ∧ v < (L.length : Int) + 7 := by
 unfold varO
 cases hq : isLet y with
 | true =>
  rw [if_pos rfl, if_pos rfl]
  have := isLet_rng hq
  exact ⟨rfl, _, rfl, this.1, by omega⟩
 | false =>
  rw [if_neg (by simp), if_neg (by simp)]
  rcases h with h | h
  · rw [h] at hq; cases hq
  · obtain ⟨i, h1, h2, h3⟩ := find_app (R := R) h
    rw [h2, h3]
    exact ⟨rfl, (i : Int) + 7, rfl, by omega, by omega⟩
theorem others_app (A B : List Ft) : others (A ++ B) = others A ++ others B := List.filter_append ..
theorem others_cons {x : Ft} (h : isLet x = false) (B : List Ft) : others (x :: B) = x :: others B := by unfold others; rw [List.filter_cons_of_pos (by simp [h])]
theorem others_skip {x : Ft} (h : isLet x = true) (B : List Ft) : others (x :: B) = others B := by unfold others; rw [List.filter_cons_of_neg (by simp [h])]
theorem others_mem {A : List Ft} {y : Ft} (h : y ∈ A) : isLet y = true ∨ y ∈ others A := by
 cases hq : isLet y with
 | true => exact .inl rfl
 | false => exact .inr (List.mem_filter.2 ⟨h, by simp [hq]⟩)
theorem Parts.kok {P A B : List Ft} {x : Ft} (hP : Parts P) (e : P = A ++ x :: B) : Kok (others P) (others A).length x ∧ (∀ y ∈ x.kids, isLet y = true ∨ y ∈ others A) := by
 have hk : ∀ y ∈ x.kids, isLet y = true ∨ y ∈ others A := fun y hy => others_mem (hP.lad A x B e y hy)
 have val : ∀ y ∈ x.kids, 1 ≤ varI (others P) y ∧ varI (others P) y < ((others A).length : Int) + 7 := fun y hy => by
  obtain ⟨h1, v, h2, h3, h4⟩ := var_kid (R := others (x :: B)) (hk y hy)
  unfold varI
  rw [e, others_app, h1, h2]
  exact ⟨h3, h4⟩
 refine ⟨⟨hP.wf x (by rw [e]; simp), fun h => ?_, fun h => ?_⟩, hk⟩
 · cases x with
   | leaf c => simp [Ft.kids] at h
   | neg a => exact val a (by simp [Ft.kids])
   | bin o a b => exact val a (by simp [Ft.kids])
 · cases x with
   | leaf c => simp [Ft.kids] at h
   | neg a => simp [Ft.kids] at h
   | bin o a b => exact val b (by simp [Ft.kids])
theorem others_at : ∀ {P : List Ft} {n : Nat}, n < (others P).length → ∃ A x B, P = A ++ x :: B ∧ isLet x = false ∧ (others A).length = n
 | [], n, h => by simp [others] at h
 | z :: P, n, h => by
  cases hq : isLet z with
  | true =>
   rw [others_skip hq] at h
   obtain ⟨A, x, B, e, h1, h2⟩ := others_at h
   exact ⟨z :: A, x, B, by rw [e]; rfl, h1, by rw [others_skip hq]; exact h2⟩
  | false =>
   cases n with
   | zero => exact ⟨[], z, P, rfl, hq, rfl⟩
   | succ n =>
    rw [others_cons hq, List.length_cons] at h
    obtain ⟨A, x, B, e, h1, h2⟩ := others_at (P := P) (n := n) (by omega)
    exact ⟨z :: A, x, B, by rw [e]; rfl, h1, by rw [others_cons hq, List.length_cons, h2]⟩
theorem others_get {A B : List Ft} {x : Ft} (h : isLet x = false) : (others (A ++ x :: B))[(others A).length]? = some x := by
 rw [others_app, others_cons h, List.getElem?_append_right (Nat.le_refl _), Nat.sub_self]; rfl
theorem defL_len (x : Ft) (v X Y : Int) : (defL x v X Y).length ≤ 3 := by
 cases x with
 | leaf c =>
  unfold defL; dsimp only
  by_cases h : c = 48
  · rw [if_pos h]; simp
  · rw [if_neg h]; simp
 | neg a => simp [defL]
 | bin o a b =>
  unfold defL; dsimp only
  by_cases h : o = 38
  · rw [if_pos h]; simp
  rw [if_neg h]
  by_cases h : o = 124
  · rw [if_pos h]; simp
  · rw [if_neg h]; simp
theorem cls_len (l : List (List Int)) : (cls l).length ≤ l.length := List.length_filterMap_le ..
theorem clsN_len (Q : List Ft) : ∀ n, (clsN Q n).length ≤ 3 * n
 | 0 => by simp [clsN]
 | n + 1 => by
  have := clsN_len Q n
  rw [clsN, List.length_append]
  cases Q[n]? with
  | none => simp; omega
  | some x =>
   have h1 := cls_len (defL x ((n : Int) + 7) (kidX Q x) (kidY Q x))
   have h2 := defL_len x ((n : Int) + 7) (kidX Q x) (kidY Q x)
   dsimp only; omega
def defC (Q : List Ft) (t : Ft) : Cnf × Bool := if 6 < Q.length then (⟨0, []⟩, false) else (⟨6 + (Q.length : Int), clsN Q Q.length ++ [[varI Q t]]⟩, true)
theorem Gd.defS {s : ByteArray} {t : Ft} (h : Gd s t) {P : List Ft} (p2 : P.map txB = partT t) (hP : Parts P) : spec_DefiningCnf s = some (defC (others P) t) := by
 have h80 := hP.len
 have hQl : (others P).length ≤ P.length := List.length_filter_le ..
 have hQw : ∀ x ∈ others P, x.wf = true := fun x hx => hP.wf x (List.mem_filter.1 hx).1
 unfold spec_DefiningCnf
 rw [h.good, bd_some, Bool.not_true, cond_false, h.txt, spec_all_eq h.wf h.le80, bd_some, ← p2]
 refine forL_use (R := fun o => o = some (defC (others P) t)) (fun i s => s = (others (P.take i)).map txB) rfl (fun i y s hy hs => ?_) (fun s' hI => ?_)
 · subst hs
   have hi : i < P.length := by have := (List.getElem?_eq_some_iff.1 hy).1; rwa [List.length_map] at this
   have h1 : P[i]? = some P[i] := List.getElem?_eq_getElem hi
   have hy' : y = txB P[i] := by rw [List.getElem?_map, h1] at hy; cases hy; rfl
   have hl2 : (others (P.take i)).length ≤ (P.take i).length := List.length_filter_le ..
   rw [List.length_take] at hl2
   have e : P.take (i + 1) = P.take i ++ [P[i]] := by rw [List.take_add_one, h1]; rfl
   rw [hy', spec_letter_eq (hP.wf _ (List.getElem_mem hi)), bd_some, e, others_app]
   cases hq : isLet P[i] with
   | true => rw [others_skip hq]; exact ⟨_, rfl, by simp [others]⟩
   | false =>
    rw [others_cons hq, Bool.not_false, cond_true, app_ok (by simp [lim]; omega), bd_some]
    exact ⟨_, rfl, by simp [others]⟩
 · rw [List.take_of_length_le (by rw [List.length_map]; exact Nat.le_refl _)] at hI
   subst hI
   have hlen : Go.Pu.len ((others P).map txB) = ((others P).length : Int) := by rw [len_eq, List.length_map]
   unfold defC
   by_cases h6 : 6 < (others P).length
   · rw [decide_eq_true (by rw [hlen]; omega), cond_true, if_pos h6]
   · rw [decide_eq_false (by rw [hlen]; omega), cond_false, if_neg h6]
     have key : ∀ (m n : Nat), n + m = (others P).length →
      iter (S := ((List (List Int)) × Int)) (X := Empty) (fun s196 => (bif (decide (s196.2 < (Go.Pu.len ((others P).map txB)))) then bd (ix ((others P).map txB) s196.2) (fun x153302 => bd (PF.spec_l22Defining ((others P).map txB) x153302 (wr (s196.2 + 7))) (fun r165301 => bd (app s196.1 r165301) (fun xs168296 => some (Lp.nx (xs168296, (wr (s196.2 + 1))))))) else some (Lp.bk (s196.1, s196.2)))) (clsN (others P) n, (n : Int))
       = some (.go (clsN (others P) (others P).length, ((others P).length : Int))) := by
      intro m
      induction m with
      | zero =>
       intro n hn
       have : n = (others P).length := by omega
       subst this
       exact iter_bk (by dsimp only; rw [hlen, decide_eq_false (by omega)]; rfl)
      | succ m ih =>
       intro n hn
       obtain ⟨A, x, B, e, h1, h2⟩ := others_at (P := P) (n := n) (by omega)
       have hk := (hP.kok e).1
       have hg : (others P)[n]? = some x := by rw [e, ← h2]; exact others_get h1
       have hx : x ∈ t.subs := by
        have : txB x ∈ partT t := by rw [← p2]; exact List.mem_map.2 ⟨x, by rw [e]; simp, rfl⟩
        obtain ⟨z, hz, e'⟩ := partT_mem.1 this
        rw [← txB_inj (Ft.subs_wf h.wf z hz) hk.w e']; exact hz
       have hz : x.txt.length ≤ 80 := by have := (Ft.subs_txt hx).1; have := h.le80; omega
       rw [h2] at hk
       have hd := spec_defining hQw (by omega) (by omega) hk hz h1
       have w7 : wr ((n : Int) + 7) = (n : Int) + 7 := wr_of _ (by omega) (by omega)
       have w1 : wr ((n : Int) + 1) = ((n + 1 : Nat) : Int) := by rw [wr_of _ (by omega) (by omega)]; omega
       have c1 := clsN_len (others P) n
       have c2 := cls_len (defL x ((n : Int) + 7) (kidX (others P) x) (kidY (others P) x))
       have c3 := defL_len x ((n : Int) + 7) (kidX (others P) x) (kidY (others P) x)
       rw [iter_nx (s' := (clsN (others P) (n + 1), ((n + 1 : Nat) : Int))) ?_]
       · exact ih (n + 1) (by omega)
       · dsimp only
         rw [hlen, decide_eq_true (by omega), cond_true, ix_nat (x := txB x) (by rw [List.getElem?_map, hg]; rfl), bd_some, w7, hd, bd_some, app_ok (by unfold lim; omega), bd_some, w1, clsN, hg]
     have k0 := key (others P).length 0 (by omega)
     rw [show ((0 : Nat) : Int) = 0 from rfl] at k0
     have c1 := clsN_len (others P) (others P).length
     show bdR (iter _ (clsN (others P) 0, 0)) _ _ = _
     rw [k0, bdR_go]
     dsimp only
     rw [spec_var_eq hQw (by omega) h.wf, bd_some, app_ok (by simp [lim]; omega), bd_some, hlen, wr_of _ (by omega) (by omega)]
end Go.PF
namespace Go.PF
open Go.Pu
def TabV (m : List (ByteArray × Int)) (L : List Ft) : Prop := ∀ y : Ft, y.wf = true → mget m (txB y) = varO L y
def letM : List (ByteArray × Int) := mput (mput (mput (mput (mput (mput [] (tx [97]) 1) (tx [98]) 2) (tx [99]) 3) (tx [100]) 4) (tx [101]) 5) (tx [102]) 6
theorem letM_tab : TabV letM [] := by
 intro y hw
 unfold letM
 rw [mget_putB, mget_putB, mget_putB, mget_putB, mget_putB, mget_putB]
 have e : ∀ c : UInt8, isLf c = true → (txB y = tx [c] ↔ y = .leaf c) := fun c hc =>
  ⟨fun h => txB_inj hw (show (Ft.leaf c).wf = true from hc) h, fun h => by rw [h]; rfl⟩
 simp only [e 97 (by decide), e 98 (by decide), e 99 (by decide), e 100 (by decide), e 101 (by decide), e 102 (by decide)]
 cases y with
 | leaf c =>
  rcases lf_cases (show isLf c = true from hw) with rfl | rfl | rfl | rfl | rfl | rfl | rfl | rfl <;> rfl
 | neg a => simp [varO, isLet, mget]
 | bin o a b => simp [varO, isLet, mget]
theorem let_loop : iter (S := ((List (ByteArray × Int)) × Int)) (X := Empty) (fun s64 => (bif (PF.impl_isLetter s64.2) then bd (chrS s64.2) (fun z126 => some (Lp.nx ((mput s64.1 z126 (wr ((wrk true 64 (wrk false 8 (s64.2 - 97))) + 1))), (wrk false 8 (s64.2 + 1))))) else some (Lp.bk (s64.1, s64.2)))) (([] : List (ByteArray × Int)), 97) = some (.go (letM, 103)) := by
 have c : ∀ k : UInt8, k < 128 → chrS (k.toNat : Int) = some (tx [k]) := fun k h => chrS_ok h
 have step : ∀ (m : List (ByteArray × Int)) (k : UInt8) (v n : Int), k < 128 → impl_isLetter (k.toNat : Int) = true → wr (wrk true 64 (wrk false 8 ((k.toNat : Int) - 97)) + 1) = v → wrk false 8 ((k.toNat : Int) + 1) = n →
  (bif (PF.impl_isLetter (k.toNat : Int)) then bd (chrS (k.toNat : Int)) (fun z126 => some (Lp.nx ((mput m z126 (wr ((wrk true 64 (wrk false 8 ((k.toNat : Int) - 97))) + 1))), (wrk false 8 ((k.toNat : Int) + 1))))) else some (Lp.bk (m, (k.toNat : Int)))) = (some (.nx (mput m (tx [k]) v, n)) : Option (Lp (List (ByteArray × Int) × Int) Empty)) := fun m k v n h h1 h2 h3 => by
  rw [h1, cond_true, c k h, bd_some, h2, h3]
 unfold letM
 rw [iter_nx (step [] 97 1 98 (by decide) (by decide) (by decide) (by decide)),
  iter_nx (step _ 98 2 99 (by decide) (by decide) (by decide) (by decide)),
  iter_nx (step _ 99 3 100 (by decide) (by decide) (by decide) (by decide)),
  iter_nx (step _ 100 4 101 (by decide) (by decide) (by decide) (by decide)),
  iter_nx (step _ 101 5 102 (by decide) (by decide) (by decide) (by decide)),
  iter_nx (step _ 102 6 103 (by decide) (by decide) (by decide) (by decide))]
 exact iter_bk rfl
theorem in_loop {l : List (List Int)} (hl : ∀ c ∈ l, c.length ≤ 3) (hn : l.length ≤ 3) (o : List (List Int)) (ho : o.length ≤ 1000) :
 ∃ R, forR (S := (List (List Int))) (X := Empty) 0 l.length (fun i208045 s208045 => bd (ix l ((i208045 : Nat) : Int)) (fun x208263 => bd (PF.impl_clause x208263) (fun r208267 => (bif r208267.2 then bd (app s208045 [r208267.1]) (fun xs208289 => some (Lp.nx xs208289)) else some (Lp.nx s208045))))) o = some (.go (o ++ R)) ∧ R.length ≤ 3 ∧ (∀ V : Int, V ≤ 12 → (∀ c ∈ l, Lok V c) → R = cls l) := by
 obtain ⟨s', e, R, hs, h1, h2⟩ := forR_invG (m := l.length) (X := Empty) (body := fun i208045 s208045 => bd (ix l ((i208045 : Nat) : Int)) (fun x208263 => bd (PF.impl_clause x208263) (fun r208267 => (bif r208267.2 then bd (app s208045 [r208267.1]) (fun xs208289 => some (Lp.nx xs208289)) else some (Lp.nx s208045)))))
  (fun i s => ∃ R, s = o ++ R ∧ R.length ≤ i ∧ (∀ V : Int, V ≤ 12 → (∀ c ∈ l, Lok V c) → R = cls (l.take i))) (s0 := o) ⟨[], by simp, by simp, fun V _ _ => rfl⟩ (fun i s hi hs => by
   obtain ⟨R, rfl, r1, r2⟩ := hs
   have g1 : l[i]? = some l[i] := List.getElem?_eq_getElem hi
   have g3 := hl _ (List.getElem_mem hi)
   have e : l.take (i + 1) = l.take i ++ [l[i]] := by rw [List.take_add_one, g1]; rfl
   have hm := List.getElem_mem hi
   rw [e]
   generalize l[i] = c at *
   have hc := impl_clause_eq (c := c) (by unfold lim; omega)
   generalize hq : (let t := compactL (c.mergeSort (leF fun x0 x1 => PF.impl_compareLiterals x0 x1)); bif noComp t then (t, true) else ([], false)) = q at hc
   have tie : ∀ V : Int, V ≤ 12 → (∀ c ∈ l, Lok V c) → q = joined [] c := fun V h12 hL => by
    obtain ⟨x, b, rfl, b1, b2, b3⟩ := hL c hm
    obtain ⟨sx, sb⟩ := Lok.sm h12 b2
    have := impl_clause_one b1 sx sb (by omega)
    rw [hc] at this
    exact Option.some.inj this
   obtain ⟨q1, q2⟩ := q
   rw [ix_nat g1, bd_some, hc, bd_some]
   cases q2 with
   | true =>
    rw [cond_true, app_ok (by simp [lim]; omega), bd_some]
    refine ⟨_, rfl, R ++ [q1], by simp, by simp; omega, fun V h12 hL => ?_⟩
    have ht := tie V h12 hL
    rw [joined_clO] at ht
    unfold cls at r2 ⊢
    rw [List.filterMap_append, ← r2 V h12 hL]
    cases hc2 : clO c with
    | none => rw [hc2] at ht; cases ht
    | some z =>
     rw [hc2] at ht
     simp only [Prod.mk.injEq, and_true] at ht
     rw [List.filterMap_cons_some hc2, ht]; rfl
   | false =>
    rw [cond_false]
    refine ⟨_, rfl, R, rfl, by omega, fun V h12 hL => ?_⟩
    have ht := tie V h12 hL
    rw [joined_clO] at ht
    unfold cls at r2 ⊢
    rw [List.filterMap_append, ← r2 V h12 hL]
    cases hc2 : clO c with
    | none => rw [List.filterMap_cons_none hc2]; simp
    | some z => rw [hc2] at ht; simp at ht)
 subst hs
 refine ⟨R, e, by omega, fun V h12 hL => ?_⟩
 rw [h2 V h12 hL, List.take_of_length_le (Nat.le_refl _)]
theorem defL_3 (x : Ft) (v X Y : Int) : ∀ c ∈ defL x v X Y, c.length ≤ 3 := by
 intro c hc
 cases x with
 | leaf k =>
  unfold defL at hc; dsimp only at hc
  by_cases e : k = 48
  · rw [if_pos e] at hc; simp only [List.mem_singleton] at hc; rw [hc]; simp
  · rw [if_neg e] at hc; simp only [List.mem_singleton] at hc; rw [hc]; simp
 | neg a =>
  simp only [defL, List.mem_cons, List.not_mem_nil, or_false] at hc
  rcases hc with rfl | rfl <;> simp
 | bin o a b =>
  unfold defL at hc; dsimp only at hc
  by_cases e : o = 38
  · rw [if_pos e] at hc; simp only [List.mem_cons, List.not_mem_nil, or_false] at hc; rcases hc with rfl | rfl | rfl <;> simp
  rw [if_neg e] at hc
  by_cases e : o = 124
  · rw [if_pos e] at hc; simp only [List.mem_cons, List.not_mem_nil, or_false] at hc; rcases hc with rfl | rfl | rfl <;> simp
  · rw [if_neg e] at hc; simp only [List.mem_cons, List.not_mem_nil, or_false] at hc; rcases hc with rfl | rfl | rfl <;> simp
theorem defined_eq {x : Ft} (hw : x.wf = true) (hl : isLet x = false) {v X Y : Int} (hv : 0 ≤ v ∧ v ≤ 1000) (hX : 0 ≤ X ∧ X ≤ 1000) (hY : 0 ≤ Y ∧ Y ≤ 1000) : impl_defined x.opI v X Y = defL x v X Y := by
 have w1 : wr (-v) = -v := wr_of _ (by omega) (by omega)
 have w2 : wr (-X) = -X := wr_of _ (by omega) (by omega)
 have w3 : wr (-Y) = -Y := wr_of _ (by omega) (by omega)
 unfold impl_defined
 rw [w1, w2, w3]
 cases x with
 | leaf c => rcases letter_leaf (show isLf c = true from hw) hl with rfl | rfl <;> rfl
 | neg a => rfl
 | bin o a b =>
  simp only [Ft.wf, Bool.and_eq_true] at hw
  rcases op_cases hw.1.1 with rfl | rfl | rfl <;> rfl
theorem isLetter_opI {x : Ft} (hw : x.wf = true) : impl_isLetter x.opI = isLet x := by
 cases x with
 | leaf c => exact isLetter_eq c
 | neg a => rfl
 | bin o a b =>
  simp only [Ft.wf, Bool.and_eq_true] at hw
  rcases op_cases hw.1.1 with rfl | rfl | rfl <;> rfl
theorem TabV.put {m : List (ByteArray × Int)} {L : List Ft} (h : TabV m L) {x : Ft} (hx : x.wf = true) (hl : isLet x = false) (hn : x ∉ L) : TabV (mput m (txB x) ((L.length : Int) + 7)) (L ++ [x]) := fun y hy => by
 rw [mget_putB]
 by_cases e : y = x
 · subst e
   rw [if_pos rfl]
   unfold varO
   rw [hl, if_neg (by simp), find_self hn]; rfl
 · rw [if_neg fun e' => e (txB_inj hy hx e'), h y hy]
   by_cases hm : isLet y = true ∨ y ∈ L
   · exact (var_kid hm).1.symm
   · unfold varO
     have h1 : isLet y = false := by cases q : isLet y with
      | true => exact absurd (.inl q) hm
      | false => rfl
     have h2 : y ∉ L := fun g => hm (.inr g)
     rw [h1, if_neg (by simp), if_neg (by simp), find_none h2, find_none (by simp [h2, e])]
end Go.PF
namespace Go.PF
open Go.Pu
noncomputable def bodyD (m : List (ByteArray × Int)) (C : List (List Int)) (V : Int) (x : Ft) (l : List (List Int)) : Option (Lp (List (List Int) × List (ByteArray × Int) × Int) Empty) :=
 bd (chk (Go.Pu.len l)) (fun m208044 => bdR (forR (S := (List (List Int))) (X := Empty) 0 m208044 (fun i208045 s208045 => bd (ix l ((i208045 : Nat) : Int)) (fun x208263 => bd (PF.impl_clause x208263) (fun r208267 => (bif r208267.2 then bd (app s208045 [r208267.1]) (fun xs208289 => some (Lp.nx xs208289)) else some (Lp.nx s208045))))) C) (fun s208045 => some (Lp.nx (s208045, (mput m (txB x) V), V))) (fun x208045 => nomatch x208045))
theorem bodyD_eq {m : List (ByteArray × Int)} {C : List (List Int)} (hC : C.length ≤ 1000) {V : Int} {x : Ft} {l : List (List Int)} (hl : ∀ c ∈ l, c.length ≤ 3) (hn : l.length ≤ 3) :
 ∃ R, bodyD m C V x l = some (.nx (C ++ R, mput m (txB x) V, V)) ∧ R.length ≤ 3 ∧ (∀ W : Int, W ≤ 12 → (∀ c ∈ l, Lok W c) → R = cls l) := by
 obtain ⟨R, e, h1, h2⟩ := in_loop hl hn C hC
 refine ⟨R, ?_, h1, h2⟩
 unfold bodyD
 have hc : chk (Go.Pu.len l) = some l.length := by unfold chk; rw [len_eq, if_pos (by omega), Int.toNat_natCast]
 rw [hc, bd_some, e, bdR_go]
theorem Gd.defI {s : ByteArray} {t : Ft} (h : Gd s t) {P : List Ft} (p1 : impl_formula_parts t.fo = some (P.map Ft.fo)) (hP : Parts P) (hlast : ∃ Q, P = Q ++ [t]) : impl_DefiningCnf s = some (defC (others P) t) := by
 have h80 := hP.len
 have hQl : (others P).length ≤ P.length := List.length_filter_le ..
 unfold impl_DefiningCnf
 rw [h.parse, bd_some]
 dsimp only
 rw [Bool.not_true, cond_false, let_loop, bdR_go]
 dsimp only
 rw [p1, bd_some]
 have hc : chk (Go.Pu.len (P.map Ft.fo)) = some P.length := by unfold chk; rw [len_eq, List.length_map, if_pos (by omega), Int.toNat_natCast]
 rw [hc, bd_some]
 refine forR_use (R := fun o => o = some (defC (others P) t)) (fun i (s : List (List Int) × List (ByteArray × Int) × Int) => s.2.2 = ((others (P.take i)).length : Int) + 6 ∧ TabV s.2.1 (others (P.take i)) ∧ s.1.length ≤ 3 * i ∧ ((others (P.take i)).length ≤ 6 → s.1 = clsN (others P) (others (P.take i)).length)) ⟨rfl, letM_tab, by simp, fun _ => rfl⟩ (fun i s hi hs => ?_) (fun s' hI => ?_)
 · obtain ⟨C, m, V⟩ := s
   obtain ⟨hV, hm, hC, hCl⟩ := hs
   dsimp only at hV hm hC hCl
   subst hV
   have h1 : P[i]? = some P[i] := List.getElem?_eq_getElem hi
   have hw := hP.wf _ (List.getElem_mem hi)
   have e : P.take (i + 1) = P.take i ++ [P[i]] := by rw [List.take_add_one, h1]; rfl
   have hd : P = P.take i ++ P[i] :: P.drop (i + 1) := by rw [← List.drop_eq_getElem_cons, List.take_append_drop]
   obtain ⟨hkok, hkids⟩ := hP.kok hd
   have hnew : P[i] ∉ others (P.take i) := by
    have nd := hP.nd
    rw [hd] at nd
    intro hmem
    exact (List.nodup_append.1 nd).2.2 (P[i]) (List.mem_filter.1 hmem).1 (P[i]) List.mem_cons_self rfl
   have hLl : (others (P.take i)).length ≤ i := by
    have := List.length_filter_le (fun x => !isLet x) (P.take i)
    rw [List.length_take] at this
    show (List.filter (fun x => !isLet x) (P.take i)).length ≤ i
    omega
   have hget : isLet P[i] = false → (others P)[(others (P.take i)).length]? = some P[i] := fun hq => by
    have := others_get (A := P.take i) (B := P.drop (i + 1)) hq
    rwa [← hd] at this
   have hpre : ∃ B, others P = others (P.take i) ++ B := ⟨others (P[i] :: P.drop (i + 1)), by rw [← others_app, ← hd]⟩
   rw [e, others_app]
   have hixx : ix (P.map Ft.fo) ((i : Nat) : Int) = some (P[i]).fo := ix_nat (by rw [List.getElem?_map, h1]; rfl)
   rw [hixx, bd_some]
   clear hixx hd e
   generalize P[i] = x at *
   generalize others (P.take i) = L at *
   obtain ⟨n, n1, n2, n3⟩ := x.get_eq
   have hopx : impl_isLetter n.op = isLet x := by rw [n2]; exact isLetter_opI hw
   have hwV : wr ((L.length : Int) + 6 + 1) = (L.length : Int) + 7 := by rw [wr_of _ (by omega) (by omega)]; omega
   cases hq : isLet x with
   | true =>
    rw [n1, bd_some, hopx, hq, cond_true]
    rw [others_skip hq, show others ([] : List Ft) = [] from rfl, List.append_nil]
    exact ⟨_, rfl, rfl, hm, by dsimp only; omega, hCl⟩
   | false =>
    rw [others_cons hq, show others ([] : List Ft) = [] from rfl, List.length_append, List.length_singleton]
    have hm' : TabV (mput m (txB x) ((L.length : Int) + 7)) (L ++ [x]) := hm.put hw hq hnew
    -- what the map tells of the parts below
    obtain ⟨B, hB⟩ := hpre
    have kid : ∀ y ∈ x.kids, y.wf = true → ∃ v : Int, (mget (mput m (txB x) ((L.length : Int) + 7)) (txB y)).getD 0 = v ∧ v = varI (others P) y ∧ 0 ≤ v ∧ v ≤ 1000 := fun y hy hyw => by
     obtain ⟨g1, v, g2, g3, g4⟩ := var_kid (R := [x]) (hkids y hy)
     obtain ⟨g5, _⟩ := var_kid (R := B) (hkids y hy)
     refine ⟨v, by rw [hm' y hyw, g1, g2]; rfl, ?_, by omega, by omega⟩
     unfold varI
     rw [hB, g5, g2]; rfl
    have fin : ∀ X Y : Int, 0 ≤ X → X ≤ 1000 → 0 ≤ Y → Y ≤ 1000 → (L.length ≤ 5 → X = kidX (others P) x ∧ Y = kidY (others P) x) →
     ∃ s', bodyD m C ((L.length : Int) + 7) x (impl_defined x.opI ((L.length : Int) + 7) X Y) = some (.nx s') ∧ s'.2.2 = ((L.length + 1 : Nat) : Int) + 6 ∧ TabV s'.2.1 (L ++ [x]) ∧ s'.1.length ≤ 3 * (i + 1) ∧ (L.length + 1 ≤ 6 → s'.1 = clsN (others P) (L.length + 1)) := fun X Y hX0 hX1 hY0 hY1 hXY => by
     rw [defined_eq hw hq (by omega) ⟨hX0, hX1⟩ ⟨hY0, hY1⟩]
     obtain ⟨R, r1, r2, r3⟩ := bodyD_eq (m := m) (C := C) (by omega) (V := (L.length : Int) + 7) (x := x) (defL_3 x ((L.length : Int) + 7) X Y) (defL_len x ((L.length : Int) + 7) X Y)
     refine ⟨_, r1, by dsimp only; omega, hm', by dsimp only; rw [List.length_append]; omega, fun h6 => ?_⟩
     obtain ⟨e1, e2⟩ := hXY (by omega)
     subst e1; subst e2
     have hvok : Vok x ((L.length : Int) + 7) (kidX (others P) x) (kidY (others P) x) := ⟨by omega, fun g => by have := hkok.X g; omega, fun g => by have := hkok.Y g; omega⟩
     dsimp only
     rw [hCl (by omega), r3 ((L.length : Int) + 7) (by omega) (defL_ok hvok), clsN, hget hq]
    cases x with
    | leaf c =>
     have := fin 0 0 (by omega) (by omega) (by omega) (by omega) (fun _ => ⟨rfl, rfl⟩)
     rw [← hwV] at this
     have hl1 : impl_isLetter (c.toNat : Int) = false := by have := isLetter_opI hw; rw [hq] at this; exact this
     show ∃ s', (bif impl_isLetter (c.toNat : Int) then _ else _) = _ ∧ _
     rw [hl1, cond_false]
     exact this
    | neg a =>
     obtain ⟨v, v1, v2, v3, v4⟩ := kid a (by simp [Ft.kids]) hw
     have := fin v 0 v3 v4 (by omega) (by omega) (fun _ => ⟨v2, rfl⟩)
     obtain ⟨na, a1, _, a3⟩ := a.get_eq
     rw [← hwV] at this v1
     have a0 : a.fo.isNil = false := by cases a <;> rfl
     show ∃ s', bdR (bif !a.fo.isNil then bd a.fo.get (fun y => some (Rs.go ((Ft.neg a).fo, (mget (mput m (txB (Ft.neg a)) (wr ((L.length : Int) + 6 + 1))) y.text).getD 0))) else _) _ _ = _ ∧ _
     rw [a0, Bool.not_false, cond_true, a1, bd_some, bdR_go, a3]
     rw [show tx a.txt = txB a from rfl, v1]
     dsimp only
     rw [show (Ft.neg a).fo.get = some ⟨126, a.fo, Fo.nil, txB (Ft.neg a)⟩ from rfl, bd_some]
     simp only [show Fo.nil.isNil = true from rfl, Bool.not_true, cond_false, bdR_go]
     rw [show (Ft.neg a).fo.get = some ⟨126, a.fo, Fo.nil, txB (Ft.neg a)⟩ from rfl, bd_some]
     unfold bodyD at this
     exact this
    | bin o a b =>
     have hw' := hw
     simp only [Ft.wf, Bool.and_eq_true] at hw'
     obtain ⟨v, v1, v2, v3, v4⟩ := kid a (by simp [Ft.kids]) hw'.1.2
     obtain ⟨u, u1, u2, u3, u4⟩ := kid b (by simp [Ft.kids]) hw'.2
     have := fin v u v3 v4 u3 u4 (fun _ => ⟨v2, u2⟩)
     obtain ⟨na, a1, _, a3⟩ := a.get_eq
     obtain ⟨nb, b1, _, b3⟩ := b.get_eq
     rw [← hwV] at this v1 u1
     have a0 : a.fo.isNil = false := by cases a <;> rfl
     have b0 : b.fo.isNil = false := by cases b <;> rfl
     have hl1 : impl_isLetter (o.toNat : Int) = false := by have := isLetter_opI hw; rw [hq] at this; exact this
     show ∃ s', (bif impl_isLetter (o.toNat : Int) then _ else bdR (bif !a.fo.isNil then bd a.fo.get (fun y => some (Rs.go ((Ft.bin o a b).fo, (mget (mput m (txB (Ft.bin o a b)) (wr ((L.length : Int) + 6 + 1))) y.text).getD 0))) else _) _ _) = _ ∧ _
     rw [hl1, cond_false, a0, Bool.not_false, cond_true, a1, bd_some, bdR_go, a3]
     rw [show tx a.txt = txB a from rfl, v1]
     show ∃ s', bdR (bif !b.fo.isNil then bd b.fo.get (fun y => some (Rs.go ((Ft.bin o a b).fo, (mget (mput m (txB (Ft.bin o a b)) (wr ((L.length : Int) + 6 + 1))) y.text).getD 0))) else _) _ _ = _ ∧ _
     rw [b0, Bool.not_false, cond_true, b1, bd_some, bdR_go, b3]
     rw [show tx b.txt = txB b from rfl, u1]
     exact this
 · rw [List.take_of_length_le (Nat.le_refl _)] at hI
   obtain ⟨i1, i2, i3, i4⟩ := hI
   unfold defC
   rw [i1]
   by_cases h6 : 6 < (others P).length
   · rw [decide_eq_true (by omega), cond_true, if_pos h6]
   · rw [decide_eq_false (by omega), cond_false, if_neg h6, h.txt, i2 t h.wf, i4 (by omega)]
     have c1 := clsN_len (others P) (others P).length
     rw [app_ok (by simp [lim]; omega), bd_some, show (varO (others P) t).getD 0 = varI (others P) t from rfl]
     congr 3
     omega
end Go.PF
namespace Go.PF
open Go.Pu
theorem Lok.mono {V W : Int} {c : List Int} (h : Lok V c) (hVW : V ≤ W) : Lok W c := by
 obtain ⟨x, b, e, h1, h2, h3⟩ := h
 exact ⟨x, b, e, h1, fun l hl => by have := h2 l hl; exact ⟨by omega, by omega, this.2.2⟩, h3⟩
theorem val_mod (n : Nat) : ∀ x : Ft, x.wf = true → x.val n = x.val (n % 64)
 | .leaf c, hw => by
  have hb : ∀ j : Nat, j < 6 → n.testBit j = (n % 64).testBit j := fun j hj => by
   rw [show 64 = 2 ^ 6 from rfl, Nat.testBit_mod_two_pow, decide_eq_true hj, Bool.true_and]
  rcases lf_cases (show isLf c = true from hw) with rfl | rfl | rfl | rfl | rfl | rfl | rfl | rfl
  · rfl
  · rfl
  · exact hb 0 (by omega)
  · exact hb 1 (by omega)
  · exact hb 2 (by omega)
  · exact hb 3 (by omega)
  · exact hb 4 (by omega)
  · exact hb 5 (by omega)
 | .neg a, hw => by simp only [Ft.val]; rw [val_mod n a hw]
 | .bin o a b, hw => by
  simp only [Ft.wf, Bool.and_eq_true] at hw
  simp only [Ft.val]; rw [val_mod n a hw.1.2, val_mod n b hw.2]
def sayK (Q : List Ft) : Nat → Nat → Bool
 | 0, _ => true
 | k + 1, n => sayK Q k n && (match Q[k]? with | some x => n.testBit (k + 6) == x.val n | none => true)
theorem sayK_at {Q : List Ft} : ∀ {k n : Nat}, sayK Q k n = true → ∀ i x, i < k → Q[i]? = some x → n.testBit (i + 6) = x.val n
 | 0, _, _, i, x, hi, _ => by omega
 | k + 1, n, h, i, x, hi, hx => by
  rw [sayK, Bool.and_eq_true] at h
  rcases Nat.lt_succ_iff_lt_or_eq.1 hi with hi | hi
  · exact sayK_at h.1 i x hi hx
  · subst hi
    rw [hx] at h
    exact eq_of_beq h.2
theorem bt_letter {n : Nat} {y : Ft} (hw : y.wf = true) (h : isLet y = true) : bt' n (letN y).toNat = y.val n := by
 cases y with
 | leaf c =>
  rcases lf_cases (show isLf c = true from hw) with rfl | rfl | rfl | rfl | rfl | rfl | rfl | rfl
  · cases h
  · cases h
  all_goals rfl
 | neg a => cases h
 | bin o a b => cases h
theorem bt_var {L B : List Ft} {n : Nat} {y : Ft} (hw : y.wf = true) (hs : sayK (L ++ B) L.length n = true) (h : isLet y = true ∨ y ∈ L) : bt' n (varI (L ++ B) y).toNat = y.val n := by
 unfold varI varO
 cases hq : isLet y with
 | true => rw [if_pos rfl]; exact bt_letter hw hq
 | false =>
  rw [if_neg (by simp)]
  have hm : y ∈ L := by
   rcases h with h | h
   · rw [h] at hq; cases hq
   · exact h
  obtain ⟨i, h1, h2, h3⟩ := find_app (R := B) hm
  rw [h3]
  have hx : (L ++ B)[i]? = some y := by
   obtain ⟨hlt, hp, _⟩ := List.findIdx?_eq_some_iff_getElem.1 h3
   simp only [decide_eq_true_eq] at hp
   rw [List.getElem?_eq_getElem hlt, hp]
  have := sayK_at hs i y h1 hx
  show n.testBit (((i : Int) + 7).toNat - 1) = _
  rw [show ((i : Int) + 7).toNat - 1 = i + 6 by omega]; exact this
theorem say_val {x : Ft} (hw : x.wf = true) (hl : isLet x = false) {n : Nat} {p q : Bool} (hp : ∀ y, x.kids[0]? = some y → p = y.val n) (hq : ∀ y, x.kids[1]? = some y → q = y.val n) : sayB x p q = x.val n := by
 cases x with
 | leaf c => rcases letter_leaf (show isLf c = true from hw) hl with rfl | rfl <;> rfl
 | neg a => rw [hp a rfl]; rfl
 | bin o a b => rw [hp a rfl, hq b rfl]; rfl
theorem clsN_sem {P : List Ft} (hP : Parts P) (h6 : (others P).length ≤ 6) (n : Nat) : ∀ k, k ≤ (others P).length → ((clsN (others P) k).all fun c => tc (bt' n) c) = sayK (others P) k n ∧ ∀ c ∈ clsN (others P) k, IsC (6 + ((others P).length : Int)) c := by
 intro k
 induction k with
 | zero => intro _; exact ⟨rfl, fun c hc => by simp [clsN] at hc⟩
 | succ k ih =>
  intro hk
  obtain ⟨i1, i2⟩ := ih (by omega)
  obtain ⟨A, x, B, e, h1, h2⟩ := others_at (P := P) (n := k) (by omega)
  obtain ⟨hkok, hkids⟩ := hP.kok e
  have hg : (others P)[k]? = some x := by rw [e, ← h2]; exact others_get h1
  have hB : others P = others A ++ others (x :: B) := by rw [← others_app, ← e]
  rw [h2] at hkok
  have hvok : Vok x ((k : Int) + 7) (kidX (others P) x) (kidY (others P) x) := ⟨by omega, fun g => by have := hkok.X g; omega, fun g => by have := hkok.Y g; omega⟩
  have hlok := defL_ok hvok
  rw [clsN, sayK, hg]
  dsimp only
  constructor
  · rw [List.all_append, i1, cls_sem (V := (k : Int) + 7) (by omega) hlok (bt' n), defL_sem hvok]
    cases hs : sayK (others P) k n with
    | false => rfl
    | true =>
     rw [Bool.true_and, Bool.true_and]
     have hv : bt' n ((k : Int) + 7).toNat = n.testBit (k + 6) := by
      show n.testBit (((k : Int) + 7).toNat - 1) = _
      rw [show ((k : Int) + 7).toNat - 1 = k + 6 by omega]
     have hs' : sayK (others A ++ others (x :: B)) (others A).length n = true := by rw [← hB, h2]; exact hs
     have kidv : ∀ y ∈ x.kids, bt' n (varI (others P) y).toNat = y.val n := fun y hy => by
      rw [hB]; exact bt_var (hP.wf y (by rw [e]; exact List.mem_append_left _ (hP.lad A x B e y hy))) hs' (hkids y hy)
     rw [hv, say_val hkok.w h1 (n := n)]
     · intro y hy
       cases x with
       | leaf c => simp [Ft.kids] at hy
       | neg a => cases hy; exact kidv _ (by simp [Ft.kids])
       | bin o a b => cases hy; exact kidv _ (by simp [Ft.kids])
     · intro y hy
       cases x with
       | leaf c => simp [Ft.kids] at hy
       | neg a => simp [Ft.kids] at hy
       | bin o a b => cases hy; exact kidv _ (by simp [Ft.kids])
  · intro c hc
    rcases List.mem_append.1 hc with hc | hc
    · exact i2 c hc
    · exact cls_isC (by omega) (by omega) (fun c hc => (hlok c hc).mono (by omega)) c hc
theorem cntB_add (p : Nat → Bool) (a : Nat) : ∀ b, cntB p (a + b) = cntB p a + cntB (fun i => p (a + i)) b
 | 0 => rfl
 | b + 1 => by rw [← Nat.add_assoc, cntB_succ, cntB_add p a b, cntB_succ]; omega
theorem cntB_congr {p q : Nat → Bool} : ∀ {m : Nat}, (∀ i, i < m → p i = q i) → cntB p m = cntB q m
 | 0, _ => rfl
 | m + 1, h => by rw [cntB_succ, cntB_succ, cntB_congr fun i hi => h i (by omega), h m (by omega)]
theorem cntB_split (q v : Nat → Bool) : ∀ m, cntB (fun n => q n && (false == v n)) m + cntB (fun n => q n && (true == v n)) m = cntB q m
 | 0 => rfl
 | m + 1 => by
  have := cntB_split q v m
  rw [cntB_succ, cntB_succ, cntB_succ]
  generalize cntB (fun n => q n && (false == v n)) m = a at *
  generalize cntB (fun n => q n && (true == v n)) m = b at *
  generalize cntB q m = c at *
  cases q m <;> cases v m <;> simp <;> omega
theorem sayK_hi {Q : List Ft} (hQ : ∀ x ∈ Q, x.wf = true) {j : Nat} : ∀ {k : Nat}, k ≤ j → ∀ n, sayK Q k (2 ^ (6 + j) + n) = sayK Q k n
 | 0, _, n => rfl
 | k + 1, hk, n => by
  rw [sayK, sayK, sayK_hi hQ (by omega) n]
  congr 1
  cases hx : Q[k]? with
  | none => rfl
  | some x =>
   have hw := hQ x (List.mem_of_getElem? hx)
   dsimp only
   rw [Nat.testBit_two_pow_add_gt (by omega), val_mod _ x hw, val_mod n x hw]
   congr 2
   have : (2 ^ (6 + j)) = 64 * 2 ^ j := by rw [Nat.pow_add]
   omega
theorem count_say {Q : List Ft} (hQ : ∀ x ∈ Q, x.wf = true) {t : Ft} (ht : t.wf = true) : ∀ k, k ≤ Q.length → cntB (fun n => sayK Q k n && t.val n) (2 ^ (6 + k)) = cntB (fun n => t.val n) 64
 | 0, _ => rfl
 | k + 1, hk => by
  have ih := count_say hQ ht k (by omega)
  have hx : Q[k]? = some Q[k] := List.getElem?_eq_getElem (by omega)
  have hw := hQ _ (List.getElem_mem (show k < Q.length by omega))
  generalize Q[k] = x at *
  have hm : ∀ n, (2 ^ (6 + k) + n) % 64 = n % 64 := fun n => by
   have : (2 ^ (6 + k)) = 64 * 2 ^ k := by rw [Nat.pow_add]
   omega
  rw [show 2 ^ (6 + (k + 1)) = 2 ^ (6 + k) + 2 ^ (6 + k) by rw [← Nat.add_assoc, Nat.pow_succ]; omega, cntB_add, ← ih, ← cntB_split (fun n => sayK Q k n && t.val n) (fun n => x.val n)]
  congr 1
  · refine cntB_congr fun n hn => ?_
    have hb : n.testBit (k + 6) = false := Nat.testBit_lt_two_pow (by rw [Nat.add_comm k 6]; exact hn)
    rw [sayK, hx]
    dsimp only
    rw [hb]
    cases sayK Q k n <;> cases t.val n <;> cases x.val n <;> rfl
  · refine cntB_congr fun n hn => ?_
    have hb : (2 ^ (6 + k) + n).testBit (k + 6) = true := by
     rw [Nat.add_comm k 6, Nat.testBit_two_pow_add_eq, Nat.testBit_lt_two_pow hn]; rfl
    rw [sayK, hx]
    dsimp only
    rw [hb, sayK_hi hQ (Nat.le_refl k), val_mod _ x hw, val_mod _ t ht, hm, ← val_mod _ x hw, ← val_mod _ t ht]
    cases sayK Q k n <;> cases t.val n <;> cases x.val n <;> rfl
end Go.PF
namespace Go.PF
open Go.Pu
theorem defC_cnf {P : List Ft} (hP : Parts P) (h6 : (others P).length ≤ 6) {t : Ft} (hw : t.wf = true) (ht : isLet t = true ∨ t ∈ others P) :
 cnfB ⟨6 + ((others P).length : Int), clsN (others P) (others P).length ++ [[varI (others P) t]]⟩ = true ∧
 ∀ n, modB (clsN (others P) (others P).length ++ [[varI (others P) t]]) n = (sayK (others P) (others P).length n && t.val n) := by
 have hl := clsN_len (others P) (others P).length
 obtain ⟨_, v, v2, v3, v4⟩ := var_kid (R := []) ht
 have hv : varI (others P) t = v := by unfold varI; rw [v2]; rfl
 constructor
 · unfold cnfB
   rw [Bool.and_eq_true, Bool.and_eq_true, varsB_iff, decide_eq_true_iff, List.all_eq_true]
   refine ⟨⟨⟨by dsimp only; omega, by dsimp only; omega⟩, by rw [len_eq, List.length_append, List.length_singleton]; omega⟩, fun c hc => ?_⟩
   dsimp only at hc ⊢
   rw [clauseB_iff]
   rcases List.mem_append.1 hc with hc | hc
   · exact (clsN_sem hP h6 0 _ (Nat.le_refl _)).2 c hc
   · rw [List.mem_singleton] at hc
     subst hc
     refine ⟨by omega, by omega, fun l hl => ?_, List.pairwise_singleton _ _⟩
     rw [List.mem_singleton] at hl
     rw [hl, hv]; omega
 · intro n
   unfold modB
   rw [List.all_append, (clsN_sem hP h6 n _ (Nat.le_refl _)).1]
   cases hs : sayK (others P) (others P).length n with
   | false => rfl
   | true =>
    rw [Bool.true_and, Bool.true_and]
    have hb := bt_var (L := others P) (B := []) hw (by rw [List.append_nil]; exact hs) ht
    rw [List.append_nil] at hb
    show ([[varI (others P) t]].all fun c => c.any (tl (bt' n))) = _
    simp only [List.all_cons, List.all_nil, List.any_cons, List.any_nil, Bool.or_false, Bool.and_true]
    rw [tlP (by rw [hv]; omega), hb]
theorem countCnf_eq {F : Cnf} (hF : cnfB F = true) : impl_CountCnfModels F = some ((cntB (modB F.clauses) (2 ^ F.vars.toNat) : Int), true) := by
 have hv := cnfB_rng hF; have hC := cnfB_isC hF; have hN := cnfB_len hF
 have hok : okCnf F := ⟨by unfold okI; omega, ⟨by omega, fun c h => (hC c h).ok⟩⟩
 obtain ⟨hs, hp, hnn, hck⟩ := shl_vars hF
 unfold impl_CountCnfModels
 rw [impl_IsCnf_eq hok, bd_some, hF]
 simp only [Bool.not_true, cond_false]
 rw [hnn, bd_some, hck, bd_some]
 have key : ∀ (body : Nat → Int → Option (Lp Int Int)), (∀ i s, body i s = bd (PF.impl_isModel F.clauses ((i : Nat) : Int)) (fun r270 => bd (bif r270 then bd (β := _) (some ((wr (s + 1)), true) : Option (Int × Bool)) (fun s292 => some (s292.1, (!s292.2))) else some (s, false)) (fun t287 => (bif t287.2 then some (Lp.rt t287.1) else some (Lp.nx t287.1))))) →
  bdR (forR 0 (2 ^ F.vars.toNat) body 0) (fun s170 => some s170) (fun x170 => some x170) = some (cntB (modB F.clauses) (2 ^ F.vars.toNat) : Int) := fun body hb => by
  refine forR_use (R := fun o => o = some (cntB (modB F.clauses) (2 ^ F.vars.toNat) : Int)) (fun i s => s = (cntB (modB F.clauses) i : Int)) rfl (fun i s hi hs => ?_) (fun s' hI => by rw [hI])
  have := cntB_le (modB F.clauses) i
  rw [hs, hb, impl_isModel_eq hC (by omega), bd_some, cntB_succ]
  cases modB F.clauses i with
  | true => exact ⟨_, rfl, by rw [wr_of _ (by omega) (by omega)]; rfl⟩
  | false => exact ⟨_, rfl, rfl⟩
 rw [key _ fun _ _ => rfl, bd_some]
theorem satB_cnt (V : Nat) (K : List (List Int)) : satB V K = decide (0 < (cntB (modB K) (2 ^ V) : Int)) := by
 rw [Bool.eq_iff_iff, decide_eq_true_iff]
 unfold satB cntB
 rw [List.any_eq_true, show (0 : Int) < (((List.range (2 ^ V)).countP (modB K) : Nat) : Int) ↔ 0 < (List.range (2 ^ V)).countP (modB K) by omega, List.countP_pos_iff]
theorem plain_FnFormulaCnfs (a : List Int) (ha : okL okU8 a) : laws_FnFormulaCnfs a = some true := by
 unfold laws_FnFormulaCnfs
 cases laws_rBig a with
 | true => rfl
 | false =>
  rw [cond_false]
  obtain ⟨s, c, hd, _, _⟩ := dr_formulaText (n := 0) (c := l1Cur.mk a 0 0) ⟨ha, by dsimp only; omega, by dsimp only; omega⟩
  have hdr : spec_DrawDefiningCnf a = some s := by
   unfold spec_DrawDefiningCnf spec_DrawIsFormula
   rw [hd]; rfl
  rw [hdr, bd_some]
  clear hd hdr
  cases hg : goodB s with
  | false =>
   have e1 : impl_DefiningCnf s = some (⟨0, []⟩, false) := by unfold impl_DefiningCnf; rw [impl_parse_bad hg]; rfl
   have e2 : spec_DefiningCnf s = some (⟨0, []⟩, false) := by unfold spec_DefiningCnf; rw [spec_l22Good_eq, hg]; rfl
   have e3 : impl_CircuitOfFormula s = some ([], false) := by unfold impl_CircuitOfFormula; rw [impl_parse_bad hg]; rfl
   have e4 : spec_CircuitOfFormula s = some ([], false) := by unfold spec_CircuitOfFormula; rw [spec_l22Good_eq, hg]; rfl
   have e5 : impl_IsFormula s = some false := by rw [impl_IsFormula_eq, hg]
   rw [e1, bd_some, e2, bd_some]
   dsimp only
   rw [beq_self_eq_true, Bool.not_true, cond_false, rCnf_self, bd_some, bd_some, Bool.not_true, cond_false, e3, bd_some, e4, bd_some]
   dsimp only
   rw [beq_self_eq_true, Bool.not_true, cond_false, e5, bd_some, bd_some, beq_self_eq_true, Bool.not_true, cond_false, rGates_self]
   rfl
  | true =>
   obtain ⟨t, h⟩ := Gd.of hg
   obtain ⟨P, p1, p2, hP, hQ⟩ := h.parts
   have hcv := circ_Cv hP hQ
   have e5 : impl_IsFormula s = some true := by rw [impl_IsFormula_eq, hg]
   rw [h.defI p1 hP hQ, bd_some, h.defS p2 hP, bd_some]
   rw [beq_self_eq_true, Bool.not_true, cond_false, rCnf_self, bd_some, bd_some, Bool.not_true, cond_false, h.circuitI p1 hP, bd_some, h.circuitS p2 hP, bd_some]
   dsimp only
   rw [beq_self_eq_true, Bool.not_true, cond_false, e5, bd_some, bd_some, beq_self_eq_true, Bool.not_true, cond_false, rGates_self, bd_some, bd_some]
   rw [Bool.not_true, cond_false, cond_false, h.models, bd_some, hcv.count, bd_some]
   dsimp only
   rw [Bool.not_true, cond_false, cond_false, beq_self_eq_true, Bool.not_true, cond_false]
   refine forR_use (R := fun o => o = some true) (fun i s => True) trivial (fun i u hi _ => ?_) (fun _ _ => ?_)
   · rw [h.fvalue hi, bd_some, hcv.value hi, bd_some]
     dsimp only
     rw [Bool.not_true, cond_false, cond_false, beq_self_eq_true, Bool.not_true, cond_false]
     exact ⟨(), rfl, trivial⟩
   · obtain ⟨l, hlast⟩ := partT_last h.wf
     have hlp := partT_len t
     have h80 := h.le80
     have tail : (bd (PF.impl_FormulaParts s) (fun r456 => bd (PF.spec_FormulaParts s) (fun r466 => bd (bif (bif (!(r456.2 == r466.2)) then true else (!r456.2)) then some true else bd (PF.laws_rTexts r456.1 r466.1) (fun r507 => some (!r507))) (fun t495 => bd (bif (bif t495 then true else ((Go.Pu.len r456.1) == 0)) then some true else bd (ix r456.1 (wr ((Go.Pu.len r456.1) - 1))) (fun x546 => some (!(x546.toList == s.toList)))) (fun t533 => (bif t533 then some false else bd (PF.impl_FormulaDepth s) (fun r551 => some (bif r551.2 then (decide (r551.1 < (s.size : Int))) else false))))))) : Option Bool) = some true := by
      rw [h.partsI, bd_some, h.partsS, bd_some]
      dsimp only
      rw [beq_self_eq_true, Bool.not_true, cond_false, cond_false, rTexts_self, bd_some, bd_some, Bool.not_true, cond_false]
      have hlen : Go.Pu.len (partT t) = ((l.length + 1 : Nat) : Int) := by rw [len_eq, hlast, List.length_append, List.length_singleton]
      have hl1 : l.length + 1 ≤ 80 := by rw [hlast, List.length_append, List.length_singleton] at hlp; omega
      have hne : (((l.length + 1 : Nat) : Int) == 0) = false := by rw [beq_eq_false_iff_ne]; omega
      have hix : ix (partT t) (((l.length + 1 : Nat) : Int) - 1) = some (txB t) := by
       rw [show ((l.length + 1 : Nat) : Int) - 1 = (l.length : Int) by omega]
       exact ix_nat (by rw [hlast, List.getElem?_append_right (Nat.le_refl _), Nat.sub_self]; rfl)
      rw [hlen, hne, cond_false, wr_of _ (by omega) (by omega), hix, bd_some, h.txt, beq_self_eq_true]
      simp only [Bool.not_true, bd_some, cond_false]
      rw [← h.txt, h.depthI, bd_some]
      dsimp only
      have := t.hgt_lt
      rw [cond_true, decide_eq_true (by rw [h.txt, tx_size]; omega)]
     cases hsm : decide (6 < (others P).length) with
     | true =>
      have : defC (others P) t = (⟨0, []⟩, false) := by unfold defC; rw [if_pos (of_decide_eq_true hsm)]
      rw [this]
      dsimp only
      rw [cond_false, bdR_go]
      exact tail
     | false =>
      have h6 : (others P).length ≤ 6 := by have := of_decide_eq_false hsm; omega
      have hd : defC (others P) t = (⟨6 + ((others P).length : Int), clsN (others P) (others P).length ++ [[varI (others P) t]]⟩, true) := by unfold defC; rw [if_neg (of_decide_eq_false hsm)]
      have htm : isLet t = true ∨ t ∈ others P := by
       obtain ⟨Q, e⟩ := hQ
       exact others_mem (by rw [e]; simp)
      obtain ⟨d1, d2⟩ := defC_cnf hP h6 h.wf htm
      have hcnt : cntB (modB (clsN (others P) (others P).length ++ [[varI (others P) t]])) (2 ^ ((6 : Int) + ((others P).length : Int)).toNat) = cntB (fun k => t.val k) 64 := by
       rw [show ((6 : Int) + ((others P).length : Int)).toNat = 6 + (others P).length by omega, cntB_congr fun n _ => d2 n]
       exact count_say (fun x hx => hP.wf x (List.mem_filter.1 hx).1) h.wf _ (Nat.le_refl _)
      rw [hd]
      dsimp only
      rw [cond_true, countCnf_eq d1, bd_some, impl_IsSatisfiable_eq d1, bd_some, satB_cnt]
      dsimp only
      rw [hcnt, beq_self_eq_true, beq_self_eq_true]
      simp only [Bool.not_true, cond_false]
      rw [bdR_go]
      exact tail
end Go.PF
