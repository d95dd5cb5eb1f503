/- Helpers of the walks and plain laws. -/
import Derived.Test.YtdkfkiifbagnnaaGreatDcPA
set_option linter.unusedVariables false
namespace Go.PF
open Go.Pu
theorem big_none {l : List ByteArray} (h : bigS l = none) : ∀ x ∈ l, x.size ≤ 1 := by
 intro x hx
 have := List.find?_eq_none.1 h x hx
 simp at this; omega
theorem spec_l22Letter_eq {y : ByteArray} {c : UInt8} (h : bs y = [c]) : spec_l22Letter y = some (decide (97 ≤ c) && decide (c ≤ 102)) := by
 unfold spec_l22Letter
 have hz := bs_len y
 rw [h] at hz
 have hi : ixS y 0 = some (c.toNat : Int) := ixS_at (k := 0) (by rw [h]; rfl)
 rw [show ((y.size : Int) == 1) = true by rw [beq_iff_eq, ← hz]; rfl, cond_true, hi, bd_some, bd_some, cge]
 cases decide (97 ≤ c) with
 | false => rfl
 | true => rw [cond_true, bd_some, cle]; rfl
def bitT (s : Int) (y : ByteArray) : Int := match bs y with
 | c :: _ => bif decide (97 ≤ c) && decide (c ≤ 102) then orK true 64 s (shlK true 64 1 (wrk false 8 ((c.toNat : Int) - 97))) else s
 | [] => s
theorem one_byte {y : ByteArray} (hg : goodB y = true) (h1 : y.size ≤ 1) : ∃ c, bs y = [c] := by
 obtain ⟨t, g1, g2, g3, g4, g5⟩ := good_ft hg
 have hp : 0 < t.txt.length := List.length_pos_iff.2 t.txt_ne
 have : (bs y).length = 1 := by rw [bs_len]; omega
 exact List.length_eq_one_iff.1 this
theorem nn_ok {c : UInt8} : nn (wrk false 8 ((c.toNat : Int) - 97)) = some () := by
 unfold nn wrk
 rw [if_neg]
 simp only [Bool.false_and]
 simp
 omega
theorem spec_l23Open_eq {l : List ByteArray} (hg : ∀ x ∈ l, goodB x = true) (h1 : ∀ x ∈ l, x.size ≤ 1) : spec_l23Open l = some (l.foldl bitT 0) := by
 unfold spec_l23Open
 rw [forL_fold bitT (fun i y t hy => by
  obtain ⟨c, hc⟩ := one_byte (hg y (List.mem_of_getElem? hy)) (h1 y (List.mem_of_getElem? hy))
  have hi : ixS y 0 = some (c.toNat : Int) := ixS_at (k := 0) (by rw [hc]; rfl)
  rw [spec_l22Letter_eq hc, bd_some]
  unfold bitT
  rw [hc]
  dsimp only
  cases decide (97 ≤ c) && decide (c ≤ 102) with
  | false => rfl
  | true => rw [cond_true, cond_true, hi, bd_some, nn_ok, bd_some])]
 rfl
structure OkS (st : List SeqStep) : Prop where
 len : st.length ≤ 200
 seq : ∀ y ∈ st, seqB y.seq = true
def Ends (o : l23Search) (ok : Bool) (x : seqSearch) : Prop :=
 (ok = true ∧ o = ⟨x.steps, false, 0, false⟩ ∧ x.open_ = none ∧ OkS x.steps) ∨
 (ok = false ∧ ((o.bad = true ∧ o.open_ = false ∧ x.open_ = none) ∨ ∃ q, o.open_ = true ∧ x.open_ = some q ∧ seqB q = true ∧ bigS q.left = none ∧ o.bits = q.left.foldl bitT 0))
def Both (r1 : Sequent → l23Search → Option l23Search) (r2 : seqSearch → Sequent → Option (Bool × seqSearch)) (s : Sequent) : Prop :=
 ∀ st : List SeqStep, OkS st → ∃ o ok x, r1 s ⟨st, false, 0, false⟩ = some o ∧ r2 ⟨st, none⟩ s = some (ok, x) ∧ Ends o ok x
theorem spec_put {st : List SeqStep} (h : st.length ≤ 200) (p : SeqStep) : spec_l23Put ⟨st, false, 0, false⟩ p = some ⟨st ++ [p], false, 0, decide (200 < st.length + 1)⟩ := by
 unfold spec_l23Put
 dsimp only
 rw [app_ok (by simp; unfold lim; omega), bd_some]
 congr 2
 exact decide_eq_decide.2 (by rw [len_eq, List.length_append]; simp only [List.length_cons, List.length_nil]; omega)
theorem prem_loop {ps : List Sequent} (hp : ps.length ≤ 2) {r1 : Sequent → l23Search → Option l23Search} {r2 : seqSearch → Sequent → Option (Bool × seqSearch)} (hr : ∀ p ∈ ps, Both r1 r2 p) {ZS ZI : Type} (zi : seqSearch → ZI)
 {fb : (List SeqStep) × Bool × Int × Bool × Int × Int × Int → Option (Lp ((List SeqStep) × Bool × Int × Bool × Int × Int × Int) l23Search)}
 (hf : ∀ s, fb s = (bif (decide (s.2.2.2.2.2.2 < (len ps))) then bd (ix ps s.2.2.2.2.2.2) (fun x120307 => bd (r1 x120307 (l23Search.mk s.1 s.2.1 s.2.2.1 s.2.2.2.1)) (fun r129301 => (bif (bif r129301.open_ then true else r129301.bad) then some (Lp.rt r129301) else (bif (s.2.2.2.2.2.2 == 0) then some (Lp.nx (r129301.steps, r129301.open_, r129301.bits, r129301.bad, (wr ((len r129301.steps) - 1)), s.2.2.2.2.2.1, (wr (s.2.2.2.2.2.2 + 1)))) else some (Lp.nx (r129301.steps, r129301.open_, r129301.bits, r129301.bad, s.2.2.2.2.1, (wr ((len r129301.steps) - 1)), (wr (s.2.2.2.2.2.2 + 1)))))))) else some (Lp.bk (s.1, s.2.1, s.2.2.1, s.2.2.2.1, s.2.2.2.2.1, s.2.2.2.2.2.1, s.2.2.2.2.2.2))))
 {gb : Nat → (List SeqStep) × Int × Int × (Option Sequent) → Option (Lp ((List SeqStep) × Int × Int × (Option Sequent)) ZI)}
 (hg : ∀ i s, gb i s = bd (ix ps ((i : Nat) : Int)) (fun x556 => bd (r2 (seqSearch.mk s.1 s.2.2.2) x556) (fun r573 => (bif (!r573.1) then some (Lp.rt (zi r573.2)) else (bif (((i : Nat) : Int) == 0) then some (Lp.nx (r573.2.steps, (wr ((len r573.2.steps) - 1)), s.2.2.1, r573.2.open_)) else some (Lp.nx (r573.2.steps, s.2.1, (wr ((len r573.2.steps) - 1)), r573.2.open_))))))) :
 ∀ (rest : List Sequent) (k : Nat) (st : List SeqStep) (a b : Int), ps.drop k = rest → k ≤ ps.length → OkS st →
  (∃ st' a' b' i, iter fb (st, false, 0, false, a, b, (k : Int)) = some (.go (st', false, 0, false, a', b', i)) ∧ forFrom gb rest.length k (st, a, b, none) = some (.go (st', a', b', none)) ∧ OkS st') ∨
  (∃ o x, iter fb (st, false, 0, false, a, b, (k : Int)) = some (.rt o) ∧ forFrom gb rest.length k (st, a, b, none) = some (.rt (zi x)) ∧ Ends o false x) := by
 intro rest
 induction rest with
 | nil =>
  intro k st a b hk hle hst
  have e : ps.length ≤ k := by
   have := congrArg List.length hk
   rw [List.length_drop, List.length_nil] at this; omega
  refine .inl ⟨st, a, b, (k : Int), iter_bk ?_, rfl, hst⟩
  rw [hf, bifF (decide_eq_false (by rw [len_eq]; show ¬ ((k : Int) < _); omega))]
 | cons p rest ih =>
  intro k st a b hk hle hst
  have hkl : k < ps.length := by
   have := congrArg List.length hk
   rw [List.length_drop, List.length_cons] at this; omega
  have hx : ps[k]? = some p := by
   have : (ps.drop k)[0]? = some p := by rw [hk]; rfl
   rwa [List.getElem?_drop, Nat.add_zero] at this
  have hk' : ps.drop (k + 1) = rest := by rw [← List.tail_drop, hk]; rfl
  obtain ⟨o, ok, x, e1, e2, hE⟩ := hr p (List.mem_of_getElem? hx) st hst
  have f1 : fb (st, false, 0, false, a, b, (k : Int)) = (bif (bif o.open_ then true else o.bad) then some (Lp.rt o) else (bif ((k : Int) == 0) then some (Lp.nx (o.steps, o.open_, o.bits, o.bad, (wr ((len o.steps) - 1)), b, (wr ((k : Int) + 1)))) else some (Lp.nx (o.steps, o.open_, o.bits, o.bad, a, (wr ((len o.steps) - 1)), (wr ((k : Int) + 1)))))) := by
   rw [hf, bifT (decide_eq_true (by rw [len_eq]; show (k : Int) < _; omega))]
   dsimp only
   rw [ix_get, hx, bd_some, e1, bd_some]
  have g1 : gb k (st, a, b, none) = (bif (!ok) then some (Lp.rt (zi x)) else (bif (((k : Nat) : Int) == 0) then some (Lp.nx (x.steps, (wr ((len x.steps) - 1)), b, x.open_)) else some (Lp.nx (x.steps, a, (wr ((len x.steps) - 1)), x.open_)))) := by
   rw [hg]
   dsimp only
   rw [ix_get, hx, bd_some, e2, bd_some]
  rw [List.length_cons]
  unfold forFrom
  rw [g1]
  rcases hE with ⟨rfl, rfl, ho, hl⟩ | ⟨rfl, hE⟩
  · rw [Bool.not_true, cond_false]
    dsimp only at f1
    rw [cond_false, cond_false, wr_k (by omega)] at f1
    rw [ho]
    cases hz : ((k : Int) == 0) with
    | true =>
     rw [hz, cond_true] at f1
     rw [iter_nx f1, cond_true]
     exact ih (k + 1) x.steps _ b hk' (by omega) hl
    | false =>
     rw [hz, cond_false] at f1
     rw [iter_nx f1, cond_false]
     exact ih (k + 1) x.steps a _ hk' (by omega) hl
  · refine .inr ⟨o, x, iter_rt ?_, rfl, .inr ⟨rfl, hE⟩⟩
    rw [f1]
    rcases hE with ⟨h1, h2, _⟩ | ⟨q, h1, _⟩
    · rw [h2, cond_false, h1]; rfl
    · rw [h1]; rfl
theorem premV_len (s : Sequent) (r : Int) (t : Ft) : (premV s r t).length ≤ 2 := by
 unfold premV
 dsimp only
 split
 · simp
 split
 · simp
 split
 · simp
 split
 · simp
 split
 · simp
 split
 · simp
 split <;> simp
theorem mainV_mem {s : Sequent} {m : ByteArray} {b : Bool} (h : mainV s = some (m, b)) : m ∈ (bif b then s.left else s.right) ∧ 1 < m.size := by
 unfold mainV at h
 cases h1 : bigS s.left with
 | some x =>
  rw [h1] at h
  cases h
  have := List.find?_some h1
  exact ⟨List.mem_of_find?_eq_some h1, by simpa using this⟩
 | none =>
  rw [h1] at h
  dsimp only at h
  cases h2 : bigS s.right with
  | some x =>
   rw [h2] at h
   cases h
   have := List.find?_some h2
   exact ⟨List.mem_of_find?_eq_some h2, by simpa using this⟩
  | none => rw [h2] at h; cases h
theorem search_eq : ∀ (n : Nat) (s : Sequent), szQ s < n → s.left.length ≤ 1000 → s.right.length ≤ 1000 → Both (spec_l23Go_F n) (impl_seqSearch_search_F n) s
 | 0, _, h, _, _ => by omega
 | n + 1, s, hn, hl, hr => by
  intro st hst
  show ∃ o ok x, spec_l23Go_B (spec_l23Go_F n) s ⟨st, false, 0, false⟩ = some o ∧ impl_seqSearch_search_B (impl_seqSearch_search_F n) ⟨st, none⟩ s = some (ok, x) ∧ Ends o ok x
  unfold spec_l23Go_B impl_seqSearch_search_B
  dsimp only
  rw [spec_l23Good_eq, bd_some, impl_IsSequent_eq (by unfold lim; omega) (by unfold lim; omega), bd_some, cond_false, cond_false]
  cases hs : seqB s with
  | false => exact ⟨_, _, _, rfl, rfl, .inr ⟨rfl, .inl ⟨rfl, rfl, rfl⟩⟩⟩
  | true =>
   have hS := hs
   unfold seqB at hS
   rw [Bool.and_eq_true, sideB_iff, sideB_iff] at hS
   have sL := hS.1
   have sR := hS.2
   have hc : impl_Sequent_clone s = some s := by
    unfold impl_Sequent_clone
    rw [slices_Clone_string_eq (by unfold lim; omega), bd_some, slices_Clone_string_eq (by unfold lim; omega)]; rfl
   rw [Bool.not_true, cond_false, cond_false, spec_l23Axiom_eq (by omega), bd_some, hc, bd_some, impl_isSeqAxiom_eq, bd_some]
   have endp : ∀ (t : List SeqStep) (ht : OkS t) (p : SeqStep) (hp : seqB p.seq = true) (o2 : Option Sequent), o2 = none →
    ∃ o ok x, (bd (spec_l23Put ⟨t, false, 0, false⟩ p) fun r70 => some r70) = some o ∧ (bd (app t [p]) fun xs => some (decide (len xs ≤ 200), seqSearch.mk xs o2)) = some (ok, x) ∧ Ends o ok x := by
    rintro t ⟨ht, hts⟩ p hp _ rfl
    rw [spec_put ht, bd_some, app_ok (by simp; unfold lim; omega), bd_some]
    refine ⟨_, _, _, rfl, rfl, ?_⟩
    have e : len (t ++ [p]) = ((t.length + 1 : Nat) : Int) := by rw [len_eq, List.length_append]; rfl
    rw [e]
    by_cases h : t.length + 1 ≤ 200
    · refine .inl ⟨decide_eq_true (by omega), ?_, rfl, by simp; omega, fun y hy => ?_⟩
      · rw [decide_eq_false (by omega)]
      · rcases List.mem_append.1 hy with hy | hy
        · exact hts y hy
        · rw [List.mem_singleton.1 hy]; exact hp
    · refine .inr ⟨decide_eq_false (by omega), .inl ⟨?_, rfl, rfl⟩⟩
      exact decide_eq_true (by omega)
   cases ha : axB s with
   | true =>
    rw [cond_true, Bool.not_true, cond_false, bdR_go]
    exact endp st hst _ hs none rfl
   | false =>
    rw [cond_false, Bool.not_false, cond_true, spec_l23Main_eq (by omega) (by omega), bd_some]
    rcases impl_mainOf_eq (s := s) sL.good sR.good with ⟨m1, m2⟩ | ⟨m, b, t, m1, m2, m3, m4⟩
    · rw [m1, m2, bd_some]
      have hb : bigS s.left = none := by
       unfold mainV at m1
       cases hq : bigS s.left with
       | none => rfl
       | some x => rw [hq] at m1; cases m1
      dsimp only
      rw [Bool.not_false, cond_true, spec_l23Open_eq sL.good (big_none hb)]
      exact ⟨_, _, _, rfl, rfl, .inr ⟨rfl, .inr ⟨s, rfl, rfl, hs, hb, rfl⟩⟩⟩
    · rw [m1, m4, bd_some]
      obtain ⟨mm, mz⟩ := mainV_mem m1
      obtain ⟨em, hw⟩ := ft_of m2
      have gm : goodB m = true := by
       cases b with
       | true => exact sL.good m mm
       | false => exact sR.good m mm
      have m80 : m.size ≤ 80 := (good_iff.1 gm).choose_spec.2
      have rbd := ruleV_bd t b
      have r0 : ruleV t b ≠ 0 := fun g => by
       have := (ruleV_zero b).1 g
       rw [em, tx_size] at mz; omega
      obtain ⟨nd, n1, _, n3⟩ := Ft.get_eq t
      have hnil : t.fo.isNil = false := by cases t <;> rfl
      dsimp only
      rw [Bool.not_true, cond_false, spec_l23Rule_eq m2 (by omega), bd_some, spec_l23Premises_eq m2 (by omega) sL.ord sR.ord hl hr (by omega) rbd.2.1, bd_some,
       hnil, cond_false, n1, bd_some, impl_premisesOf_eq hl hr ⟨b, rfl⟩ r0 hw, bd_some]
      have pl := premV_len s (ruleV t b) t
      rw [show chk (len (premV s (ruleV t b) t)) = some (premV s (ruleV t b) t).length by unfold chk; rw [if_pos (by rw [len_eq]; omega), len_eq]; simp, bd_some]
      have hprem : ∀ p ∈ premV s (ruleV t b) t, Both (spec_l23Go_F n) (impl_seqSearch_search_F n) p := by
       intro p hp
       obtain ⟨z1, z2, z3⟩ := prem_sz (s := s) (t := t) (b := b) (em ▸ mm) r0 p hp
       have := sL.len; have := sR.len
       exact search_eq n p (by omega) (by omega) (by omega)
      have hloop := prem_loop pl hprem (ZS := Unit) (zi := fun x => (Rs.rt (false, x) : Rs ((List SeqStep) × Int × ByteArray × Int × Int × (Option Sequent)) (Bool × seqSearch))) (fun _ => by rfl) (fun _ _ => by rfl) (premV s (ruleV t b) t) 0 st 0 0 rfl (Nat.zero_le _) hst
      unfold forR
      rw [show ((0 : Nat) : Int) = 0 from rfl] at hloop
      rcases hloop with ⟨st', a', b', i, l1, l2, l3⟩ | ⟨o, x, l1, l2, l3⟩
      · erw [l1, l2]
        rw [bdR_go, bdR_go, bdR_go, n3, ← em]
        exact endp st' l3 _ hs none rfl
      · erw [l1, l2]
        rw [bdR_rt, bdR_rt, bdR_rt]
        exact ⟨_, _, _, rfl, rfl, l3⟩
end Go.PF
namespace Go.PF
open Go.Pu
theorem sz_StringS {a : List ByteArray} {s : Int} (ha : okL okS a) (h0 : 0 ≤ s) (h1 : s ≤ 1048576) : ∃ r, laws_szStringS a s = some r ∧ (r < 0 ∨ r + (a.length + tot (·.size) a : Nat) = s) := by
 unfold laws_szStringS
 have := sz_list (sz := fun (y : ByteArray) s => some (wr (s - (y.size : Int)))) (wt := fun y : ByteArray => y.size) (l := a) (s := s)
  (f := fun i23 y22 s23 => (bif (decide ((wr (s23 - (y22.size : Int))) < 0)) then some (Lp.rt (-1)) else some (Lp.nx (wr (s23 - (y22.size : Int)))))) (fun _ _ _ => rfl) (fun y hy s h0 h1 => ⟨_, rfl, by
  have := ha.2 y hy
  unfold okS at this
  rw [wr_of _ (by omega) (by omega)]; omega⟩) ha.1 h0 h1
 exact this
theorem to_StringS {a : List ByteArray} (h : a.length ≤ lim) : laws_toStringS a = some a := by
 unfold laws_toStringS
 have := to_list (z := (ByteArray.empty : ByteArray)) (l := a) (g := fun y : ByteArray => some y) (h := fun y => y)
  (f := fun i32 y31 s32 => bd (ix s32 ((i32 : Nat) : Int)) (fun x117 => bd (put s32 ((i32 : Nat) : Int) y31) (fun xs122 => some (Lp.nx xs122)))) (fun _ _ _ => rfl) (fun _ _ => rfl) h
 rw [List.map_id'] at this
 exact this
theorem eq_StringS (a : List ByteArray) : laws_eqStringS a a = some true := by
 unfold laws_eqStringS
 exact eq_list (eq := fun x y => some (x.toList == y.toList)) (fun _ _ _ => rfl) (fun y _ => by rw [eqS]; simp)
theorem sz_Sequent {a : Sequent} {s : Int} (ha : okSequent a) (h0 : 0 ≤ s) (h1 : s ≤ 1048576) : ∃ r, laws_szSequent a s = some r ∧ (r < 0 ∨ r + ((a.left.length + tot (·.size) a.left) + (a.right.length + tot (·.size) a.right) : Nat) = s) := by
 unfold laws_szSequent
 obtain ⟨r, e, hr⟩ := sz_StringS ha.1 h0 h1
 rw [e, bd_some]
 by_cases hn : r < 0
 · rw [bifT (decide_eq_true hn)]
   exact ⟨_, rfl, .inl (by omega)⟩
 · rw [bifF (decide_eq_false hn)]
   obtain ⟨q, e2, hq⟩ := sz_StringS ha.2 (s := r) (by omega) (by omega)
   rw [e2, bd_some]
   by_cases hn' : q < 0
   · rw [bifT (decide_eq_true hn')]
     exact ⟨_, rfl, .inl (by omega)⟩
   · rw [bifF (decide_eq_false hn')]
     exact ⟨_, rfl, .inr (by omega)⟩
theorem to_Sequent {a : Sequent} (h1 : a.left.length ≤ lim) (h2 : a.right.length ≤ lim) : laws_toSequent a = some a := by
 unfold laws_toSequent
 rw [to_StringS h1, bd_some, to_StringS h2]; rfl
theorem eq_Sequent (a : Sequent) : laws_eqSequent a a = some true := by
 unfold laws_eqSequent
 rw [eq_StringS, bd_some, Bool.not_true, cond_false, eq_StringS]; rfl
theorem search_bad {x : seqSearch} {s : Sequent} (h1 : s.left.length ≤ lim) (h2 : s.right.length ≤ lim) (h : seqB s = false) : impl_seqSearch_search x s = some (false, x) := by
 unfold impl_seqSearch_search
 have e : ∃ n, deep = n + 1 := ⟨1099511627775, deep_eq⟩
 obtain ⟨n, e⟩ := e
 rw [e]
 show impl_seqSearch_search_B (impl_seqSearch_search_F n) x s = _
 unfold impl_seqSearch_search_B
 rw [impl_IsSequent_eq h1 h2, bd_some, h]; rfl
theorem szL_le {l : List ByteArray} (h : ∀ x ∈ l, x.size ≤ 80) : szL l ≤ 80 * l.length := by
 induction l with
 | nil => simp [szL]
 | cons x l ih =>
  have h1 := h x (List.mem_cons_self ..)
  have h2 := ih fun y hy => h y (List.mem_cons_of_mem _ hy)
  have : szL (x :: l) = x.size + szL l := by simp [szL]
  rw [List.length_cons]; omega
theorem search_good {s : Sequent} (h : seqB s = true) : ∃ o ok x, spec_l23Go s ⟨[], false, 0, false⟩ = some o ∧ impl_seqSearch_search ⟨[], none⟩ s = some (ok, x) ∧ Ends o ok x := by
 have hS := h
 unfold seqB at hS
 rw [Bool.and_eq_true, sideB_iff, sideB_iff] at hS
 have l1 := hS.1.len
 have l2 := hS.2.len
 have g : ∀ x, goodB x = true → x.size ≤ 80 := fun x hx => (good_iff.1 hx).choose_spec.2
 have z1 := szL_le fun x hx => g x (hS.1.good x hx)
 have z2 := szL_le fun x hx => g x (hS.2.good x hx)
 unfold spec_l23Go impl_seqSearch_search
 exact search_eq deep s (by rw [deep_eq]; unfold szQ; omega) (by omega) (by omega) [] ⟨by simp, by simp⟩
end Go.PF
namespace Go.PF
open Go.Pu
theorem eq_SeqStep (a : SeqStep) : laws_eqSeqStep a a = some true := by
 unfold laws_eqSeqStep
 rw [eq_Sequent, bd_some, eqS]
 simp
theorem eq_SeqStepS (a : List SeqStep) : laws_eqSeqStepS a a = some true := by
 unfold laws_eqSeqStepS
 exact eq_list (eq := laws_eqSeqStep) (f := fun i23 y22 s23 => bd (ix a ((i23 : Nat) : Int)) (fun x86 => bd (PF.laws_eqSeqStep y22 x86) (fun r92 => (bif (!r92) then some (Lp.rt false) else some (Lp.nx ()))))) (fun _ _ _ => rfl) (fun y _ => eq_SeqStep y)
theorem tot_one {A : Type} (l : List A) : tot (fun _ => 1) l = l.length := by
 induction l with
 | nil => rfl
 | cons x l ih => simp only [tot, ih, List.length_cons]; omega
theorem mark_StringS (a : List ByteArray) {k : Int} (h0 : 0 ≤ k) (h1 : k + a.length ≤ 9223372036854775807) : (laws_markStringS a k).2 = k + a.length := by
 unfold laws_markStringS
 have := mark_end (F := fun (y : ByteArray) m => ((PF.laws_markText m), (wr (m + 1)))) (wt := fun _ => 1) (l := a) (k := k) (fun y _ k h0 h1 => wr_of _ (by omega) (by omega)) h0 (by rw [tot_one]; omega)
 rw [tot_one] at this; exact this
theorem held_StringS (a : List ByteArray) {k : Int} (h0 : 0 ≤ k) (h1 : k + a.length ≤ 9223372036854775807) : laws_heldStringS (laws_markStringS a k).1 k = some (laws_markStringS a k).2 := by
 unfold laws_heldStringS laws_markStringS forL
 rw [held_list (F := fun (y : ByteArray) m => ((PF.laws_markText m), (wr (m + 1)))) (wt := fun _ => 1) (l := a) (k := k) (fun y _ k h0 h1 => ⟨wr_of _ (by omega) (by omega), fun i => by
  show (bif !((laws_markText k).toList == (laws_markText k).toList) then _ else _) = _
  rw [eqS, decide_eq_true rfl]; rfl⟩) h0 (by rw [tot_one]; omega)]
 rfl
def wtStep (y : SeqStep) : Nat := y.seq.left.length + y.seq.right.length + 4
noncomputable def mkStep (y : SeqStep) (m : Int) : SeqStep × Int := ((SeqStep.mk (Sequent.mk ((PF.laws_markStringS y.seq.left m).1) ((PF.laws_markStringS y.seq.right ((PF.laws_markStringS y.seq.left m).2)).1)) ((PF.laws_markStringS y.seq.right ((PF.laws_markStringS y.seq.left m).2)).2) (PF.laws_markText (wr ((PF.laws_markStringS y.seq.right ((PF.laws_markStringS y.seq.left m).2)).2 + 1))) (wr ((wr ((PF.laws_markStringS y.seq.right ((PF.laws_markStringS y.seq.left m).2)).2 + 1)) + 1)) (wr ((wr ((wr ((PF.laws_markStringS y.seq.right ((PF.laws_markStringS y.seq.left m).2)).2 + 1)) + 1)) + 1))), (wr ((wr ((wr ((wr ((PF.laws_markStringS y.seq.right ((PF.laws_markStringS y.seq.left m).2)).2 + 1)) + 1)) + 1)) + 1)))
noncomputable def heldB (i22 : Nat) (y21 : SeqStep) (s22 : Int) : Option (Lp Int Int) := bd (PF.laws_heldStringS y21.seq.left s22) (fun r129 => (bif (decide (r129 < 0)) then some (Lp.rt (-1)) else bd (PF.laws_heldStringS y21.seq.right r129) (fun r145 => (bif (decide (r145 < 0)) then some (Lp.rt (-1)) else (bif (!(y21.rule == r145)) then some (Lp.rt (-1)) else (bif (!(y21.main.toList == (PF.laws_markText (wr (r145 + 1))).toList)) then some (Lp.rt (-1)) else (bif (!(y21.a == (wr ((wr (r145 + 1)) + 1)))) then some (Lp.rt (-1)) else (bif (!(y21.b == (wr ((wr ((wr (r145 + 1)) + 1)) + 1)))) then some (Lp.rt (-1)) else some (Lp.nx (wr ((wr ((wr ((wr (r145 + 1)) + 1)) + 1)) + 1)))))))))))
theorem mkStep_ok (y : SeqStep) {k : Int} (h0 : 0 ≤ k) (h1 : k + wtStep y ≤ 9223372036854775807) : (mkStep y k).2 = k + wtStep y ∧ ∀ i, heldB i (mkStep y k).1 k = some (.nx (mkStep y k).2) := by
 unfold wtStep at *
 have m1 := mark_StringS y.seq.left h0 (by omega)
 have m2 := mark_StringS y.seq.right (k := (laws_markStringS y.seq.left k).2) (by omega) (by omega)
 have e1 := held_StringS y.seq.left h0 (by omega)
 have e2 := held_StringS y.seq.right (k := (laws_markStringS y.seq.left k).2) (by omega) (by omega)
 generalize hL : laws_markStringS y.seq.left k = L at *
 generalize hR : laws_markStringS y.seq.right L.2 = R at *
 have hr : R.2 = k + y.seq.left.length + y.seq.right.length := by omega
 have w1 : wr (R.2 + 1) = R.2 + 1 := wr_of _ (by omega) (by omega)
 have w2 : wr (R.2 + 1 + 1) = R.2 + 1 + 1 := wr_of _ (by omega) (by omega)
 have w3 : wr (R.2 + 1 + 1 + 1) = R.2 + 1 + 1 + 1 := wr_of _ (by omega) (by omega)
 have w4 : wr (R.2 + 1 + 1 + 1 + 1) = R.2 + 1 + 1 + 1 + 1 := wr_of _ (by omega) (by omega)
 refine ⟨?_, fun i => ?_⟩
 · unfold mkStep
   rw [hL]
   dsimp only
   rw [hR, w1, w2, w3, w4]; omega
 · unfold heldB mkStep
   rw [hL, hR]
   rw [e1, bd_some, decide_eq_false (by omega), cond_false, e2, bd_some, decide_eq_false (by omega), cond_false, eqS]
   simp
theorem mark_SeqStepS {a : List SeqStep} {k : Int} (h0 : 0 ≤ k) (h1 : k + tot wtStep a ≤ 9223372036854775807) : (laws_markSeqStepS a k).2 = k + tot wtStep a := by
 unfold laws_markSeqStepS
 exact mark_end (F := mkStep) (fun y _ k h0 h1 => (mkStep_ok y h0 h1).1) h0 h1
theorem held_SeqStepS {a : List SeqStep} {k : Int} (h0 : 0 ≤ k) (h1 : k + tot wtStep a ≤ 9223372036854775807) : laws_heldSeqStepS (laws_markSeqStepS a k).1 k = some (laws_markSeqStepS a k).2 := by
 unfold laws_heldSeqStepS laws_markSeqStepS forL
 have := held_list (F := mkStep) (wt := wtStep) (f := heldB) (l := a) (k := k) (i := 0) (fun y _ k h0 h1 => mkStep_ok y h0 h1) h0 h1
 have e : forLFrom heldB (markFrom mkStep a k).1 0 k = some (.go (markFrom mkStep a k).2) := this
 show bdR (forLFrom heldB (markFrom mkStep a k).1 0 k) _ _ = _
 rw [e]; rfl
structure Few (a : List SeqStep) : Prop where
 len : a.length ≤ 1000
 sides : ∀ y ∈ a, y.seq.left.length ≤ 1000 ∧ y.seq.right.length ≤ 1000
theorem Few.tot {a : List SeqStep} (h : Few a) : tot wtStep a ≤ 2004 * a.length := by
 obtain ⟨h0, h⟩ := h
 clear h0
 induction a with
 | nil => simp [Pu.tot]
 | cons y a ih =>
  have h1 := h y (List.mem_cons_self ..)
  have h2 := ih fun z hz => h z (List.mem_cons_of_mem _ hz)
  simp only [Pu.tot, List.length_cons, wtStep]; omega
theorem Few.marks {a : List SeqStep} (h : Few a) : ∃ m, (laws_markSeqStepS a 1).2 = m ∧ laws_heldSeqStepS (laws_markSeqStepS a 1).1 1 = some m ∧ 0 ≤ m := by
 have := h.tot
 have := h.len
 have h1 := mark_SeqStepS (a := a) (k := 1) (by omega) (by omega)
 exact ⟨_, rfl, held_SeqStepS (by omega) (by omega), by omega⟩
end Go.PF
namespace Go.PF
open Go.Pu
theorem own_eq {s : Sequent} (h1 : s.left.length ≤ lim) (h2 : s.right.length ≤ lim) : spec_l23Own s = some s := by
 unfold spec_l23Own
 rw [app_ok (by simpa using h1), bd_some, app_ok (by simpa using h2), bd_some]; rfl
theorem own_loop {l : List SeqStep} (hl : l.length ≤ 1000000) (hs : ∀ y ∈ l, y.seq.left.length ≤ lim ∧ y.seq.right.length ≤ lim)
 {body : List SeqStep × Int → Option (Lp (List SeqStep × Int) Empty)} (hb : ∀ s74, body s74 = (bif (decide (s74.2 < (len s74.1))) then bd (ix s74.1 s74.2) (fun x156154 => bd (PF.spec_l23Own x156154.seq) (fun r165148 => bd (ix s74.1 s74.2) (fun x168154 => bd (put s74.1 s74.2 (SeqStep.mk r165148 x168154.rule x168154.main x168154.a x168154.b)) (fun xs174151 => some (Lp.nx (xs174151, (wr (s74.2 + 1)))))))) else some (Lp.bk (s74.1, s74.2)))) :
 ∃ i, iter body (l, 0) = some (.go (l, i)) := by
 have key : ∀ (n k : Nat), k + n = l.length → ∃ i, iter body (l, (k : Int)) = some (.go (l, i)) := by
  intro n
  induction n with
  | zero =>
   intro k hk
   refine ⟨(k : Int), iter_bk ?_⟩
   rw [hb, bifF (decide_eq_false (by rw [len_eq]; show ¬ ((k : Int) < ((l.length : Nat) : Int)); omega))]
  | succ n ih =>
   intro k hk
   obtain ⟨y, hy⟩ : ∃ y, l[k]? = some y := ⟨_, List.getElem?_eq_getElem (by omega)⟩
   obtain ⟨s1, s2⟩ := hs y (List.mem_of_getElem? hy)
   obtain ⟨i, hi⟩ := ih (k + 1) (by omega)
   refine ⟨i, ?_⟩
   rw [← hi]
   refine iter_nx ?_
   rw [hb, bifT (decide_eq_true (by rw [len_eq]; show (k : Int) < ((l.length : Nat) : Int); omega))]
   dsimp only
   rw [ix_get, hy, bd_some, own_eq s1 s2, bd_some, bd_some, put_ok (by omega), bd_some, wr_k (by omega)]
   have : l.set k (SeqStep.mk y.seq y.rule y.main y.a y.b) = l := by
    apply List.ext_getElem?
    intro j
    by_cases e : k = j
    · subst e; rw [List.getElem?_set_self (by omega), hy]
    · rw [List.getElem?_set_ne e]
   rw [this]
 exact key l.length 0 (by omega)
theorem search_spec {s : Sequent} (h1 : s.left.length ≤ lim) (h2 : s.right.length ≤ lim) : ∃ r, spec_SearchSequent s = some r ∧ impl_SearchSequent s = some r ∧ Few r.1 := by
 unfold spec_SearchSequent impl_SearchSequent
 rw [spec_l23Good_eq, bd_some]
 cases hs : seqB s with
 | false =>
  rw [search_bad h1 h2 hs]
  exact ⟨_, rfl, rfl, ⟨by simp, by simp⟩⟩
 | true =>
  obtain ⟨o, ok, x, e1, e2, hE⟩ := search_good hs
  rw [Bool.not_true, cond_false, e1, bd_some, e2, bd_some]
  rcases hE with ⟨rfl, rfl, ho, hl⟩ | ⟨rfl, ⟨b1, b2, b3⟩ | ⟨q, b1, b2, b3, b4, b5⟩⟩
  · dsimp only
    have sd : ∀ y ∈ x.steps, y.seq.left.length ≤ 12 ∧ y.seq.right.length ≤ 12 := fun y hy => by
     have := hl.seq y hy
     unfold seqB at this
     rw [Bool.and_eq_true, sideB_iff, sideB_iff] at this
     exact ⟨this.1.len, this.2.len⟩
    have hlen := hl.len
    rw [cond_false, cond_false]
    obtain ⟨i, hi⟩ := own_loop (l := x.steps) (by omega) (fun y hy => by have := sd y hy; unfold lim; omega) (body := fun s74 => (bif (decide (s74.2 < (len s74.1))) then bd (ix s74.1 s74.2) (fun x156154 => bd (PF.spec_l23Own x156154.seq) (fun r165148 => bd (ix s74.1 s74.2) (fun x168154 => bd (put s74.1 s74.2 (SeqStep.mk r165148 x168154.rule x168154.main x168154.a x168154.b)) (fun xs174151 => some (Lp.nx (xs174151, (wr (s74.2 + 1)))))))) else some (Lp.bk (s74.1, s74.2)))) (fun _ => rfl)
    refine ⟨(x.steps, true), ?_, rfl, ⟨by dsimp only; omega, fun y hy => by have := sd y hy; omega⟩⟩
    rw [hi]; rfl
  · rw [b2, b1]; exact ⟨_, rfl, rfl, ⟨by simp, by simp⟩⟩
  · rw [b1]; exact ⟨_, rfl, rfl, ⟨by simp, by simp⟩⟩
end Go.PF
namespace Go.PF
open Go.Pu
def fch (b : UInt8) : Bool := b != 44 && b != 32
theorem txt_fch {t : Ft} (h : t.wf = true) : ∀ b ∈ t.txt, fch b = true := by
 induction t with
 | leaf c =>
  intro b hb
  rw [Ft.txt, List.mem_singleton] at hb
  subst hb
  have hl : isLf b = true := h
  unfold fch
  have h1 : b ≠ 44 := by rintro rfl; revert hl; decide
  have h2 : b ≠ 32 := by rintro rfl; revert hl; decide
  simp [h1, h2]
 | neg a ih =>
  intro b hb
  rw [Ft.txt, List.mem_cons] at hb
  rcases hb with rfl | hb
  · decide
  · exact ih h b hb
 | bin op a b' iha ihb =>
  simp only [Ft.wf, Bool.and_eq_true] at h
  intro b hb
  simp only [Ft.txt, List.mem_cons, List.mem_append, List.not_mem_nil, or_false] at hb
  rcases hb with rfl | hb | rfl | hb | rfl
  · decide
  · exact iha h.1.2 b hb
  · have ho := h.1.1
    unfold fch
    have h1 : b ≠ 44 := by rintro rfl; revert ho; decide
    have h2 : b ≠ 32 := by rintro rfl; revert ho; decide
    simp [h1, h2]
  · exact ihb h.2 b hb
  · decide
def FT (x : ByteArray) : Prop := (∀ b ∈ bs x, fch b = true) ∧ bs x ≠ []
theorem FT_good {x : ByteArray} (h : goodB x = true) : FT x := by
 obtain ⟨t, h1, h2, h3, _, _⟩ := good_ft h
 rw [h3]
 exact ⟨by rw [bs_tx]; exact txt_fch h2, by rw [bs_tx]; exact t.txt_ne⟩
theorem FT_txt {t : Ft} (h : t.wf = true) : FT (tx t.txt) := ⟨by rw [bs_tx]; exact txt_fch h, by rw [bs_tx]; exact t.txt_ne⟩
def stopB (u : List UInt8) : Prop := match u with
 | [] => True
 | b :: _ => fch b = false
theorem split_fch : ∀ {e e' u u' : List UInt8}, (∀ b ∈ e, fch b = true) → (∀ b ∈ e', fch b = true) → stopB u → stopB u' → e ++ u = e' ++ u' → e = e' ∧ u = u'
 | [], [], _, _, _, _, _, _, h => ⟨rfl, h⟩
 | [], b :: e', u, u', _, h2, h3, _, h => by
  simp only [List.nil_append, List.cons_append] at h
  subst h
  have := h2 b (List.mem_cons_self ..)
  simp only [stopB] at h3
  rw [this] at h3; cases h3
 | b :: e, [], u, u', h1, _, _, h4, h => by
  simp only [List.nil_append, List.cons_append] at h
  subst h
  have := h1 b (List.mem_cons_self ..)
  simp only [stopB] at h4
  rw [this] at h4; cases h4
 | b :: e, c :: e', u, u', h1, h2, h3, h4, h => by
  simp only [List.cons_append, List.cons.injEq] at h
  obtain ⟨g1, g2⟩ := split_fch (fun x hx => h1 x (List.mem_cons_of_mem _ hx)) (fun x hx => h2 x (List.mem_cons_of_mem _ hx)) h3 h4 h.2
  exact ⟨by rw [h.1, g1], g2⟩
def tailT : List ByteArray → List UInt8
 | [] => []
 | x :: l => [44, 32] ++ bs x ++ tailT l
def sideT : List ByteArray → List UInt8
 | [] => []
 | x :: l => bs x ++ tailT l
def seqT (s : Sequent) : List UInt8 := sideT s.left ++ [32, 124, 45, 32] ++ sideT s.right
theorem tail_stop (l : List ByteArray) (u : List UInt8) (hu : stopB u) : stopB (tailT l ++ u) := by
 cases l with
 | nil => exact hu
 | cons x l => show fch 44 = false; rfl
theorem tail_inj : ∀ {l m : List ByteArray} {u v : List UInt8}, (∀ x ∈ l, FT x) → (∀ x ∈ m, FT x) → (∀ w, u ≠ 44 :: w) → (∀ w, v ≠ 44 :: w) → stopB u → stopB v → tailT l ++ u = tailT m ++ v → l = m ∧ u = v
 | [], [], _, _, _, _, _, _, _, _, h => ⟨rfl, h⟩
 | [], x :: m, u, v, _, _, h3, _, _, _, h => by
  simp only [tailT, List.nil_append, List.cons_append] at h
  exact absurd h (h3 _)
 | x :: l, [], u, v, _, _, _, h4, _, _, h => by
  simp only [tailT, List.nil_append, List.cons_append] at h
  exact absurd h.symm (h4 _)
 | x :: l, y :: m, u, v, h1, h2, h3, h4, h5, h6, h => by
  simp only [tailT, List.cons_append, List.nil_append, List.cons.injEq, true_and, List.append_assoc] at h
  obtain ⟨g1, g2⟩ := split_fch (h1 x (List.mem_cons_self ..)).1 (h2 y (List.mem_cons_self ..)).1 (tail_stop l u h5) (tail_stop m v h6) h
  obtain ⟨g3, g4⟩ := tail_inj (fun z hz => h1 z (List.mem_cons_of_mem _ hz)) (fun z hz => h2 z (List.mem_cons_of_mem _ hz)) h3 h4 h5 h6 g2
  exact ⟨by rw [bs_ext g1, g3], g4⟩
theorem side_inj {l m : List ByteArray} {u v : List UInt8} (h1 : ∀ x ∈ l, FT x) (h2 : ∀ x ∈ m, FT x) (h3 : ∀ w, u ≠ 44 :: w) (h4 : ∀ w, v ≠ 44 :: w) (h5 : stopB u) (h6 : stopB v) (h : sideT l ++ u = sideT m ++ v) : l = m ∧ u = v := by
 have first : ∀ {x : ByteArray} {l : List ByteArray} {u v : List UInt8}, FT x → stopB v → bs x ++ tailT l ++ u = v → False := by
  intro x l u v hx hv e
  subst e
  cases hb : bs x with
  | nil => exact hx.2 hb
  | cons b r =>
   rw [hb] at hv
   simp only [List.cons_append, stopB] at hv
   have := hx.1 b (by rw [hb]; exact List.mem_cons_self ..)
   rw [this] at hv; cases hv
 cases l with
 | nil =>
  cases m with
  | nil => exact ⟨rfl, h⟩
  | cons y m => exact (first (h2 y (List.mem_cons_self ..)) h5 h.symm).elim
 | cons x l =>
  cases m with
  | nil => exact (first (h1 x (List.mem_cons_self ..)) h6 h).elim
  | cons y m =>
   simp only [sideT, List.append_assoc] at h
   obtain ⟨g1, g2⟩ := split_fch (h1 x (List.mem_cons_self ..)).1 (h2 y (List.mem_cons_self ..)).1 (tail_stop l u h5) (tail_stop m v h6) h
   obtain ⟨g3, g4⟩ := tail_inj (fun z hz => h1 z (List.mem_cons_of_mem _ hz)) (fun z hz => h2 z (List.mem_cons_of_mem _ hz)) h3 h4 h5 h6 g2
   exact ⟨by rw [bs_ext g1, g3], g4⟩
structure FQ (s : Sequent) : Prop where
 l : ∀ x ∈ s.left, FT x ∧ x.size ≤ 1000
 r : ∀ x ∈ s.right, FT x ∧ x.size ≤ 1000
 ll : s.left.length ≤ 1000
 lr : s.right.length ≤ 1000
theorem seqT_inj {s t : Sequent} (hs : FQ s) (ht : FQ t) : seqT s = seqT t ↔ s = t := by
 constructor
 · intro h
   unfold seqT at h
   simp only [List.append_assoc] at h
   have st : ∀ w : List UInt8, stopB ([32, 124, 45, 32] ++ w) := fun w => by show fch 32 = false; rfl
   obtain ⟨g1, g2⟩ := side_inj (fun x hx => (hs.l x hx).1) (fun x hx => (ht.l x hx).1) (by simp) (by simp) (st _) (st _) h
   have g3 : sideT s.right ++ [] = sideT t.right ++ [] := by simpa using g2
   obtain ⟨g4, _⟩ := side_inj (fun x hx => (hs.r x hx).1) (fun x hx => (ht.r x hx).1) (by simp) (by simp) (show stopB [] from trivial) (show stopB [] from trivial) g3
   cases s; cases t; simp only at g1 g4; rw [g1, g4]
 · rintro rfl; rfl
theorem join_loop {l : List ByteArray} (hl : ∀ x ∈ l, x.size ≤ 1000) (hn : l.length ≤ 1000) {u : ByteArray} (hu : u.size ≤ 10000000) {body : ByteArray × Int → Option (Lp (ByteArray × Int) Empty)}
 (hb : ∀ s, body s = (bif (decide (s.2 < (len l))) then (bif (decide (0 < s.2)) then bd (catS s.1 (ByteArray.mk #[44, 32])) (fun z72 => bd (ix l s.2) (fun x80 => bd (catS z72 x80) (fun z82 => some (Lp.nx (z82, (wr (s.2 + 1))))))) else bd (ix l s.2) (fun x90 => bd (catS s.1 x90) (fun z92 => some (Lp.nx (z92, (wr (s.2 + 1))))))) else some (Lp.bk (s.1, s.2)))) :
 ∃ r i, iter body (u, 0) = some (.go (r, i)) ∧ bs r = bs u ++ sideT l ∧ r.size ≤ u.size + 1002 * l.length := by
 have key : ∀ (m : List ByteArray) (k : Nat) (t : ByteArray), 0 < k → l.drop k = m → k ≤ l.length → t.size + 1002 * m.length ≤ 20000000 → ∃ r i, iter body (t, (k : Int)) = some (.go (r, i)) ∧ bs r = bs t ++ tailT m ∧ r.size ≤ t.size + 1002 * m.length := by
  intro m
  induction m with
  | nil =>
   intro k t hk hd hle _
   have e : k = l.length := by
    have := congrArg List.length hd
    rw [List.length_drop, List.length_nil] at this; omega
   refine ⟨t, (k : Int), iter_bk ?_, by simp [tailT], by simp⟩
   rw [hb, bifF (decide_eq_false (by rw [len_eq]; show ¬ ((k : Int) < ((l.length : Nat) : Int)); omega))]
  | cons x m ih =>
   intro k t hk hd hle hz
   have hkl : k < l.length := by
    have := congrArg List.length hd
    rw [List.length_drop, List.length_cons] at this; omega
   have hx : l[k]? = some x := by
    have : (l.drop k)[0]? = some x := by rw [hd]; rfl
    rwa [List.getElem?_drop, Nat.add_zero] at this
   have hd' : l.drop (k + 1) = m := by rw [← List.tail_drop, hd]; rfl
   have hxs := hl x (List.mem_of_getElem? hx)
   rw [List.length_cons] at hz
   have s2 : (ByteArray.mk #[44, 32]).size = 2 := rfl
   obtain ⟨r, i, r1, r2, r3⟩ := ih (k + 1) (t ++ ByteArray.mk #[44, 32] ++ x) (by omega) hd' (by omega) (by rw [ByteArray.size_append, ByteArray.size_append, s2]; omega)
   refine ⟨r, i, ?_, ?_, ?_⟩
   · rw [← r1]
     refine iter_nx ?_
     rw [hb, bifT (decide_eq_true (by rw [len_eq]; show (k : Int) < ((l.length : Nat) : Int); omega)), bifT (decide_eq_true (show 0 < (k : Int) by omega))]
     dsimp only
     rw [catS_ok (by rw [s2]; omega), bd_some, ix_get, hx, bd_some, catS_ok (by rw [ByteArray.size_append, s2]; omega), bd_some, wr_k (by omega)]
   · rw [r2, bs_app, bs_app]; simp [tailT, bs]
   · rw [ByteArray.size_append, ByteArray.size_append, s2] at r3
     rw [List.length_cons]; omega
 cases l with
 | nil =>
  refine ⟨u, 0, iter_bk ?_, by simp [sideT], by simp⟩
  rw [hb]; rfl
 | cons x m =>
  rw [List.length_cons] at hn
  have hxs := hl x (List.mem_cons_self ..)
  obtain ⟨r, i, r1, r2, r3⟩ := key m 1 (u ++ x) (by omega) rfl (by simp) (by rw [ByteArray.size_append]; omega)
  refine ⟨r, i, ?_, ?_, ?_⟩
  · rw [show ((1 : Nat) : Int) = 1 from rfl] at r1
    rw [← r1]
    refine iter_nx ?_
    rw [hb, bifT (decide_eq_true (by rw [len_eq]; show (0 : Int) < (((x :: m).length : Nat) : Int); rw [List.length_cons]; omega)), bifF (decide_eq_false (show ¬ (0 : Int) < 0 by omega))]
    dsimp only
    rw [show ix (x :: m) 0 = some x from rfl, bd_some, catS_ok (by omega), bd_some]; rfl
  · rw [r2, bs_app]; simp [sideT]
  · rw [ByteArray.size_append] at r3
    rw [List.length_cons]; omega
theorem spec_l23Text_eq {s : Sequent} (h : FQ s) : ∃ r, spec_l23Text s = some r ∧ bs r = seqT s := by
 unfold spec_l23Text
 obtain ⟨r, i, r1, r2, r3⟩ := join_loop (l := s.left) (fun x hx => (h.l x hx).2) h.ll (u := ByteArray.mk #[]) (by decide) (body := fun s29 => (bif (decide (s29.2 < (len s.left))) then (bif (decide (0 < s29.2)) then bd (catS s29.1 (ByteArray.mk #[44, 32])) (fun z72 => bd (ix s.left s29.2) (fun x80 => bd (catS z72 x80) (fun z82 => some (Lp.nx (z82, (wr (s29.2 + 1))))))) else bd (ix s.left s29.2) (fun x90 => bd (catS s29.1 x90) (fun z92 => some (Lp.nx (z92, (wr (s29.2 + 1))))))) else some (Lp.bk (s29.1, s29.2)))) (fun _ => rfl)
 rw [r1, bdR_go]
 have hz : (ByteArray.mk #[]).size = 0 := rfl
 have h4 : (ByteArray.mk #[32, 124, 45, 32]).size = 4 := rfl
 have := h.ll
 have := h.lr
 rw [catS_ok (by rw [h4]; dsimp only; omega), bd_some]
 obtain ⟨q, j, q1, q2, q3⟩ := join_loop (l := s.right) (fun x hx => (h.r x hx).2) h.lr (u := r ++ ByteArray.mk #[32, 124, 45, 32]) (by rw [ByteArray.size_append, h4]; omega) (body := fun s29 => (bif (decide (s29.2 < (len s.right))) then (bif (decide (0 < s29.2)) then bd (catS s29.1 (ByteArray.mk #[44, 32])) (fun z72 => bd (ix s.right s29.2) (fun x80 => bd (catS z72 x80) (fun z82 => some (Lp.nx (z82, (wr (s29.2 + 1))))))) else bd (ix s.right s29.2) (fun x90 => bd (catS s29.1 x90) (fun z92 => some (Lp.nx (z92, (wr (s29.2 + 1))))))) else some (Lp.bk (s29.1, s29.2)))) (fun _ => rfl)
 rw [q1, bdR_go]
 refine ⟨q, rfl, ?_⟩
 rw [q2, bs_app, r2]
 unfold seqT
 simp [bs]
theorem spec_l23Same_eq {s t : Sequent} (hs : FQ s) (ht : FQ t) : ∃ b, spec_l23Same s t = some b ∧ (b = true ↔ s = t) := by
 unfold spec_l23Same
 obtain ⟨r, r1, r2⟩ := spec_l23Text_eq hs
 obtain ⟨q, q1, q2⟩ := spec_l23Text_eq ht
 rw [r1, bd_some, q1, bd_some]
 refine ⟨_, rfl, ?_⟩
 rw [toList_bs, toList_bs, r2, q2, beq_iff_eq]
 exact seqT_inj hs ht
theorem slices_Equal_string_eq (a b : List ByteArray) : ∃ r, slices_Equal_string_string a b = some r ∧ (r = true ↔ a = b) := by
 unfold slices_Equal_string_string
 by_cases hl : a.length = b.length
 · rw [show ((len a) == (len b)) = true by rw [beq_iff_eq, len_eq, len_eq, hl], Bool.not_true, cond_false]
   rw [forL_any (p := fun i y => match b[i]? with | some x => !decide (y = x) | none => false) (v := false) (fun i y hy => by
    have hi := lt_of_get hy
    obtain ⟨x, hx⟩ : ∃ x, b[i]? = some x := ⟨_, List.getElem?_eq_getElem (by omega)⟩
    rw [ix_get, hx, bd_some, eqS])]
   cases hc : anyI (fun i y => match b[i]? with | some x => !decide (y = x) | none => false) a 0 with
   | false =>
    refine ⟨_, rfl, ⟨fun _ => ?_, fun _ => rfl⟩⟩
    have := anyI_false.1 hc
    apply List.ext_getElem?
    intro i
    by_cases hi : i < a.length
    · obtain ⟨y, hy⟩ : ∃ y, a[i]? = some y := ⟨_, List.getElem?_eq_getElem hi⟩
      obtain ⟨x, hx⟩ : ∃ x, b[i]? = some x := ⟨_, List.getElem?_eq_getElem (by omega)⟩
      have h2 := this i y hy
      rw [Nat.zero_add, hx] at h2
      simp only [Bool.not_eq_false', decide_eq_true_eq] at h2
      rw [hy, hx, h2]
    · rw [List.getElem?_eq_none (by omega), List.getElem?_eq_none (by omega)]
   | true =>
    refine ⟨_, rfl, ⟨fun h => (by cases h), fun h => ?_⟩⟩
    subst h
    have : anyI (fun i y => match a[i]? with | some x => !decide (y = x) | none => false) a 0 = false := anyI_false.2 fun i y hy => by
     rw [Nat.zero_add, hy]; simp
    rw [this] at hc; cases hc
 · rw [show ((len a) == (len b)) = false by rw [beq_eq_false_iff_ne, len_eq, len_eq]; omega]
   exact ⟨_, rfl, ⟨fun h => (by cases h), fun h => absurd (by rw [h]) hl⟩⟩
theorem impl_sameSequent_eq (s t : Sequent) : ∃ r, impl_sameSequent s t = some r ∧ (r = true ↔ s = t) := by
 unfold impl_sameSequent
 obtain ⟨r, r1, r2⟩ := slices_Equal_string_eq s.left t.left
 obtain ⟨q, q1, q2⟩ := slices_Equal_string_eq s.right t.right
 rw [r1, bd_some]
 cases r with
 | false => exact ⟨_, rfl, ⟨fun h => (by cases h), fun h => absurd (r2.2 (by rw [h])) (by simp)⟩⟩
 | true =>
  rw [cond_true, q1]
  refine ⟨_, rfl, ?_⟩
  rw [q2]
  constructor
  · intro h
    cases s; cases t
    have := r2.1 rfl
    simp only at this h
    rw [this, h]
  · rintro rfl; rfl
end Go.PF
namespace Go.PF
open Go.Pu
def PreP (S : List SeqStep) (k : Nat) (i : Int) (p : Sequent → Prop) : Prop := ∃ j : Nat, i = (j : Int) ∧ j < k ∧ ∃ y, S[j]? = some y ∧ seqB y.seq = true ∧ p y.seq
structure SOk (S : List SeqStep) : Prop where
 len : S.length ≤ 1048576
 sides : ∀ y ∈ S, y.seq.left.length ≤ lim ∧ y.seq.right.length ≤ lim
theorem FQ_good {s : Sequent} (h : seqB s = true) : FQ s := by
 unfold seqB at h
 rw [Bool.and_eq_true, sideB_iff, sideB_iff] at h
 have g : ∀ x, goodB x = true → FT x ∧ x.size ≤ 1000 := fun x hx => ⟨FT_good hx, by
  obtain ⟨_, _, _, _, h80, _⟩ := good_ft hx; omega⟩
 have := h.1.len; have := h.2.len
 exact ⟨fun x hx => g x (h.1.good x hx), fun x hx => g x (h.2.good x hx), by omega, by omega⟩
theorem FT_AB {t : Ft} (h : t.wf = true) (hl : ∀ c, t ≠ .leaf c) (hz : t.txt.length ≤ 80) : (FT t.tA ∧ t.tA.size ≤ 1000) ∧ ((∃ op a b, t = .bin op a b) → FT t.tB ∧ t.tB.size ≤ 1000) := by
 cases t with
 | leaf c => exact absurd rfl (hl c)
 | neg a =>
  simp only [Ft.txt, List.length_cons] at hz
  exact ⟨⟨FT_txt (t := a) h, by show (tx a.txt).size ≤ _; rw [tx_size]; omega⟩, fun ⟨_, _, _, e⟩ => by cases e⟩
 | bin op a b =>
  simp only [Ft.txt, List.length_cons, List.length_append, List.length_nil] at hz
  simp only [Ft.wf, Bool.and_eq_true] at h
  exact ⟨⟨FT_txt h.1.2, by show (tx a.txt).size ≤ _; rw [tx_size]; omega⟩, fun _ => ⟨FT_txt h.2, by show (tx b.txt).size ≤ _; rw [tx_size]; omega⟩⟩
theorem FQ_prem {s : Sequent} {t : Ft} {l : Bool} (hs : seqB s = true) (hw : t.wf = true) (hz : t.txt.length ≤ 80) (h0 : ruleV t l ≠ 0) : ∀ p ∈ premV s (ruleV t l) t, FQ p := by
 have hq := FQ_good hs
 have hl : ∀ c, t ≠ .leaf c := fun c e => by subst e; exact h0 rfl
 obtain ⟨hA, hB⟩ := FT_AB hw hl hz
 have hS := hs
 unfold seqB at hS
 rw [Bool.and_eq_true, sideB_iff, sideB_iff] at hS
 have n1 := hS.1.len
 have n2 := hS.2.len
 have lk : ∀ {m : List ByteArray} {x : ByteArray}, (∀ y ∈ m, FT y ∧ y.size ≤ 1000) → ∀ y ∈ lackS m x, FT y ∧ y.size ≤ 1000 := fun h y hy => h y (List.mem_filter.1 hy).1
 have w : ∀ {m q : List ByteArray}, (∀ y ∈ m, FT y ∧ y.size ≤ 1000) → (∀ y ∈ q, FT y ∧ y.size ≤ 1000) → ∀ y ∈ wS m q, FT y ∧ y.size ≤ 1000 := fun h1 h2 y hy => by
  unfold wS at hy
  rw [mem_setO STO_F, List.mem_append] at hy
  exact hy.elim (h1 y) (h2 y)
 have wl : ∀ m q : List ByteArray, (wS m q).length ≤ m.length + q.length := fun m q => by
  have := setO_len (l := m ++ q)
  unfold wS; rw [List.length_append] at this; exact this
 have k1 := lack_len s.left (tx t.txt)
 have k2 := lack_len s.right (tx t.txt)
 have oneA : ∀ y ∈ [t.tA], FT y ∧ y.size ≤ 1000 := fun y hy => by rw [List.mem_singleton.1 hy]; exact hA
 have a1 := wl s.left [t.tA]; have a2 := wl s.right [t.tA]
 have a3 := wl (lackS s.left (tx t.txt)) [t.tA]; have a4 := wl (lackS s.right (tx t.txt)) [t.tA]
 have a5 := wl (lackS s.left (tx t.txt)) [t.tB]; have a6 := wl (lackS s.right (tx t.txt)) [t.tB]
 have a7 := wl (lackS s.left (tx t.txt)) [t.tA, t.tB]; have a8 := wl (lackS s.right (tx t.txt)) [t.tA, t.tB]
 simp only [List.length_cons, List.length_nil] at a1 a2 a3 a4 a5 a6 a7 a8
 cases t with
 | leaf c => exact absurd rfl (hl c)
 | neg a =>
  cases l with
  | true =>
   intro p hp
   have hp : p ∈ [(⟨lackS s.left (tx (Ft.neg a).txt), wS s.right [(Ft.neg a).tA]⟩ : Sequent)] := hp
   rw [List.mem_singleton.1 hp]
   exact ⟨lk hq.l, w hq.r oneA, by dsimp only; omega, by dsimp only; omega⟩
  | false =>
   intro p hp
   have hp : p ∈ [(⟨wS s.left [(Ft.neg a).tA], lackS s.right (tx (Ft.neg a).txt)⟩ : Sequent)] := hp
   rw [List.mem_singleton.1 hp]
   exact ⟨w hq.l oneA, lk hq.r, by dsimp only; omega, by dsimp only; omega⟩
 | bin op a b =>
  have hB := hB ⟨op, a, b, rfl⟩
  have oneB : ∀ y ∈ [(Ft.bin op a b).tB], FT y ∧ y.size ≤ 1000 := fun y hy => by rw [List.mem_singleton.1 hy]; exact hB
  have both : ∀ y ∈ [(Ft.bin op a b).tA, (Ft.bin op a b).tB], FT y ∧ y.size ≤ 1000 := fun y hy => by
   rcases List.mem_cons.1 hy with rfl | hy
   · exact hA
   · rw [List.mem_singleton.1 hy]; exact hB
  generalize hT : Ft.bin op a b = t at *
  have c1 : FQ ⟨wS (lackS s.left (tx t.txt)) [t.tA, t.tB], s.right⟩ := ⟨w (lk hq.l) both, hq.r, by dsimp only; omega, by dsimp only; omega⟩
  have c2 : FQ ⟨s.left, wS (lackS s.right (tx t.txt)) [t.tA]⟩ := ⟨hq.l, w (lk hq.r) oneA, by dsimp only; omega, by dsimp only; omega⟩
  have c3 : FQ ⟨s.left, wS (lackS s.right (tx t.txt)) [t.tB]⟩ := ⟨hq.l, w (lk hq.r) oneB, by dsimp only; omega, by dsimp only; omega⟩
  have c4 : FQ ⟨wS (lackS s.left (tx t.txt)) [t.tA], s.right⟩ := ⟨w (lk hq.l) oneA, hq.r, by dsimp only; omega, by dsimp only; omega⟩
  have c5 : FQ ⟨wS (lackS s.left (tx t.txt)) [t.tB], s.right⟩ := ⟨w (lk hq.l) oneB, hq.r, by dsimp only; omega, by dsimp only; omega⟩
  have c6 : FQ ⟨s.left, wS (lackS s.right (tx t.txt)) [t.tA, t.tB]⟩ := ⟨hq.l, w (lk hq.r) both, by dsimp only; omega, by dsimp only; omega⟩
  have c7 : FQ ⟨lackS s.left (tx t.txt), wS s.right [t.tA]⟩ := ⟨lk hq.l, w hq.r oneA, by dsimp only; omega, by dsimp only; omega⟩
  have c8 : FQ ⟨wS s.left [t.tA], wS (lackS s.right (tx t.txt)) [t.tB]⟩ := ⟨w hq.l oneA, w (lk hq.r) oneB, by dsimp only; omega, by dsimp only; omega⟩
  intro p hp
  unfold premV at hp
  dsimp only at hp
  split at hp
  · simp only [List.mem_cons, List.not_mem_nil, or_false] at hp; subst hp; exact c7
  split at hp
  · simp only [List.mem_cons, List.not_mem_nil, or_false] at hp; subst hp
    exact ⟨w hq.l oneA, lk hq.r, by dsimp only; omega, by dsimp only; omega⟩
  split at hp
  · simp only [List.mem_cons, List.not_mem_nil, or_false] at hp; subst hp; exact c1
  split at hp
  · simp only [List.mem_cons, List.not_mem_nil, or_false] at hp; rcases hp with rfl | rfl
    · exact c2
    · exact c3
  split at hp
  · simp only [List.mem_cons, List.not_mem_nil, or_false] at hp; rcases hp with rfl | rfl
    · exact c4
    · exact c5
  split at hp
  · simp only [List.mem_cons, List.not_mem_nil, or_false] at hp; subst hp; exact c6
  split at hp
  · simp only [List.mem_cons, List.not_mem_nil, or_false] at hp; rcases hp with rfl | rfl
    · exact c7
    · exact c5
  · simp only [List.mem_cons, List.not_mem_nil, or_false] at hp; subst hp; exact c8
theorem pre_impl {S : List SeqStep} (hS : SOk S) {k : Nat} (hk : k ≤ S.length) {i : Int} {f : Sequent → Option Bool} {p : Sequent → Prop} (hf : ∀ q, seqB q = true → ∃ b, f q = some b ∧ (b = true ↔ p q)) :
 ∃ b, impl_seqCorrect_1 i f (k : Int) S = some b ∧ (b = true ↔ PreP S k i p) := by
 have hl := hS.len
 unfold impl_seqCorrect_1 impl_within
 have hw : wr ((k : Int) - 1) = (k : Int) - 1 := wr_of _ (by omega) (by omega)
 rw [hw]
 by_cases h : 0 ≤ i ∧ i ≤ (k : Int) - 1
 · rw [bifT (decide_eq_true h.1), decide_eq_true h.2, cond_true]
   obtain ⟨j, rfl⟩ := Int.eq_ofNat_of_zero_le h.1
   obtain ⟨y, hy⟩ : ∃ y, S[j]? = some y := ⟨_, List.getElem?_eq_getElem (by omega)⟩
   have sd := hS.sides y (List.mem_of_getElem? hy)
   rw [ix_get, hy, bd_some, impl_IsSequent_eq sd.1 sd.2, bd_some, bd_some]
   cases hq : seqB y.seq with
   | false =>
    refine ⟨_, rfl, ⟨fun g => (by cases g), fun ⟨j', e, _, y', e1, e2, _⟩ => ?_⟩⟩
    have : j' = j := by omega
    subst this
    rw [hy] at e1; cases e1; rw [hq] at e2; cases e2
   | true =>
    obtain ⟨b, b1, b2⟩ := hf y.seq hq
    rw [cond_true, bd_some, b1]
    refine ⟨_, rfl, b2.trans ⟨fun g => ⟨j, rfl, by omega, y, hy, hq, g⟩, fun ⟨j', e, _, y', e1, _, e3⟩ => ?_⟩⟩
    have : j' = j := by omega
    subst this
    rw [hy] at e1; cases e1; exact e3
 · have : (bif decide (0 ≤ i) then decide (i ≤ (k : Int) - 1) else false) = false := by
    by_cases h0 : 0 ≤ i
    · rw [decide_eq_true h0, cond_true]; exact decide_eq_false fun g => h ⟨h0, g⟩
    · rw [decide_eq_false h0]; rfl
   rw [this]
   refine ⟨_, rfl, ⟨fun g => (by cases g), fun ⟨j, e, e2, _⟩ => absurd ⟨by omega, by omega⟩ h⟩⟩
theorem pre_spec {S : List SeqStep} (hS : SOk S) {k : Nat} (hk : k ≤ S.length) {i : Int} : ∃ b, spec_l23Earlier S (k : Int) i = some b ∧ (b = true ↔ PreP S k i fun _ => True) := by
 have hl := hS.len
 unfold spec_l23Earlier spec_l1In
 have hw : wr ((k : Int) - 1) = (k : Int) - 1 := wr_of _ (by omega) (by omega)
 rw [hw]
 by_cases h : 0 ≤ i ∧ i ≤ (k : Int) - 1
 · rw [bifT (decide_eq_true h.1), decide_eq_true h.2, cond_true]
   obtain ⟨j, rfl⟩ := Int.eq_ofNat_of_zero_le h.1
   obtain ⟨y, hy⟩ : ∃ y, S[j]? = some y := ⟨_, List.getElem?_eq_getElem (by omega)⟩
   rw [ix_get, hy, bd_some, spec_l23Good_eq]
   refine ⟨_, rfl, ⟨fun g => ⟨j, rfl, by omega, y, hy, g, trivial⟩, fun ⟨j', e, _, y', e1, e2, _⟩ => ?_⟩⟩
   have : j' = j := by omega
   subst this
   rw [hy] at e1; cases e1; exact e2
 · have : (bif decide (0 ≤ i) then decide (i ≤ (k : Int) - 1) else false) = false := by
    by_cases h0 : 0 ≤ i
    · rw [decide_eq_true h0, cond_true]; exact decide_eq_false fun g => h ⟨h0, g⟩
    · rw [decide_eq_false h0]; rfl
   rw [this]
   refine ⟨_, rfl, ⟨fun g => (by cases g), fun ⟨j, e, e2, _⟩ => absurd ⟨by omega, by omega⟩ h⟩⟩
def PartP (a b : List ByteArray) : Prop := ∀ x ∈ a, x ∈ b
theorem spec_l23Part_eq (a b : List ByteArray) : ∃ r, spec_l23Part a b = some r ∧ (r = true ↔ PartP a b) := by
 unfold spec_l23Part
 rw [forL_any (p := fun _ y => !decide (y ∈ b)) (v := false) (fun i y _ => by rw [spec_l23Has_eq, bd_some]), anyI_any]
 cases h : a.any fun y => !decide (y ∈ b) with
 | true =>
  refine ⟨_, rfl, ⟨fun g => (by cases g), fun g => ?_⟩⟩
  obtain ⟨x, hx, e⟩ := List.any_eq_true.1 h
  rw [Bool.not_eq_true', decide_eq_false_iff_not] at e
  exact absurd (g x hx) e
 | false =>
  refine ⟨_, rfl, ⟨fun _ x hx => ?_, fun _ => rfl⟩⟩
  have := List.any_eq_false.1 h x hx
  simpa using this
theorem impl_contained_eq (a b : List ByteArray) : ∃ r, impl_contained a b = some r ∧ (r = true ↔ PartP a b) := by
 unfold impl_contained
 rw [containsFuncS (g := fun y => !decide (y ∈ b)) (fun y _ => by unfold impl_contained_1; rw [slices_Contains_string_eq]; rfl), bd_some]
 refine ⟨_, rfl, ?_⟩
 rw [Bool.not_eq_true', List.any_eq_false]
 constructor
 · intro h x hx; have := h x hx; simpa using this
 · intro h x hx; simpa using h x hx
def CorP (S : List SeqStep) (k : Nat) (s : SeqStep) : Prop := seqB s.seq = true ∧
  ((s.rule = 1 ∧ bs s.main = [] ∧ s.a = 0 ∧ s.b = 0 ∧ axB s.seq = true) ∨
   (s.rule = 10 ∧ bs s.main = [] ∧ s.b = 0 ∧ PreP S k s.a fun t => PartP t.left s.seq.left ∧ PartP t.right s.seq.right) ∨
   (s.rule = 11 ∧ goodB s.main = true ∧ PreP S k s.a (fun t => (⟨s.seq.left, wS s.seq.right [s.main]⟩ : Sequent) = t) ∧ PreP S k s.b (fun t => (⟨wS s.seq.left [s.main], s.seq.right⟩ : Sequent) = t)) ∨
   (∃ t l, F? (bs s.main) = some t ∧ s.main.size ≤ 80 ∧ s.rule = ruleV t l ∧ s.rule ≠ 0 ∧ s.main ∈ (bif l then s.seq.left else s.seq.right) ∧
     ∃ p r, premV s.seq s.rule t = p :: r ∧ PreP S k s.a (fun x => p = x) ∧ ((r = [] ∧ s.b = 0) ∨ ∃ q, r = [q] ∧ PreP S k s.b (fun x => q = x))))
theorem PreP.wk {S : List SeqStep} {k : Nat} {i : Int} {p q : Sequent → Prop} (h : PreP S k i p) (hpq : ∀ t, p t → q t) : PreP S k i q := by
 obtain ⟨j, h1, h2, y, h3, h4, h5⟩ := h
 exact ⟨j, h1, h2, y, h3, h4, hpq _ h5⟩
theorem PreP.at {S : List SeqStep} {k : Nat} {p : Sequent → Prop} {j : Nat} {y : SeqStep} (hy : S[j]? = some y) (h : PreP S k (j : Int) p) : p y.seq := by
 obtain ⟨j', h1, h2, y', h3, h4, h5⟩ := h
 have : j' = j := by omega
 subst this
 rw [hy] at h3; cases h3; exact h5
end Go.PF
namespace Go.PF
open Go.Pu
theorem isEmp' (s : ByteArray) : (s.toList == (ByteArray.mk #[]).toList) = decide (bs s = []) := by
 rw [isEmp]; cases bs s <;> simp
theorem same_impl {p : Sequent} (x : Sequent) : ∃ b, (fun x0 => impl_seqCorrect_2_1 x0 p) x = some b ∧ (b = true ↔ p = x) := by
 obtain ⟨r, r1, r2⟩ := impl_sameSequent_eq p x
 refine ⟨r, ?_, r2⟩
 show bd (impl_sameSequent p x) (fun r29 => some r29) = _
 rw [r1]; rfl
theorem impl_cor {S : List SeqStep} (hS : SOk S) {k : Nat} {s : SeqStep} (hs : S[k]? = some s) : ∃ b, impl_seqCorrect S (k : Int) = some b ∧ (b = true ↔ CorP S k s) := by
 have hk := lt_of_get hs
 have sd := hS.sides s (List.mem_of_getElem? hs)
 unfold impl_seqCorrect
 rw [ix_get, hs, bd_some, impl_IsSequent_eq sd.1 sd.2, bd_some]
 cases hq : seqB s.seq with
 | false =>
  refine ⟨_, rfl, ⟨fun g => (by cases g), fun g => ?_⟩⟩
  rw [g.1] at hq; cases hq
 | true =>
  have hQ := hq
  unfold seqB at hQ
  rw [Bool.and_eq_true, sideB_iff, sideB_iff] at hQ
  have n1 := hQ.1.len
  have n2 := hQ.2.len
  rw [Bool.not_true, cond_false]
  by_cases r1 : s.rule = 1
  · rw [r1, beq_self_eq_true, cond_true, isEmp']
    have key : ∀ b, (b = true ↔ bs s.main = [] ∧ s.a = 0 ∧ s.b = 0 ∧ axB s.seq = true) → (b = true ↔ CorP S k s) := fun b hb => by
     rw [hb]
     constructor
     · exact fun ⟨h1, h2, h3, h4⟩ => ⟨hq, .inl ⟨r1, h1, h2, h3, h4⟩⟩
     · rintro ⟨_, ⟨_, h⟩ | ⟨e, _⟩ | ⟨e, _⟩ | ⟨t, l, _, _, e, _⟩⟩
       · exact h
       · omega
       · omega
       · have := (ruleV_bd t l).2.2; omega
    by_cases c : bs s.main = [] ∧ s.a = 0 ∧ s.b = 0
    · obtain ⟨c1, c2, c3⟩ := c
      rw [decide_eq_true c1, c2, c3]
      refine ⟨axB s.seq, ?_, key _ ⟨fun h => ⟨c1, c2, c3, h⟩, fun h => h.2.2.2⟩⟩
      show bd (bd (impl_isSeqAxiom s.seq) fun r97 => some r97) (fun t90 => some t90) = _
      rw [impl_isSeqAxiom_eq]; rfl
    · refine ⟨false, ?_, key _ ⟨fun h => (by cases h), fun h => absurd ⟨h.1, h.2.1, h.2.2.1⟩ c⟩⟩
      have : (bif (bif (decide (bs s.main = [])) then (s.a == 0) else false) then (s.b == 0) else false) = false := by
       by_cases c1 : bs s.main = []
       · rw [decide_eq_true c1, cond_true]
         by_cases c2 : s.a = 0
         · rw [c2, beq_self_eq_true, cond_true, beq_eq_false_iff_ne]; exact fun c3 => c ⟨c1, c2, c3⟩
         · rw [beq_eq_false_iff_ne.2 c2]; rfl
       · rw [decide_eq_false c1]; rfl
      rw [this]; rfl
  · rw [beq_eq_false_iff_ne.2 r1, cond_false]
    by_cases r10 : s.rule = 10
    · rw [r10, beq_self_eq_true, cond_true, isEmp']
      have key : ∀ b, (b = true ↔ bs s.main = [] ∧ s.b = 0 ∧ PreP S k s.a fun t => PartP t.left s.seq.left ∧ PartP t.right s.seq.right) → (b = true ↔ CorP S k s) := fun b hb => by
       rw [hb]
       constructor
       · exact fun ⟨h1, h2, h3⟩ => ⟨hq, .inr (.inl ⟨r10, h1, h2, h3⟩)⟩
       · rintro ⟨_, ⟨e, _⟩ | ⟨_, h⟩ | ⟨e, _⟩ | ⟨t, l, _, _, e, _⟩⟩
         · omega
         · exact h
         · omega
         · have := (ruleV_bd t l).2.1; omega
      by_cases c : bs s.main = [] ∧ s.b = 0
      · obtain ⟨c1, c2⟩ := c
        rw [decide_eq_true c1, c2]
        obtain ⟨b, b1, b2⟩ := pre_impl hS (k := k) (by omega) (i := s.a) (f := fun x0 => impl_seqCorrect_3 x0 s) (p := fun t => PartP t.left s.seq.left ∧ PartP t.right s.seq.right) (fun q _ => by
         show ∃ b, impl_seqCorrect_3 q s = some b ∧ _
         unfold impl_seqCorrect_3
         obtain ⟨u, u1, u2⟩ := impl_contained_eq q.left s.seq.left
         obtain ⟨v, v1, v2⟩ := impl_contained_eq q.right s.seq.right
         rw [u1, bd_some]
         cases u with
         | false => exact ⟨_, rfl, ⟨fun g => (by cases g), fun g => absurd (u2.2 g.1) (by simp)⟩⟩
         | true => rw [cond_true, v1]; exact ⟨_, rfl, v2.trans ⟨fun g => ⟨u2.1 rfl, g⟩, fun g => g.2⟩⟩)
        refine ⟨b, ?_, key _ ⟨fun h => ⟨c1, c2, b2.1 h⟩, fun h => b2.2 h.2.2⟩⟩
        show bd (bd (impl_seqCorrect_1 s.a (fun x0 => impl_seqCorrect_3 x0 s) (k : Int) S) fun r126 => some r126) (fun t119 => some t119) = _
        rw [b1]; rfl
      · refine ⟨false, ?_, key _ ⟨fun h => (by cases h), fun h => absurd ⟨h.1, h.2.1⟩ c⟩⟩
        have : (bif (decide (bs s.main = [])) then (s.b == 0) else false) = false := by
         by_cases c1 : bs s.main = []
         · rw [decide_eq_true c1, cond_true, beq_eq_false_iff_ne]; exact fun c3 => c ⟨c1, c3⟩
         · rw [decide_eq_false c1]; rfl
        rw [this]; rfl
    · rw [beq_eq_false_iff_ne.2 r10, cond_false]
      cases hg : goodB s.main with
      | false =>
       rw [impl_parse_bad hg, bd_some]
       refine ⟨false, rfl, ⟨fun g => (by cases g), ?_⟩⟩
       rintro ⟨_, ⟨e, _⟩ | ⟨e, _⟩ | ⟨_, e, _⟩ | ⟨t, l, e, e2, _⟩⟩
       · omega
       · omega
       · rw [hg] at e; cases e
       · rw [good_iff.2 ⟨t, e, e2⟩] at hg; cases hg
      | true =>
       obtain ⟨t, t1, t2, t3, t4, t5⟩ := good_ft hg
       rw [impl_parse_good t1 t4, bd_some]
       dsimp only
       rw [Bool.not_true, cond_false]
       by_cases r11 : s.rule = 11
       · rw [r11, beq_self_eq_true, cond_true, impl_wS (by simp; omega), bd_some]
         obtain ⟨u, u1, u2⟩ := pre_impl hS (k := k) (by omega) (i := s.a) (f := fun x0 => impl_seqCorrect_2_1 x0 ⟨s.seq.left, wS s.seq.right [s.main]⟩) (p := fun t => (⟨s.seq.left, wS s.seq.right [s.main]⟩ : Sequent) = t) (fun q _ => same_impl q)
         obtain ⟨v, v1, v2⟩ := pre_impl hS (k := k) (by omega) (i := s.b) (f := fun x0 => impl_seqCorrect_2_1 x0 ⟨wS s.seq.left [s.main], s.seq.right⟩) (p := fun t => (⟨wS s.seq.left [s.main], s.seq.right⟩ : Sequent) = t) (fun q _ => same_impl q)
         have key : ∀ b, (b = true ↔ u = true ∧ v = true) → (b = true ↔ CorP S k s) := fun b hb => by
          rw [hb, u2, v2]
          constructor
          · exact fun ⟨h1, h2⟩ => ⟨hq, .inr (.inr (.inl ⟨r11, hg, h1, h2⟩))⟩
          · rintro ⟨_, ⟨e, _⟩ | ⟨e, _⟩ | ⟨_, _, h⟩ | ⟨t, l, _, _, e, _⟩⟩
            · omega
            · omega
            · exact h
            · have := (ruleV_bd t l).2.1; omega
         rw [u1, bd_some]
         cases u with
         | false => exact ⟨false, rfl, key _ ⟨fun g => (by cases g), fun g => by cases g.1⟩⟩
         | true =>
          rw [cond_true, impl_wS (by simp; omega), bd_some, v1]
          exact ⟨v, rfl, key _ ⟨fun g => ⟨rfl, g⟩, fun g => g.2⟩⟩
       · obtain ⟨n, g1, g2, _⟩ := Ft.get_eq t
         rw [beq_eq_false_iff_ne.2 r11, cond_false, g1, bd_some, g2, impl_ruleFor_eq t2, impl_ruleFor_eq t2]
         have fit : ∀ (l : Bool) (side : List ByteArray), (bif ruleV t l == s.rule then bd (slices_Contains_string_string side s.main) (fun r => some r) else some false) = some (decide (s.rule = ruleV t l ∧ s.main ∈ side)) := by
          intro l side
          by_cases e : ruleV t l = s.rule
          · rw [beq_iff_eq.2 e, cond_true, slices_Contains_string_eq, bd_some]
            congr 1
            exact decide_eq_decide.2 ⟨fun g => ⟨e.symm, g⟩, fun g => g.2⟩
          · rw [beq_eq_false_iff_ne.2 e, cond_false, decide_eq_false fun g => e g.1.symm]
         rw [fit, bd_some, fit, bd_some]
         have nofit : (∀ l : Bool, ¬ (s.rule = ruleV t l ∧ s.rule ≠ 0 ∧ s.main ∈ (bif l then s.seq.left else s.seq.right))) → ¬ CorP S k s := by
          rintro hno ⟨_, ⟨e, _⟩ | ⟨e, _⟩ | ⟨e, _⟩ | ⟨t', l, e1, e2, e3, e4, e5, _⟩⟩
          · omega
          · omega
          · omega
          · rw [t1] at e1; cases e1
            exact hno l ⟨e3, e4, e5⟩
         by_cases hf : ∃ l : Bool, s.rule = ruleV t l ∧ s.rule ≠ 0 ∧ s.main ∈ (bif l then s.seq.left else s.seq.right)
         · obtain ⟨l, f1, f2, f3⟩ := hf
           have tst : (bif (s.rule == 0) then true else (bif (!decide (s.rule = ruleV t true ∧ s.main ∈ s.seq.left)) then (!decide (s.rule = ruleV t false ∧ s.main ∈ s.seq.right)) else false)) = false := by
            rw [beq_eq_false_iff_ne.2 f2, cond_false]
            cases l with
            | true => rw [decide_eq_true (show s.rule = ruleV t true ∧ s.main ∈ s.seq.left from ⟨f1, f3⟩)]; rfl
            | false =>
             rw [decide_eq_true (show s.rule = ruleV t false ∧ s.main ∈ s.seq.right from ⟨f1, f3⟩)]
             cases decide (s.rule = ruleV t true ∧ s.main ∈ s.seq.left) <;> rfl
           rw [tst, cond_false, impl_premisesOf_eq (by omega) (by omega) ⟨l, f1⟩ f2 t2, bd_some]
           have only : ∀ P : List Sequent → Prop, (CorP S k s ↔ ∃ p r, premV s.seq s.rule t = p :: r ∧ PreP S k s.a (fun x => p = x) ∧ ((r = [] ∧ s.b = 0) ∨ ∃ q, r = [q] ∧ PreP S k s.b (fun x => q = x))) := fun _ => by
            constructor
            · rintro ⟨_, ⟨e, _⟩ | ⟨e, _⟩ | ⟨e, _⟩ | ⟨t', l', e1, e2, e3, e4, e5, h⟩⟩
              · omega
              · omega
              · omega
              · rw [t1] at e1; cases e1; exact h
            · exact fun h => ⟨hq, .inr (.inr (.inr ⟨t, l, t1, t4, f1, f2, f3, h⟩))⟩
           have only := only (fun _ => True)
           have pl := premV_len s.seq s.rule t
           cases hP : premV s.seq s.rule t with
           | nil =>
            exfalso
            unfold premV at hP
            dsimp only at hP
            repeat (split at hP; · cases hP)
            cases hP
           | cons p r =>
            rw [hP] at only pl
            obtain ⟨u, u1, u2⟩ := pre_impl hS (k := k) (by omega) (i := s.a) (f := fun x0 => impl_seqCorrect_2_1 x0 p) (p := fun x => p = x) (fun q _ => same_impl q)
            rw [show ix (p :: r) 0 = some p from rfl, bd_some, u1, bd_some]
            cases u with
            | false =>
             refine ⟨false, rfl, ⟨fun g => (by cases g), fun g => ?_⟩⟩
             obtain ⟨p', r', e, e2, _⟩ := only.1 g
             cases e
             exact u2.2 e2
            | true =>
             rw [Bool.not_true, cond_false]
             cases r with
             | nil =>
              rw [show ((len [p]) == 1) = true from rfl, cond_true]
              refine ⟨_, rfl, ?_⟩
              rw [only, beq_iff_eq]
              constructor
              · exact fun g => ⟨p, [], rfl, u2.1 rfl, .inl ⟨rfl, g⟩⟩
              · rintro ⟨p', r', e, _, ⟨_, g⟩ | ⟨q, e2, _⟩⟩
                · exact g
                · cases e; cases e2
             | cons q r' =>
              have : r' = [] := by
               simp only [List.length_cons] at pl
               exact List.eq_nil_of_length_eq_zero (by omega)
              subst this
              obtain ⟨v, v1, v2⟩ := pre_impl hS (k := k) (by omega) (i := s.b) (f := fun x0 => impl_seqCorrect_2_1 x0 q) (p := fun x => q = x) (fun q _ => same_impl q)
              rw [show ((len [p, q]) == 1) = false from rfl, cond_false, show ix [p, q] 1 = some q from rfl, bd_some, v1]
              refine ⟨v, rfl, ?_⟩
              rw [only, v2]
              constructor
              · exact fun g => ⟨p, [q], rfl, u2.1 rfl, .inr ⟨q, rfl, g⟩⟩
              · rintro ⟨p', r', e, _, ⟨e2, _⟩ | ⟨q', e2, g⟩⟩
                · cases e; cases e2
                · cases e; cases e2; exact g
         · have hno := nofit fun l g => hf ⟨l, g⟩
           have tst : (bif (s.rule == 0) then true else (bif (!decide (s.rule = ruleV t true ∧ s.main ∈ s.seq.left)) then (!decide (s.rule = ruleV t false ∧ s.main ∈ s.seq.right)) else false)) = true := by
            by_cases f2 : s.rule = 0
            · rw [f2]; rfl
            · rw [beq_eq_false_iff_ne.2 f2, cond_false, decide_eq_false (fun g => hf ⟨true, g.1, f2, g.2⟩), decide_eq_false (fun g => hf ⟨false, g.1, f2, g.2⟩)]; rfl
           rw [tst]
           exact ⟨false, rfl, ⟨fun g => (by cases g), fun g => absurd g hno⟩⟩
end Go.PF
namespace Go.PF
open Go.Pu
theorem ruleV_par {t : Ft} {l : Bool} (h : ruleV t l ≠ 0) : ((ruleV t l).tmod 2 == 0) = l := by
 cases t with
 | leaf c => exact absurd rfl h
 | neg a => cases l <;> rfl
 | bin op a b =>
  simp only [ruleV]
  split
  · cases l <;> rfl
  · split
    · cases l <;> rfl
    · cases l <;> rfl
theorem spec_cut {s : Sequent} {m : ByteArray} {t : Ft} (h : F? (bs m) = some t) (hs : m.size ≤ 1000) (h1 : SS ltF s.left) (h2 : SS ltF s.right) (l1 : s.left.length ≤ 1000) (l2 : s.right.length ≤ 1000) :
 spec_l23Premises s 11 m = some [⟨s.left, wS s.right [m]⟩, ⟨wS s.left [m], s.right⟩] := by
 unfold spec_l23Premises
 rw [spec_l22Parts_eq h hs, bd_some, spec_l23Without_eq (by omega), bd_some, spec_l23Without_eq (by omega), bd_some]
 rw [show ((11 : Int) == 2) = false from rfl, show ((11 : Int) == 3) = false from rfl, show ((11 : Int) == 4) = false from rfl, show ((11 : Int) == 5) = false from rfl, show ((11 : Int) == 6) = false from rfl, show ((11 : Int) == 7) = false from rfl, show ((11 : Int) == 8) = false from rfl, show ((11 : Int) == 9) = false from rfl,
  cond_false, cond_false, cond_false, cond_false, cond_false, cond_false, cond_false, cond_false, spec_with h2 (by omega), bd_some, spec_with h1 (by omega), bd_some]
theorem spec_due {S : List SeqStep} (hS : SOk S) {k : Nat} (hk : k ≤ S.length) {s : SeqStep} {ps : List Sequent} {p : Sequent} {r : List Sequent} (hps : ps = p :: r) (hr : r.length ≤ 1) (hF : ∀ x ∈ ps, FQ x) (hA : PreP S k s.a fun _ => True) :
 ∃ b, (bd (ix ps 0) (fun x312 => bd (ix S s.a) (fun x324 => bd (PF.spec_l23Same x312 x324.seq) (fun r330 => (bif (!r330) then some false else (bif ((len ps) == 1) then some (s.b == 0) else bd (PF.spec_l23Earlier S (k : Int) s.b) (fun r338 => bd (bif r338 then bd (ix ps 1) (fun x379 => bd (ix S s.b) (fun x391 => bd (PF.spec_l23Same x379 x391.seq) (fun r397 => some r397))) else some false) (fun t366 => some t366)))))))) = some b ∧
  (b = true ↔ PreP S k s.a (fun x => p = x) ∧ ((r = [] ∧ s.b = 0) ∨ ∃ q, r = [q] ∧ PreP S k s.b (fun x => q = x))) := by
 subst hps
 obtain ⟨j, e, hj, y, hy, hq, _⟩ := hA
 have fp := hF p (List.mem_cons_self ..)
 obtain ⟨u, u1, u2⟩ := spec_l23Same_eq fp (FQ_good hq)
 have pa : PreP S k s.a (fun x => p = x) ↔ u = true := by
  rw [u2]
  constructor
  · intro h; rw [e] at h; exact h.at hy
  · exact fun h => ⟨j, e, hj, y, hy, hq, h⟩
 rw [pa, show ix (p :: r) 0 = some p from rfl, bd_some, e, ix_get, hy, bd_some, u1, bd_some]
 cases u with
 | false => exact ⟨false, rfl, ⟨fun g => (by cases g), fun g => by cases g.1⟩⟩
 | true =>
  rw [Bool.not_true, cond_false]
  cases r with
  | nil =>
   rw [show ((len [p]) == 1) = true from rfl, cond_true]
   refine ⟨_, rfl, ?_⟩
   rw [beq_iff_eq]
   constructor
   · exact fun g => ⟨rfl, .inl ⟨rfl, g⟩⟩
   · rintro ⟨_, ⟨_, g⟩ | ⟨q, e2, _⟩⟩
     · exact g
     · cases e2
  | cons q r' =>
   have : r' = [] := by
    simp only [List.length_cons] at hr
    exact List.eq_nil_of_length_eq_zero (by omega)
   subst this
   have fq := hF q (by simp)
   rw [show ((len [p, q]) == 1) = false from rfl, cond_false]
   obtain ⟨v, v1, v2⟩ := pre_spec hS hk (i := s.b)
   rw [v1, bd_some]
   cases v with
   | false =>
    refine ⟨false, rfl, ⟨fun g => (by cases g), ?_⟩⟩
    rintro ⟨_, ⟨e2, _⟩ | ⟨q', e2, g⟩⟩
    · cases e2
    · exact v2.2 (g.wk fun _ _ => trivial)
   | true =>
    obtain ⟨j2, e2, hj2, y2, hy2, hq2, _⟩ := v2.1 rfl
    obtain ⟨w, w1, w2⟩ := spec_l23Same_eq fq (FQ_good hq2)
    rw [cond_true, show ix [p, q] 1 = some q from rfl, bd_some, e2, ix_get, hy2, bd_some, w1]
    refine ⟨w, rfl, ?_⟩
    rw [w2]
    constructor
    · exact fun g => ⟨rfl, .inr ⟨q, rfl, j2, rfl, hj2, y2, hy2, hq2, g⟩⟩
    · rintro ⟨_, ⟨e3, _⟩ | ⟨q', e3, g⟩⟩
      · cases e3
      · cases e3; exact g.at hy2
theorem spec_cor {S : List SeqStep} (hS : SOk S) {k : Nat} {s : SeqStep} (hs : S[k]? = some s) : ∃ b, spec_l23Correct S (k : Int) = some b ∧ (b = true ↔ CorP S k s) := by
 have hk := lt_of_get hs
 unfold spec_l23Correct
 rw [ix_get, hs, bd_some, spec_l23Good_eq, bd_some]
 cases hq : seqB s.seq with
 | false =>
  refine ⟨_, rfl, ⟨fun g => (by cases g), fun g => ?_⟩⟩
  rw [g.1] at hq; cases hq
 | true =>
  have hQ := hq
  unfold seqB at hQ
  rw [Bool.and_eq_true, sideB_iff, sideB_iff] at hQ
  have n1 := hQ.1.len
  have n2 := hQ.2.len
  rw [Bool.not_true, cond_false]
  by_cases rr : 1 ≤ s.rule ∧ s.rule ≤ 11
  · have hin : spec_l1In s.rule 1 11 = true := by unfold spec_l1In; rw [decide_eq_true rr.1, decide_eq_true rr.2]; rfl
    rw [hin, Bool.not_true, cond_false]
    by_cases r1 : s.rule = 1
    · rw [r1, beq_self_eq_true, cond_true, isEmp']
      have key : ∀ b, (b = true ↔ bs s.main = [] ∧ s.a = 0 ∧ s.b = 0 ∧ axB s.seq = true) → (b = true ↔ CorP S k s) := fun b hb => by
       rw [hb]
       constructor
       · exact fun ⟨h1, h2, h3, h4⟩ => ⟨hq, .inl ⟨r1, h1, h2, h3, h4⟩⟩
       · rintro ⟨_, ⟨_, h⟩ | ⟨e, _⟩ | ⟨e, _⟩ | ⟨t, l, _, _, e, _⟩⟩
         · exact h
         · omega
         · omega
         · have := (ruleV_bd t l).2.2; omega
      by_cases c : bs s.main = [] ∧ s.a = 0 ∧ s.b = 0
      · obtain ⟨c1, c2, c3⟩ := c
        rw [decide_eq_true c1, c2, c3]
        refine ⟨axB s.seq, ?_, key _ ⟨fun h => ⟨c1, c2, c3, h⟩, fun h => h.2.2.2⟩⟩
        show bd (bd (spec_l23Axiom s.seq) fun r97 => some r97) (fun t90 => some t90) = _
        rw [spec_l23Axiom_eq (by omega)]; rfl
      · refine ⟨false, ?_, key _ ⟨fun h => (by cases h), fun h => absurd ⟨h.1, h.2.1, h.2.2.1⟩ c⟩⟩
        have : (bif (bif (decide (bs s.main = [])) then (s.a == 0) else false) then (s.b == 0) else false) = false := by
         by_cases c1 : bs s.main = []
         · rw [decide_eq_true c1, cond_true]
           by_cases c2 : s.a = 0
           · rw [c2, beq_self_eq_true, cond_true, beq_eq_false_iff_ne]; exact fun c3 => c ⟨c1, c2, c3⟩
           · rw [beq_eq_false_iff_ne.2 c2]; rfl
         · rw [decide_eq_false c1]; rfl
        rw [this]; rfl
    · rw [beq_eq_false_iff_ne.2 r1, cond_false]
      obtain ⟨ea, ea1, ea2⟩ := pre_spec hS (k := k) (by omega) (i := s.a)
      rw [ea1, bd_some]
      cases ea with
      | false =>
       refine ⟨false, rfl, ⟨fun g => (by cases g), fun g => ?_⟩⟩
       refine ea2.2 ?_
       rcases g with ⟨_, ⟨e, _⟩ | ⟨_, _, _, h⟩ | ⟨_, _, h, _⟩ | ⟨_, _, _, _, _, _, _, _, _, _, h, _⟩⟩
       · exact absurd e r1
       · exact h.wk fun _ _ => trivial
       · exact h.wk fun _ _ => trivial
       · exact h.wk fun _ _ => trivial
      | true =>
       have hA := ea2.1 rfl
       rw [Bool.not_true, cond_false]
       by_cases r10 : s.rule = 10
       · rw [r10, beq_self_eq_true, cond_true, isEmp']
         have key : ∀ b, (b = true ↔ bs s.main = [] ∧ s.b = 0 ∧ PreP S k s.a fun t => PartP t.left s.seq.left ∧ PartP t.right s.seq.right) → (b = true ↔ CorP S k s) := fun b hb => by
          rw [hb]
          constructor
          · exact fun ⟨h1, h2, h3⟩ => ⟨hq, .inr (.inl ⟨r10, h1, h2, h3⟩)⟩
          · rintro ⟨_, ⟨e, _⟩ | ⟨_, h⟩ | ⟨e, _⟩ | ⟨t, l, _, _, e, _⟩⟩
            · omega
            · exact h
            · omega
            · have := (ruleV_bd t l).2.1; omega
         by_cases c : bs s.main = [] ∧ s.b = 0
         · obtain ⟨c1, c2⟩ := c
           rw [decide_eq_true c1, c2]
           obtain ⟨j, e, hj, y, hy, hyq, _⟩ := hA
           obtain ⟨u, u1, u2⟩ := spec_l23Part_eq y.seq.left s.seq.left
           obtain ⟨v, v1, v2⟩ := spec_l23Part_eq y.seq.right s.seq.right
           have pa : (PreP S k s.a fun t => PartP t.left s.seq.left ∧ PartP t.right s.seq.right) ↔ u = true ∧ v = true := by
            rw [u2, v2]
            constructor
            · intro h; rw [e] at h; exact h.at hy
            · exact fun h => ⟨j, e, hj, y, hy, hyq, h⟩
           rw [beq_self_eq_true, cond_true, cond_true, e, ix_get, hy, bd_some, u1, bd_some, bd_some]
           cases u with
           | false => exact ⟨false, rfl, key _ ⟨fun g => (by cases g), fun g => by cases (pa.1 g.2.2).1⟩⟩
           | true =>
            rw [cond_true, bd_some, v1]
            exact ⟨v, rfl, key _ ⟨fun g => ⟨c1, c2, pa.2 ⟨rfl, g⟩⟩, fun g => (pa.1 g.2.2).2⟩⟩
         · refine ⟨false, ?_, key _ ⟨fun h => (by cases h), fun h => absurd ⟨h.1, h.2.1⟩ c⟩⟩
           have : (bif (decide (bs s.main = [])) then (s.b == 0) else false) = false := by
            by_cases c1 : bs s.main = []
            · rw [decide_eq_true c1, cond_true, beq_eq_false_iff_ne]; exact fun c3 => c ⟨c1, c3⟩
            · rw [decide_eq_false c1]; rfl
           rw [this]; rfl
       · rw [beq_eq_false_iff_ne.2 r10, cond_false, spec_l22Good_eq, bd_some]
         cases hg : goodB s.main with
         | false =>
          refine ⟨false, rfl, ⟨fun g => (by cases g), ?_⟩⟩
          rintro ⟨_, ⟨e, _⟩ | ⟨e, _⟩ | ⟨_, e, _⟩ | ⟨t, l, e, e2, _⟩⟩
          · omega
          · omega
          · rw [hg] at e; cases e
          · rw [good_iff.2 ⟨t, e, e2⟩] at hg; cases hg
         | true =>
          obtain ⟨t, t1, t2, t3, t4, t5⟩ := good_ft hg
          rw [Bool.not_true, cond_false]
          by_cases r11 : s.rule = 11
          · rw [r11, beq_self_eq_true, Bool.not_true, cond_false, bdR_go, spec_cut t1 (by omega) hQ.1.ord hQ.2.ord (by omega) (by omega), bd_some]
            have hqs := FQ_good hq
            have gm : FT s.main ∧ s.main.size ≤ 1000 := ⟨FT_good hg, by omega⟩
            have w : ∀ {m : List ByteArray}, (∀ y ∈ m, FT y ∧ y.size ≤ 1000) → ∀ y ∈ wS m [s.main], FT y ∧ y.size ≤ 1000 := fun h1 y hy => by
             unfold wS at hy
             rw [mem_setO STO_F, List.mem_append, List.mem_singleton] at hy
             exact hy.elim (h1 y) fun e => e ▸ gm
            have wl : ∀ m : List ByteArray, (wS m [s.main]).length ≤ m.length + 1 := fun m => by
             have := setO_len (l := m ++ [s.main])
             unfold wS; rw [List.length_append] at this; exact this
            have w1 := wl s.seq.left
            have w2 := wl s.seq.right
            obtain ⟨b, b1, b2⟩ := spec_due hS (k := k) (by omega) (s := s) (ps := [⟨s.seq.left, wS s.seq.right [s.main]⟩, ⟨wS s.seq.left [s.main], s.seq.right⟩]) rfl (by simp) (fun x hx => by
             simp only [List.mem_cons, List.not_mem_nil, or_false] at hx
             rcases hx with rfl | rfl
             · exact ⟨hqs.l, w hqs.r, by dsimp only; omega, by dsimp only; omega⟩
             · exact ⟨w hqs.l, hqs.r, by dsimp only; omega, by dsimp only; omega⟩) hA
            refine ⟨b, b1, b2.trans ?_⟩
            constructor
            · rintro ⟨h1, ⟨e, _⟩ | ⟨q, e, h2⟩⟩
              · cases e
              · cases e; exact ⟨hq, .inr (.inr (.inl ⟨r11, hg, h1, h2⟩))⟩
            · rintro ⟨_, ⟨e, _⟩ | ⟨e, _⟩ | ⟨_, _, h1, h2⟩ | ⟨t, l, _, _, e, _⟩⟩
              · omega
              · omega
              · exact ⟨h1, .inr ⟨_, rfl, h2⟩⟩
              · have := (ruleV_bd t l).2.1; omega
          · rw [beq_eq_false_iff_ne.2 r11, Bool.not_false, cond_true]
            generalize hl : (s.rule.tmod 2 == 0) = l
            have side : (bif l then (some (Rs.go s.seq.left) : Option (Rs (List ByteArray) Empty)) else some (Rs.go s.seq.right)) = some (Rs.go (bif l then s.seq.left else s.seq.right)) := by cases l <;> rfl
            rw [side, bdR_go, spec_l23Rule_eq t1 (by omega), bd_some]
            have only : CorP S k s → s.rule = ruleV t l ∧ s.main ∈ (bif l then s.seq.left else s.seq.right) := by
             rintro ⟨_, ⟨e, _⟩ | ⟨e, _⟩ | ⟨e, _⟩ | ⟨t', l', e1, e2, e3, e4, e5, _⟩⟩
             · omega
             · omega
             · omega
             · rw [t1] at e1; cases e1
               have : l' = l := by
                rw [← hl, e3]
                exact (ruleV_par (by rw [← e3]; exact e4)).symm
               rw [← this]; exact ⟨e3, e5⟩
            by_cases e1 : s.rule = ruleV t l
            · rw [show (ruleV t l == s.rule) = true by rw [beq_iff_eq]; exact e1.symm, Bool.not_true, cond_false, spec_l23Has_eq, bd_some, bd_some]
              by_cases e2 : s.main ∈ (bif l then s.seq.left else s.seq.right)
              · rw [decide_eq_true e2, Bool.not_true, cond_false, bdR_go]
                have rb := ruleV_bd t l
                rw [spec_l23Premises_eq t1 (by omega) hQ.1.ord hQ.2.ord (by omega) (by omega) (by omega) (by omega), bd_some]
                have pl := premV_len s.seq s.rule t
                cases hP : premV s.seq s.rule t with
                | nil =>
                 exfalso
                 unfold premV at hP
                 dsimp only at hP
                 repeat (split at hP; · cases hP)
                 cases hP
                | cons p r =>
                 rw [hP] at pl
                 simp only [List.length_cons] at pl
                 obtain ⟨b, b1, b2⟩ := spec_due hS (k := k) (by omega) (s := s) (ps := p :: r) rfl (by omega) (fun x hx => by
                  rw [← hP, e1] at hx
                  exact FQ_prem hq t2 (by omega) (by omega) x hx) hA
                 refine ⟨b, b1, b2.trans ?_⟩
                 constructor
                 · exact fun h => ⟨hq, .inr (.inr (.inr ⟨t, l, t1, t4, e1, by omega, e2, p, r, hP, h⟩))⟩
                 · rintro ⟨_, ⟨e, _⟩ | ⟨e, _⟩ | ⟨e, _⟩ | ⟨t', l', f1, f2, f3, f4, f5, p', r', f6, f7⟩⟩
                   · omega
                   · omega
                   · omega
                   · rw [t1] at f1; cases f1
                     rw [hP] at f6; cases f6; exact f7
              · rw [decide_eq_false e2]
                exact ⟨false, rfl, ⟨fun g => (by cases g), fun g => absurd (only g).2 e2⟩⟩
            · rw [show (ruleV t l == s.rule) = false by rw [beq_eq_false_iff_ne]; exact fun e => e1 e.symm]
              exact ⟨false, rfl, ⟨fun g => (by cases g), fun g => absurd (only g).1 e1⟩⟩
  · have hin : spec_l1In s.rule 1 11 = false := by
     unfold spec_l1In
     by_cases h1 : 1 ≤ s.rule
     · rw [decide_eq_true h1, cond_true]; exact decide_eq_false fun g => rr ⟨h1, g⟩
     · rw [decide_eq_false h1]; rfl
    rw [hin]
    refine ⟨false, rfl, ⟨fun g => (by cases g), ?_⟩⟩
    rintro ⟨_, ⟨e, _⟩ | ⟨e, _⟩ | ⟨e, _⟩ | ⟨t, l, _, _, e, e4, _⟩⟩
    · omega
    · omega
    · omega
    · have := ruleV_bd t l; omega
def PrfP (S : List SeqStep) : Prop := 1 ≤ S.length ∧ S.length ≤ 200 ∧ ∀ (k : Nat) (s : SeqStep), S[k]? = some s → CorP S k s
theorem first_eq {S : List SeqStep} (hS : SOk S) {f : List SeqStep → Int → Option Bool} (hf : ∀ (k : Nat) (s : SeqStep), S[k]? = some s → ∃ b, f S (k : Int) = some b ∧ (b = true ↔ CorP S k s)) {g : Nat → SeqStep → Unit → Option (Lp Unit Int)}
 (hg : ∀ i y u, g i y u = bd (f S ((i : Nat) : Int)) (fun r43 => (bif (!r43) then some (Lp.rt ((i : Nat) : Int)) else some (Lp.nx ())))) :
 ∃ r, bdR (forL (S := Unit) (X := Int) S g ()) (fun s22 => some (-1)) (fun x22 => some x22) = some r ∧ (r < 0 ↔ ∀ (k : Nat) (s : SeqStep), S[k]? = some s → CorP S k s) := by
 have key : ∀ (m : List SeqStep) (k : Nat), S.drop k = m → ∃ q, forLFrom g m k () = some q ∧ ((q = .go () ∧ ∀ j s, k ≤ j → S[j]? = some s → CorP S j s) ∨ ∃ i : Nat, q = .rt (i : Int) ∧ ∃ s, S[i]? = some s ∧ ¬ CorP S i s) := by
  intro m
  induction m with
  | nil =>
   intro k hk
   refine ⟨_, rfl, .inl ⟨rfl, fun j s h1 h2 => ?_⟩⟩
   have := congrArg List.length hk
   rw [List.length_drop, List.length_nil] at this
   have := lt_of_get h2
   omega
  | cons y m ih =>
   intro k hk
   have hy : S[k]? = some y := by
    have : (S.drop k)[0]? = some y := by rw [hk]; rfl
    rwa [List.getElem?_drop, Nat.add_zero] at this
   have hk' : S.drop (k + 1) = m := by rw [← List.tail_drop, hk]; rfl
   obtain ⟨b, b1, b2⟩ := hf k y hy
   cases b with
   | false =>
    refine ⟨.rt (k : Int), ?_, .inr ⟨k, rfl, y, hy, fun h => by cases b2.2 h⟩⟩
    rw [forLFrom, hg, b1]; rfl
   | true =>
    obtain ⟨q, q1, q2⟩ := ih (k + 1) hk'
    refine ⟨q, by rw [forLFrom_nx (s' := ()) (by rw [hg, b1]; rfl), q1], ?_⟩
    rcases q2 with ⟨e, h⟩ | h
    · refine .inl ⟨e, fun j s h1 h2 => ?_⟩
      by_cases ej : j = k
      · subst ej; rw [hy] at h2; cases h2; exact b2.1 rfl
      · exact h j s (by omega) h2
    · exact .inr h
 obtain ⟨q, q1, q2⟩ := key S 0 rfl
 unfold forL
 rw [q1]
 rcases q2 with ⟨rfl, h⟩ | ⟨i, rfl, s, h1, h2⟩
 · exact ⟨_, rfl, ⟨fun _ k s e => h k s (by omega) e, fun _ => by omega⟩⟩
 · exact ⟨_, rfl, ⟨fun g => by omega, fun g => absurd (g i s h1) h2⟩⟩
theorem spec_l23Proof_eq {S : List SeqStep} (hS : SOk S) : ∃ b, spec_l23Proof S = some b ∧ (b = true ↔ PrfP S) := by
 unfold spec_l23Proof spec_l1In PrfP
 by_cases h : 1 ≤ S.length ∧ S.length ≤ 200
 · rw [bifT (decide_eq_true (show 1 ≤ len S by rw [len_eq]; omega)), bifT (decide_eq_true (show len S ≤ 200 by rw [len_eq]; omega))]
   unfold spec_l23First
   obtain ⟨r, r1, r2⟩ := first_eq hS (f := spec_l23Correct) (fun k s e => spec_cor hS e) (g := fun i22 y21 s22 => bd (PF.spec_l23Correct S ((i22 : Nat) : Int)) (fun r43 => (bif (!r43) then some (Lp.rt ((i22 : Nat) : Int)) else some (Lp.nx ())))) (fun _ _ _ => rfl)
   rw [r1, bd_some]
   refine ⟨_, rfl, ?_⟩
   rw [decide_eq_true_iff, r2]
   exact ⟨fun g => ⟨h.1, h.2, g⟩, fun g => g.2.2⟩
 · have : (bif decide (1 ≤ len S) then decide (len S ≤ 200) else false) = false := by
    rw [len_eq]
    by_cases h1 : 1 ≤ S.length
    · rw [decide_eq_true (by omega), cond_true]; exact decide_eq_false fun g => h ⟨h1, by omega⟩
    · rw [decide_eq_false (by omega)]; rfl
   rw [this]
   exact ⟨false, rfl, ⟨fun g => (by cases g), fun g => absurd ⟨g.1, g.2.1⟩ h⟩⟩
theorem impl_isSeqProof_eq {S : List SeqStep} (hS : SOk S) : ∃ b, impl_isSeqProof S = some b ∧ (b = true ↔ PrfP S) := by
 unfold impl_isSeqProof impl_within PrfP
 by_cases h : 1 ≤ S.length ∧ S.length ≤ 200
 · rw [bifT (decide_eq_true (show 1 ≤ len S by rw [len_eq]; omega)), bifT (decide_eq_true (show len S ≤ 200 by rw [len_eq]; omega))]
   unfold impl_firstBadSeq
   obtain ⟨r, r1, r2⟩ := first_eq hS (f := impl_seqCorrect) (fun k s e => impl_cor hS e) (g := fun i22 y21 s22 => bd (PF.impl_seqCorrect S ((i22 : Nat) : Int)) (fun r43 => (bif (!r43) then some (Lp.rt ((i22 : Nat) : Int)) else some (Lp.nx ())))) (fun _ _ _ => rfl)
   rw [r1, bd_some]
   refine ⟨_, rfl, ?_⟩
   rw [decide_eq_true_iff, r2]
   exact ⟨fun g => ⟨h.1, h.2, g⟩, fun g => g.2.2⟩
 · have : (bif decide (1 ≤ len S) then decide (len S ≤ 200) else false) = false := by
    rw [len_eq]
    by_cases h1 : 1 ≤ S.length
    · rw [decide_eq_true (by omega), cond_true]; exact decide_eq_false fun g => h ⟨h1, by omega⟩
    · rw [decide_eq_false (by omega)]; rfl
   rw [this]
   exact ⟨false, rfl, ⟨fun g => (by cases g), fun g => absurd ⟨g.1, g.2.1⟩ h⟩⟩
theorem proof_both {S : List SeqStep} (hS : SOk S) : ∃ b, spec_l23Proof S = some b ∧ impl_isSeqProof S = some b ∧ (b = true ↔ PrfP S) := by
 obtain ⟨b, b1, b2⟩ := spec_l23Proof_eq hS
 obtain ⟨c, c1, c2⟩ := impl_isSeqProof_eq hS
 have : b = c := Bool.eq_iff_iff.2 (b2.trans c2.symm)
 subst this
 exact ⟨b, b1, c1, b2⟩
end Go.PF
namespace Go.PF
open Go.Pu
def wtS (y : SeqStep) : Nat := (y.seq.left.length + tot (·.size) y.seq.left) + (y.seq.right.length + tot (·.size) y.seq.right) + y.main.size
theorem sz_SeqStep {a : SeqStep} {s : Int} (ha : okSeqStep a) (h0 : 0 ≤ s) (h1 : s ≤ 1048576) : ∃ r, laws_szSeqStep a s = some r ∧ (r < 0 ∨ r + wtS a = s) := by
 unfold laws_szSeqStep wtS
 obtain ⟨r, e, hr⟩ := sz_Sequent ha.1 h0 h1
 rw [e, bd_some]
 by_cases hn : r < 0
 · rw [bifT (decide_eq_true hn)]
   exact ⟨_, rfl, .inl (by omega)⟩
 · rw [bifF (decide_eq_false hn)]
   have hm : a.main.size ≤ 9223372036854775807 := ha.2.2.1
   have hw : wr (r - (a.main.size : Int)) = r - (a.main.size : Int) := wr_of _ (by omega) (by omega)
   rw [hw]
   by_cases hn' : r - (a.main.size : Int) < 0
   · rw [bifT (decide_eq_true hn')]
     exact ⟨_, rfl, .inl (by omega)⟩
   · rw [bifF (decide_eq_false hn')]
     exact ⟨_, rfl, .inr (by omega)⟩
theorem sz_SeqStepS {a : List SeqStep} {s : Int} (ha : okL okSeqStep a) (h0 : 0 ≤ s) (h1 : s ≤ 1048576) : ∃ r, laws_szSeqStepS a s = some r ∧ (r < 0 ∨ r + (a.length + tot wtS a : Nat) = s) := by
 unfold laws_szSeqStepS
 have := sz_list (sz := laws_szSeqStep) (wt := wtS) (l := a) (s := s)
  (f := fun i23 y22 s23 => bd (PF.laws_szSeqStep y22 s23) (fun r66 => (bif (decide (r66 < 0)) then some (Lp.rt (-1)) else some (Lp.nx r66)))) (fun _ _ _ => rfl) (fun y hy s h0 h1 => sz_SeqStep (ha.2 y hy) h0 h1) ha.1 h0 h1
 exact this
theorem SOk_sz {a : List SeqStep} {r s : Int} (hs : s ≤ 1048576) (h0 : 0 ≤ r) (h : r + (a.length + tot wtS a : Nat) = s) : SOk a := by
 refine ⟨by omega, fun y hy => ?_⟩
 have := tot_mem (wt := wtS) hy
 have e : wtS y = (y.seq.left.length + tot (·.size) y.seq.left) + (y.seq.right.length + tot (·.size) y.seq.right) + y.main.size := rfl
 unfold lim
 constructor <;> omega
theorem to_SeqStepS {a : List SeqStep} (ha : SOk a) : laws_toSeqStepS a = some a := by
 unfold laws_toSeqStepS
 have hl := ha.len
 have := to_list (z := (SeqStep.mk (Sequent.mk [] []) 0 ByteArray.empty 0 0 : SeqStep)) (l := a) (g := laws_toSeqStep) (h := fun y => y)
  (f := fun i33 y32 s33 => bd (PF.laws_toSeqStep y32) (fun r173 => bd (ix s33 ((i33 : Nat) : Int)) (fun x198 => bd (put s33 ((i33 : Nat) : Int) r173) (fun xs207 => some (Lp.nx xs207))))) (fun _ _ _ => rfl) (fun y hy => by
   unfold laws_toSeqStep
   have := ha.sides y hy
   rw [to_Sequent this.1 this.2]; rfl) (by unfold lim; omega)
 rw [List.map_id'] at this
 exact this
theorem wtStep_wtS (y : SeqStep) : wtStep y ≤ wtS y + 4 := by unfold wtStep wtS; omega
theorem tot_le4 {a : List SeqStep} : tot wtStep a ≤ tot wtS a + 4 * a.length := by
 induction a with
 | nil => simp [tot]
 | cons y a ih =>
  have := wtStep_wtS y
  simp only [tot, List.length_cons]; omega
theorem mark_in {a : List SeqStep} {r s : Int} (hs : s ≤ 1048576) (h0 : 0 ≤ r) (h : r + (a.length + tot wtS a : Nat) = s) {k : Int} (hk : 0 ≤ k) (hk2 : k ≤ 100000000) : 0 ≤ (laws_markSeqStepS a k).2 ∧ (laws_markSeqStepS a k).2 ≤ k + 10000000 := by
 have := tot_le4 (a := a)
 have h2 := mark_SeqStepS (a := a) (k := k) hk (by omega)
 omega
theorem last_eq {S : List SeqStep} (h1 : 1 ≤ S.length) (h2 : S.length ≤ 1048576) : ∃ y, S[S.length - 1]? = some y ∧ ix S (wr (len S - 1)) = some y ∧ impl_last_impl_SeqStep S = some y := by
 obtain ⟨y, hy⟩ : ∃ y, S[S.length - 1]? = some y := ⟨_, List.getElem?_eq_getElem (by omega)⟩
 have e : wr (len S - 1) = ((S.length - 1 : Nat) : Int) := by rw [len_eq, wr_of _ (by omega) (by omega)]; omega
 refine ⟨y, hy, by rw [e, ix_get, hy], ?_⟩
 unfold impl_last_impl_SeqStep
 rw [e, ix_get, hy]; rfl
end Go.PF
namespace Go.PF
open Go.Pu
theorem drop_eq {S : List SeqStep} (hS : SOk S) : ∃ r, spec_DropCuts S = some r ∧ impl_DropCuts S = some r ∧ Few r.1 := by
 unfold spec_DropCuts impl_DropCuts
 obtain ⟨b, b1, b2, b3⟩ := proof_both hS
 rw [b1, bd_some, b2, bd_some]
 cases b with
 | false => exact ⟨_, rfl, rfl, ⟨by simp, by simp⟩⟩
 | true =>
  have hp := b3.1 rfl
  obtain ⟨y, y1, y2, y3⟩ := last_eq hp.1 hS.len
  have sd := hS.sides y (List.mem_of_getElem? y1)
  rw [Bool.not_true, cond_false, cond_false, y2, bd_some, y3, bd_some]
  obtain ⟨r, r1, r2, r3⟩ := search_spec sd.1 sd.2
  rw [r1, r2]
  exact ⟨_, rfl, rfl, r3⟩
theorem plain_DropCuts (a : List SeqStep) (ha : okL okSeqStep a) : laws_FnExactDropCuts a = some true := by
 unfold laws_FnExactDropCuts
 obtain ⟨r, e, hr⟩ := sz_SeqStepS ha (s := 1048576) (by omega) (by omega)
 rw [e, bd_some]
 by_cases hn : r < 0
 · rw [bifT (decide_eq_true hn)]
 · rw [bifF (decide_eq_false hn)]
   have hr := hr.resolve_left hn
   have hS := SOk_sz (by omega) (by omega) hr
   obtain ⟨q, q1, q2, q3⟩ := drop_eq hS
   obtain ⟨m, m1, m2, m3⟩ := q3.marks
   have mS := mark_in (by omega) (by omega) hr (k := 1) (by omega) (by omega)
   rw [to_SeqStepS hS, bd_some, q1, bd_some, bd_some, q2, bd_some, eq_SeqStepS, bd_some]
   simp only [beq_self_eq_true, Bool.not_true, cond_false, bd_some, eq_SeqStepS, q2, decide_eq_false (show ¬ (laws_markSeqStepS a 1).2 < 0 by omega), m1, m2, decide_eq_false (show ¬ m < 0 by omega)]
end Go.PF
