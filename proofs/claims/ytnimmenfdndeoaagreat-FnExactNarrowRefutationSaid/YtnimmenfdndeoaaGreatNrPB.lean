/- Helpers of the walks and plain laws. -/
import Derived.Test.YtnimmenfdndeoaaGreatNrPA
set_option linter.unusedVariables false
namespace Go.PF
open Go.Pu
theorem bsearch {X : Type} {body : Int × Int → Option (Lp (Int × Int) X)} {n P : Nat} (hP : P ≤ n)
 (h : ∀ a b : Nat, a < b → b ≤ n → body ((a : Int), (b : Int)) = some (.nx (if (a + b) / 2 < P then ((((a + b) / 2 + 1 : Nat) : Int), (b : Int)) else ((a : Int), (((a + b) / 2 : Nat) : Int)))))
 (he : ∀ a : Nat, a ≤ n → body ((a : Int), (a : Int)) = some (.bk ((a : Int), (a : Int)))) :
 iter body (0, (n : Int)) = some (.go ((P : Int), (P : Int))) := by
 have key : ∀ (m a b : Nat), b - a ≤ m → a ≤ P → P ≤ b → b ≤ n → iter body ((a : Int), (b : Int)) = some (.go ((P : Int), (P : Int))) := by
  intro m
  induction m with
  | zero =>
   intro a b hm h1 h2 h3
   have e1 : a = P := by omega
   have e2 : b = P := by omega
   rw [e1, e2]; exact iter_bk (he _ hP)
  | succ m ih =>
   intro a b hm h1 h2 h3
   by_cases hab : a < b
   · rw [iter_nx (h a b hab h3)]
     by_cases hc : (a + b) / 2 < P
     · rw [if_pos hc]; exact ih _ _ (by omega) (by omega) h2 h3
     · rw [if_neg hc]; exact ih _ _ (by omega) h1 (by omega) (by omega)
   · have e1 : a = P := by omega
     have e2 : b = P := by omega
     rw [e1, e2]; exact iter_bk (he _ hP)
 have := key n 0 n (by omega) (by omega) hP (Nat.le_refl _)
 simpa using this
def plc (xs : List (List Int)) (c : List Int) : Nat := (xs.takeWhile fun a => decide (cmpC a c < 0)).length
theorem plc_le (xs : List (List Int)) (c : List Int) : plc xs c ≤ xs.length := (List.takeWhile_prefix _).length_le
theorem plc_lt : ∀ {xs : List (List Int)} {c : List Int}, SrtC xs → ∀ {i : Nat} {x : List Int}, xs[i]? = some x → (cmpC x c < 0 ↔ i < plc xs c)
 | [], _, _, _, _, h => by simp at h
 | a :: xs, c, hs, i, x, h => by
  obtain ⟨a1, a2⟩ := List.pairwise_cons.1 hs
  unfold plc
  rw [List.takeWhile_cons]
  by_cases hc : cmpC a c < 0
  · rw [if_pos (by simp [hc])]
    cases i with
    | zero => simp at h; subst h; simp [hc]
    | succ i =>
     rw [List.getElem?_cons_succ] at h
     have := plc_lt a2 (c := c) h
     unfold plc at this
     rw [this, List.length_cons]; omega
  · rw [if_neg (by simp [hc])]
    cases i with
    | zero => simp at h; subst h; simp [hc]
    | succ i =>
     rw [List.getElem?_cons_succ] at h
     exact ⟨fun h1 => absurd (cmpC_trans (a1 x (List.mem_of_getElem? h)) h1) hc, fun h1 => absurd h1 (by simp)⟩
theorem plc_mem {xs : List (List Int)} {c : List Int} (hs : SrtC xs) : c ∈ xs ↔ xs[plc xs c]? = some c := by
 constructor
 · intro h
   obtain ⟨i, hi⟩ := List.mem_iff_getElem?.1 h
   have h1 : ¬ i < plc xs c := fun h => cmpC_irrefl c ((plc_lt hs hi).2 h)
   by_cases h2 : plc xs c < i
   · have hil : i < xs.length := (List.getElem?_eq_some_iff.1 hi).1
     obtain ⟨x, hx⟩ : ∃ x, xs[plc xs c]? = some x := ⟨_, List.getElem?_eq_getElem (by omega)⟩
     have h3 := List.pairwise_iff_getElem.1 hs (plc xs c) i (by omega) hil h2
     rw [List.getElem?_eq_some_iff] at hx hi
     obtain ⟨_, hx⟩ := hx
     obtain ⟨_, hi⟩ := hi
     rw [hx, hi] at h3
     exact absurd ((plc_lt hs (List.getElem?_eq_some_iff.2 ⟨_, hx⟩)).1 h3) (Nat.lt_irrefl _)
   · rw [show plc xs c = i by omega]; exact hi
 · exact fun h => List.mem_of_getElem? h
def insC (xs : List (List Int)) (c : List Int) : List (List Int) := xs.take (plc xs c) ++ c :: xs.drop (plc xs c)
theorem insC_mem {xs : List (List Int)} {c x : List Int} : x ∈ insC xs c ↔ x = c ∨ x ∈ xs := by
 unfold insC
 have e := List.take_append_drop (plc xs c) xs
 constructor
 · intro h
   rcases List.mem_append.1 h with h | h
   · exact .inr (List.mem_of_mem_take h)
   · rcases List.mem_cons.1 h with h | h
     · exact .inl h
     · exact .inr (List.mem_of_mem_drop h)
 · rintro (rfl | h)
   · simp
   · rw [← e] at h
     rcases List.mem_append.1 h with h | h
     · exact List.mem_append_left _ h
     · exact List.mem_append_right _ (List.mem_cons_of_mem _ h)
theorem insC_len (xs : List (List Int)) (c : List Int) : (insC xs c).length = xs.length + 1 := by
 unfold insC; simp; have := plc_le xs c; omega
theorem insC_srt {xs : List (List Int)} {c : List Int} (hs : SrtC xs) (hc : c ∉ xs) : SrtC (insC xs c) := by
 have hlt : ∀ x ∈ xs.take (plc xs c), cmpC x c < 0 := fun x hx => by
  obtain ⟨i, hi⟩ := List.mem_iff_getElem?.1 hx
  have hl : i < plc xs c := by
   have := (List.getElem?_eq_some_iff.1 hi).1
   rw [List.length_take] at this; omega
  rw [List.getElem?_take_of_lt hl] at hi
  exact (plc_lt hs hi).2 hl
 have hgt : ∀ x ∈ xs.drop (plc xs c), cmpC c x < 0 := fun x hx => by
  obtain ⟨i, hi⟩ := List.mem_iff_getElem?.1 hx
  rw [List.getElem?_drop] at hi
  have h1 : ¬ cmpC x c < 0 := fun h => absurd ((plc_lt hs hi).1 h) (by omega)
  by_cases h2 : cmpC c x < 0
  · exact h2
  · exact absurd (by rw [cmpC_total h2 h1]; exact List.mem_of_getElem? hi) hc
 unfold insC SrtC
 rw [List.pairwise_append, List.pairwise_cons]
 refine ⟨hs.sublist (List.take_sublist _ _), ⟨hgt, hs.sublist (List.drop_sublist _ _)⟩, fun a ha b hb => ?_⟩
 rcases List.mem_cons.1 hb with rfl | hb
 · exact hlt a ha
 · exact cmpC_trans (hlt a ha) (hgt b hb)
def putC (xs : List (List Int)) (c : List Int) : List (List Int) := bif xs.contains c then xs else insC xs c
theorem putC_mem {xs : List (List Int)} {c x : List Int} : x ∈ putC xs c ↔ x = c ∨ x ∈ xs := by
 unfold putC
 cases h : xs.contains c with
 | true =>
  simp only [cond_true]
  rw [List.contains_iff_mem] at h
  exact ⟨.inr, fun h1 => h1.elim (fun h2 => by rw [h2]; exact h) id⟩
 | false => exact insC_mem
theorem putC_srt {xs : List (List Int)} {c : List Int} (hs : SrtC xs) : SrtC (putC xs c) := by
 unfold putC
 cases h : xs.contains c with
 | true => exact hs
 | false => exact insC_srt hs (fun h1 => by rw [← List.contains_iff_mem, h] at h1; cases h1)
theorem putC_len (xs : List (List Int)) (c : List Int) : (putC xs c).length ≤ xs.length + 1 := by
 unfold putC
 cases h : xs.contains c with
 | true => exact Nat.le_succ _
 | false => exact Nat.le_of_eq (insC_len xs c)
end Go.PF
namespace Go.PF
open Go.Pu
theorem IsC.small {V : Int} {c : List Int} (h : IsC V c) : PF.sm c := fun x hx => by have := h.lit x hx; have := h.hi; omega
theorem res_isC2 {V : Int} {a b : List Int} {v : Int} (ha : IsC V a) (hb : IsC V b) (h : (res a b v).2 = true) : IsC V (res a b v).1 := by
 unfold res at h ⊢
 cases hc : !a.contains v || !b.contains (wr (-v)) with
 | true => rw [hc] at h; cases h
 | false =>
  rw [hc] at h
  simp only [cond_false] at h ⊢
  unfold joined at h ⊢
  have sa : Srt (without a v) := ha.srt.sublist List.filter_sublist
  have sb : Srt (without b v) := hb.srt.sublist List.filter_sublist
  have ma : Sm (without a v) := fun x hx => ha.sm x (List.mem_filter.1 hx).1
  have mb : Sm (without b v) := fun x hx => hb.sm x (List.mem_filter.1 hx).1
  have hj := joinL_spec sa ma sb mb
  split at hj
  · rw [hj] at h; cases h
  · obtain ⟨t, h1, h2, h3⟩ := hj
    rw [h1]
    refine ⟨ha.lo, ha.hi, fun l hl => ?_, h2⟩
    rcases (h3 l).1 hl with hl | hl
    · exact ha.lit l (List.mem_filter.1 hl).1
    · exact hb.lit l (List.mem_filter.1 hl).1
structure Cfg (V : Int) (n : Nat) (xs : List (List Int)) : Prop where
 srt : SrtC xs
 len : xs.length ≤ n
 cl : ∀ c ∈ xs, IsC V c
theorem Cfg.put {V : Int} {n : Nat} {xs : List (List Int)} (h : Cfg V n xs) {c : List Int} (hc : IsC V c) : Cfg V (n + 1) (putC xs c) := by
 refine ⟨putC_srt h.srt, ?_, fun d hd => ?_⟩
 · have := putC_len xs c; have := h.len; omega
 · rcases putC_mem.1 hd with rfl | hd
   · exact hc
   · exact h.cl d hd
theorem putC_new {xs : List (List Int)} {c : List Int} (h : xs.contains c = false) : putC xs c = insC xs c := by unfold putC; rw [h]; rfl
theorem spec_l2Place_eq {V : Int} {n : Nat} {xs : List (List Int)} (h : Cfg V n xs) (hn : n ≤ 100000) {c : List Int} (hc : sm c) : spec_l2Place xs c = some (plc xs c : Int) := by
 unfold spec_l2Place
 have hl := h.len
 rw [len_eq, bsearch (n := xs.length) (P := plc xs c) (plc_le xs c) (fun a b hab hb => ?_) (fun a ha => ?_)]
 · rfl
 · have w1 : wr ((a : Int) + b) = ((a + b : Nat) : Int) := by rw [wr_of _ (by omega) (by omega)]; omega
   have w2 : wr (((a + b : Nat) : Int).tdiv 2) = (((a + b) / 2 : Nat) : Int) := by
    rw [Int.tdiv_eq_ediv_of_nonneg (by omega)]
    rw [wr_of _ (by omega) (by omega)]; omega
   have w3 : wr ((((a + b) / 2 : Nat) : Int) + 1) = (((a + b) / 2 + 1 : Nat) : Int) := by rw [wr_of _ (by omega) (by omega)]; omega
   obtain ⟨x, hx⟩ : ∃ x, xs[(a + b) / 2]? = some x := ⟨_, List.getElem?_eq_getElem (by omega)⟩
   have hp := plc_lt h.srt (c := c) hx
   simp only [show decide ((a : Int) < (b : Int)) = true by rw [decide_eq_true_eq]; omega, cond_true, w1, w2, w3, ix_get, hx, bd_some]
   rw [spec_l2Before_eq (h.cl x (List.mem_of_getElem? hx)).small hc, bd_some]
   by_cases hlt : (a + b) / 2 < plc xs c
   · rw [if_pos hlt, show decide (cmpC x c < 0) = true by rw [decide_eq_true_eq]; exact hp.2 hlt]; rfl
   · rw [if_neg hlt, show decide (cmpC x c < 0) = false by rw [decide_eq_false_iff_not]; exact fun h => hlt (hp.1 h)]; rfl
 · simp only [show decide ((a : Int) < (a : Int)) = false by rw [decide_eq_false_iff_not]; omega, cond_false]
theorem plc_test {V : Int} {n : Nat} {xs : List (List Int)} (h : Cfg V n xs) {c : List Int} :
 (bd (bif (decide (((plc xs c : Nat) : Int) < len xs)) then bd (ix xs ((plc xs c : Nat) : Int)) (fun x => bd (spec_l1Same x c) (fun r => some r)) else some false) fun t => some t) = some (xs.contains c) := by
 have hm := plc_mem h.srt (c := c)
 by_cases hlt : plc xs c < xs.length
 · have hx : xs[plc xs c]? = some xs[plc xs c] := List.getElem?_eq_getElem hlt
   rw [show decide (((plc xs c : Nat) : Int) < len xs) = true by rw [decide_eq_true_eq, len_eq]; omega, cond_true, ix_get, hx, bd_some, spec_l1Same_eq]
   simp only [bd_some]
   congr 1
   rw [Bool.eq_iff_iff, beq_iff_eq, List.contains_iff_mem, hm, hx]
   exact ⟨fun h => by rw [h], fun h => Option.some.inj h⟩
 · rw [show decide (((plc xs c : Nat) : Int) < len xs) = false by rw [decide_eq_false_iff_not, len_eq]; omega, cond_false, bd_some]
   congr 1
   rw [eq_comm, Bool.eq_false_iff]
   intro hc
   rw [List.contains_iff_mem, hm, List.getElem?_eq_none (by omega)] at hc
   cases hc
theorem bd_test {β : Type} {x : Option Bool} {b : Bool} {k : Bool → Option β} (h : (bd x fun t => some t) = some b) : bd x k = k b := by
 cases x with
 | none => cases h
 | some y => cases h; rfl
theorem spec_l2At_eq {V : Int} {n : Nat} {xs : List (List Int)} (h : Cfg V n xs) (hn : n ≤ 100000) {c : List Int} (hc : sm c) : spec_l2At xs c = some (bif xs.contains c then (plc xs c : Int) else -1) := by
 unfold spec_l2At
 rw [spec_l2Place_eq h hn hc, bd_some, bd_test (plc_test h)]
 cases xs.contains c <;> rfl
theorem at_ge {xs : List (List Int)} {c : List Int} : decide ((0 : Int) ≤ bif xs.contains c then (plc xs c : Int) else -1) = xs.contains c := by
 cases xs.contains c with
 | true => simp only [cond_true]; rw [decide_eq_true_eq]; omega
 | false => rfl
theorem spec_l2Insert_eq {V : Int} {n : Nat} {xs : List (List Int)} (h : Cfg V n xs) (hn : n ≤ 100000) {c : List Int} (hc : sm c) : spec_l2Insert xs c = some (putC xs c) := by
 unfold spec_l2Insert putC
 rw [spec_l2Place_eq h hn hc, bd_some, bd_test (plc_test h)]
 have hp := plc_le xs c
 have hl := h.len
 have hlim : lim = 4294967296 := rfl
 cases xs.contains c with
 | true => rfl
 | false =>
  simp only [cond_false]
  have c1 : cut xs 0 ((plc xs c : Nat) : Int) = some (xs.take (plc xs c)) := by
   have := cut_ok (xs := xs) (a := 0) (b := plc xs c) (Nat.zero_le _) hp
   simpa using this
  have c2 : cut xs ((plc xs c : Nat) : Int) (len xs) = some (xs.drop (plc xs c)) := by
   have := cut_ok (xs := xs) (a := plc xs c) (b := xs.length) hp (Nat.le_refl _)
   rw [List.take_length] at this; exact this
  rw [c1, bd_some, app_ok (by simp; omega), bd_some, List.nil_append, app_ok (by simp; omega), bd_some, c2, bd_some, app_ok (by simp; omega), bd_some]
  unfold insC
  rw [List.append_assoc]; rfl
end Go.PF
namespace Go.PF
open Go.Pu
def lits0 (i : Nat) : List Int := (List.range' 1 (i - 1)).flatMap fun (k : Nat) => [(k : Int), -(k : Int)]
theorem lits0_7 : lits0 7 = [1, -1, 2, -2, 3, -3, 4, -4, 5, -5, 6, -6] := by decide
theorem lits0_s {i : Nat} (h : 1 ≤ i) : lits0 (i + 1) = lits0 i ++ [(i : Int), -(i : Int)] := by
 unfold lits0
 rw [show i + 1 - 1 = (i - 1) + 1 by omega, List.range'_1_concat, List.flatMap_append, show 1 + (i - 1) = i by omega]
 simp
theorem mask_clause_eq {m : Nat} (hm : m < 65536) : impl_mask_clause (m : Int) = some (litsM m) := by
 have main : ∃ r, impl_mask_clause (m : Int) = some r ∧ r = litsM m := by
  unfold impl_mask_clause
  refine cnt_m (σ := List Int) (fun s i => (s, i)) (n := 7) (a := 1) (I := fun i s => s = (lits0 i).filter fun l => m.testBit (bi l)) rfl (by omega) rfl ?_ ?_ ?_
  · intro i s h1 h2 hs
    have e1 : wr ((i : Int) - 1) = ((i - 1 : Nat) : Int) := by rw [wr_s (by omega) (by omega)]; omega
    have e2 : wr (wr (6 + (i : Int)) - 1) = ((5 + i : Nat) : Int) := by rw [wr_s (n := 6 + (i : Int)) (by omega) (by omega), wr_s (by omega) (by omega)]; omega
    have e3 : wr (-(i : Int)) = -(i : Int) := wr_s (by omega) (by omega)
    have e4 : wr ((i : Int) + 1) = ((i + 1 : Nat) : Int) := by rw [wr_s (by omega) (by omega)]; omega
    have n1 : ∀ k : Nat, nn (k : Int) = some () := fun k => by unfold nn; rw [if_neg (by omega)]
    have b1 : bi (i : Int) = i - 1 := by unfold bi; rw [if_pos (by omega)]; omega
    have b2 : bi (-(i : Int)) = 5 + i := by unfold bi; rw [if_neg (by omega)]; omega
    have hlen : (lits0 i).length ≤ 12 := by
     have : i = 1 ∨ i = 2 ∨ i = 3 ∨ i = 4 ∨ i = 5 ∨ i = 6 := by omega
     rcases this with rfl | rfl | rfl | rfl | rfl | rfl <;> decide
    have hl : s.length ≤ 12 := by rw [hs]; exact Nat.le_trans (List.length_filter_le _ _) hlen
    have ha : ∀ x : Int, app s [x] = some (s ++ [x]) := fun x => by unfold app; rw [if_pos (by simp [lim]; omega)]
    have ha2 : ∀ x y : Int, app (s ++ [x]) [y] = some (s ++ [x] ++ [y]) := fun x y => by unfold app; rw [if_pos (by simp [lim]; omega)]
    refine .inl ⟨(lits0 (i + 1)).filter fun l => m.testBit (bi l), ?_, rfl⟩
    rw [lits0_s h1, List.filter_append, ← hs]
    simp only [e1, e2, e3, e4, n1, bd_some, bit16 hm (show i - 1 ≤ 16 by omega), bit16 hm (show 5 + i ≤ 16 by omega), ha, ha2]
    rw [decide_eq_true (by omega), cond_true]
    rw [List.filter_cons, List.filter_cons, b1, b2]
    cases m.testBit (i - 1) <;> cases m.testBit (5 + i) <;> simp
  · intro s hs
    simp
  · intro s hs
    refine ⟨s, rfl, ?_⟩
    rw [hs]
    unfold litsM
    rw [lits0_7]
 obtain ⟨r, e, hr⟩ := main
 rw [e, hr]
def c_impl_mask_count (a0 : Int) : Option Int :=
 bdR (iterC (S := (Int × Int)) (X := Empty) 14 (fun s21 => (bif (!(s21.1 == 0)) then some (Lp.nx ((andK false 16 s21.1 (wrk false 16 (s21.1 - 1))), (wr (s21.2 + 1)))) else some (Lp.bk (s21.1, s21.2)))) (a0, 0)) (fun s21 => some s21.2) (fun x21 => nomatch x21)
theorem count_le (a : Int) : Le (c_impl_mask_count a) (impl_mask_count a) := by
 unfold c_impl_mask_count impl_mask_count
 exact bdR_le (iterC_le (fun s => Le.rfl' _) _ _) (fun _ => Le.rfl' _) (fun x => nomatch x)
theorem count_tab : (List.range 4096).all (fun m => c_impl_mask_count (m : Int) == some ((litsM m).length : Int)) = true := by decide +kernel
theorem mask_count_eq {m : Nat} (hm : m < 4096) : impl_mask_count (m : Int) = some ((litsM m).length : Int) := by
 have := List.all_eq_true.1 count_tab m (List.mem_range.2 hm)
 exact (count_le _).le _ (by simpa using this)
theorem count_mk {V : Int} {c : List Int} (h : IsS V c) : impl_mask_count (mkN c : Int) = some (len c) := by
 rw [mask_count_eq (mkN_lt h), litsM_mk h]; rfl
theorem clause_mk {V : Int} {c : List Int} (h : IsS V c) : impl_mask_clause (mkN c : Int) = some c := by
 rw [mask_clause_eq (by have := mkN_lt h; omega), litsM_mk h]
theorem bi_pos {v : Int} (h1 : 1 ≤ v) : bi v = (v - 1).toNat := by unfold bi; rw [if_pos (by omega)]
theorem bi_neg {v : Int} (h1 : 1 ≤ v) : bi (-v) = (v - 1).toNat + 6 := by unfold bi; rw [if_neg (by omega)]; omega
theorem both_mem {V : Int} {a b : List Int} (ha : IsS V a) (hb : IsS V b) {v : Int} (h1 : 1 ≤ v) (h2 : v ≤ 6) : (bothN (mkN a) (mkN b)).testBit (bi v) = true ↔ (v ∈ a ∧ -v ∈ b) ∨ (-v ∈ a ∧ v ∈ b) := by
 have hk : bi v < 6 := by rw [bi_pos h1]; omega
 have e : bi v + 6 = bi (-v) := by rw [bi_pos h1, bi_neg h1]
 rw [both_bit (mkN_lt ha) (mkN_lt hb) hk, e, Bool.or_eq_true, Bool.and_eq_true, Bool.and_eq_true, mkN_mem ha (by omega) (by omega) (by omega), mkN_mem hb (by omega) (by omega) (by omega), mkN_mem ha (by omega) (by omega) (by omega), mkN_mem hb (by omega) (by omega) (by omega)]
theorem both_comm {V : Int} {a b : List Int} (ha : IsS V a) (hb : IsS V b) : bothN (mkN a) (mkN b) = bothN (mkN b) (mkN a) := by
 apply Nat.eq_of_testBit_eq
 intro j
 by_cases hj : j < 6
 · rw [both_bit (mkN_lt ha) (mkN_lt hb) hj, both_bit (mkN_lt hb) (mkN_lt ha) hj]
   cases (mkN a).testBit j <;> cases (mkN b).testBit j <;> cases (mkN a).testBit (j + 6) <;> cases (mkN b).testBit (j + 6) <;> rfl
 · rw [bit_hi (k := 6) (both_lt _ _) (by omega), bit_hi (k := 6) (both_lt _ _) (by omega)]
theorem res_both {V : Int} {a b : List Int} (ha : IsS V a) (hb : IsS V b) {v : Int} (h1 : 1 ≤ v) (h2 : v ≤ V) : (res a b v).2 = true ↔ v ∈ a ∧ bothN (mkN a) (mkN b) = 2 ^ bi v := by
 have hV := ha.le
 rw [(res_iff ha.c hb.c h1 h2).1]
 constructor
 · rintro ⟨m1, m2, m3⟩
   refine ⟨m1, Nat.eq_of_testBit_eq fun j => ?_⟩
   rw [Nat.testBit_two_pow]
   by_cases hj : j < 6
   · have e : j = bi ((j : Int) + 1) := by rw [bi_pos (by omega)]; omega
     rw [Bool.eq_iff_iff, decide_eq_true_iff]
     rw [show (bothN (mkN a) (mkN b)).testBit j = (bothN (mkN a) (mkN b)).testBit (bi ((j : Int) + 1)) by rw [← e], both_mem ha hb (by omega) (by omega)]
     constructor
     · rintro (⟨p, q⟩ | ⟨p, q⟩)
       · have := m3 _ p q
         rw [e, ← this]
       · have := m3 _ p (by simpa using q)
         omega
     · intro g
       have : v = (j : Int) + 1 := by rw [bi_pos h1] at g; omega
       rw [← this]
       exact .inl ⟨m1, m2⟩
   · rw [bit_hi (k := 6) (both_lt _ _) (by omega)]
     have : bi v < 6 := by rw [bi_pos h1]; omega
     symm
     rw [decide_eq_false_iff_not]
     omega
 · rintro ⟨m1, m2⟩
   have key : ∀ w : Int, 1 ≤ w → w ≤ 6 → ((w ∈ a ∧ -w ∈ b) ∨ (-w ∈ a ∧ w ∈ b)) → w = v := by
    intro w hw1 hw2 hw
    have := (both_mem ha hb hw1 hw2).2 hw
    rw [m2, Nat.testBit_two_pow, decide_eq_true_iff, bi_pos hw1, bi_pos h1] at this
    omega
   have hn : -v ∉ a := fun h => by have := srt_one ha.c m1 h (by omega); omega
   refine ⟨m1, ?_, ?_⟩
   · have := (both_mem ha hb h1 (by omega)).1 (by rw [m2, Nat.testBit_two_pow]; simp)
     rcases this with h | h
     · exact h.2
     · exact absurd h.1 hn
   · intro x hx hx2
     obtain ⟨l1, l2, l3⟩ := ha.lit x hx
     by_cases hp : 0 < x
     · exact key x (by omega) (by omega) (.inl ⟨hx, hx2⟩)
     · have := key (-x) (by omega) (by omega) (.inr ⟨by simpa using hx, hx2⟩)
       exact absurd (by rw [← this]; simpa using hx) hn
theorem res_mkN {V : Int} {a b : List Int} (ha : IsS V a) (hb : IsS V b) {v : Int} (h1 : 1 ≤ v) (h2 : v ≤ V) (h : (res a b v).2 = true) :
 mkN (res a b v).1 = minusN (mkN a ||| mkN b) (2 ^ bi v ||| 2 ^ bi v <<< 6) := by
 have hV := ha.le
 have hc : IsS V (res a b v).1 := ⟨res_isC2 ha.c hb.c h, hV⟩
 have hm := (res_iff ha.c hb.c h1 h2).2 h
 have hbv : bi v < 6 := by rw [bi_pos h1]; omega
 apply Nat.eq_of_testBit_eq
 intro j
 rw [minus_bit, Nat.testBit_or, Nat.testBit_or, Nat.testBit_shiftLeft, Nat.testBit_two_pow, Nat.testBit_two_pow]
 by_cases hj : j < 12
 · obtain ⟨l, e, l1, l2, l3⟩ : ∃ l, j = bi l ∧ -6 ≤ l ∧ l ≤ 6 ∧ l ≠ 0 := by
    by_cases hj6 : j < 6
    · exact ⟨(j : Int) + 1, by rw [bi_pos (by omega)]; omega, by omega, by omega, by omega⟩
    · exact ⟨5 - (j : Int), by unfold bi; rw [if_neg (by omega)]; omega, by omega, by omega, by omega⟩
   subst e
   have e2 : (decide (bi v = bi l) || (decide (bi l ≥ 6) && decide (bi v = bi l - 6))) = decide (l.natAbs = v.natAbs) := by
    rw [Bool.eq_iff_iff]
    simp only [Bool.or_eq_true, Bool.and_eq_true, decide_eq_true_iff]
    rw [bi_pos h1]
    unfold bi
    split <;> omega
   rw [e2, Bool.eq_iff_iff, Bool.and_eq_true, Bool.or_eq_true, mkN_mem hc l1 l2 l3, mkN_mem ha l1 l2 l3, mkN_mem hb l1 l2 l3, hm]
   simp
 · rw [bit_hi (k := 12) (mkN_lt hc) (by omega), bit_hi (k := 12) (mkN_lt ha) (by omega), bit_hi (k := 12) (mkN_lt hb) (by omega)]
   rfl
def hitM (x y : Int) : Bool := impl_mask_one (impl_bothOf x y)
def rsvM (x y : Int) : Int := anK false 16 (orK false 16 x y) (orK false 16 (impl_bothOf x y) (shlK false 16 (impl_bothOf x y) 6))
theorem hit_iff {V : Int} {a b : List Int} (ha : IsS V a) (hb : IsS V b) : hitM (mkN a) (mkN b) = true ↔ ∃ v, 1 ≤ v ∧ v ≤ V ∧ ((res a b v).2 = true ∨ (res b a v).2 = true) := by
 have hV := ha.le
 unfold hitM
 rw [bothOf_eq (mkN_lt ha) (mkN_lt hb), one_iff (both_lt _ _)]
 constructor
 · rintro ⟨k, hk, e⟩
   have eb : k = bi ((k : Int) + 1) := by rw [bi_pos (by omega)]; omega
   have hb1 : (bothN (mkN a) (mkN b)).testBit (bi ((k : Int) + 1)) = true := by rw [← eb, e, Nat.testBit_two_pow]; simp
   rw [both_mem ha hb (by omega) (by omega)] at hb1
   rcases hb1 with ⟨p, q⟩ | ⟨p, q⟩
   · refine ⟨(k : Int) + 1, by omega, (ha.c.lit _ p).2.1, .inl ((res_both ha hb (by omega) (ha.c.lit _ p).2.1).2 ⟨p, by rw [← eb]; exact e⟩)⟩
   · refine ⟨(k : Int) + 1, by omega, (hb.c.lit _ q).2.1, .inr ((res_both hb ha (by omega) (hb.c.lit _ q).2.1).2 ⟨q, by rw [← eb, ← both_comm ha hb]; exact e⟩)⟩
 · rintro ⟨v, h1, h2, h | h⟩
   · exact ⟨bi v, by rw [bi_pos h1]; omega, ((res_both ha hb h1 h2).1 h).2⟩
   · exact ⟨bi v, by rw [bi_pos h1]; omega, by rw [both_comm ha hb]; exact ((res_both hb ha h1 h2).1 h).2⟩
theorem rsv_pow {x y k : Nat} (hx : x < 4096) (hy : y < 4096) (hk : k < 6) (h : bothN x y = 2 ^ k) : rsvM (x : Int) (y : Int) = ((minusN (x ||| y) (2 ^ k ||| 2 ^ k <<< 6) : Nat) : Int) := by
 unfold rsvM
 have h1 : 2 ^ k < 64 := Nat.pow_lt_pow_right (a := 2) (n := 6) (by omega) hk
 have h2 : 2 ^ k <<< 6 < 4096 := by rw [Nat.shiftLeft_eq]; omega
 rw [bothOf_eq hx hy, h, show (6 : Int) = ((6 : Nat) : Int) from rfl, shl16 (by omega) (by omega), or16 (by omega) (by omega), or16 (by omega) (by omega), an16 (Nat.or_lt_two_pow (n := 16) (by omega) (by omega)) (Nat.or_lt_two_pow (n := 16) (by omega) (by omega))]
theorem rsv_left {V : Int} {a b : List Int} (ha : IsS V a) (hb : IsS V b) {v : Int} (h1 : 1 ≤ v) (h2 : v ≤ V) (h : (res a b v).2 = true) :
 hitM (mkN a) (mkN b) = true ∧ rsvM (mkN a) (mkN b) = (mkN (res a b v).1 : Int) ∧ impl_bothOf (mkN a) (mkN b) = ((2 ^ bi v : Nat) : Int) := by
 have hV := ha.le
 have e := ((res_both ha hb h1 h2).1 h).2
 refine ⟨(hit_iff ha hb).2 ⟨v, h1, h2, .inl h⟩, ?_, ?_⟩
 · rw [rsv_pow (mkN_lt ha) (mkN_lt hb) (by rw [bi_pos h1]; omega) e, res_mkN ha hb h1 h2 h]
 · rw [bothOf_eq (mkN_lt ha) (mkN_lt hb), e]
theorem rsv_right {V : Int} {a b : List Int} (ha : IsS V a) (hb : IsS V b) {v : Int} (h1 : 1 ≤ v) (h2 : v ≤ V) (h : (res b a v).2 = true) :
 hitM (mkN a) (mkN b) = true ∧ rsvM (mkN a) (mkN b) = (mkN (res b a v).1 : Int) := by
 have hV := ha.le
 have e := ((res_both hb ha h1 h2).1 h).2
 refine ⟨(hit_iff ha hb).2 ⟨v, h1, h2, .inr h⟩, ?_⟩
 rw [rsv_pow (k := bi v) (mkN_lt ha) (mkN_lt hb) (by rw [bi_pos h1]; omega) (by rw [both_comm ha hb]; exact e), res_mkN hb ha h1 h2 h, Nat.or_comm]
end Go.PF
namespace Go.PF
open Go.Pu
def clAt (S : List ResStep) (k : Int) : List Int := match S[k.toNat]? with | some y => y.clause | none => []
def earlierB (F : Cnf) (S : List ResStep) (i : Nat) (k : Int) : Bool := inB k 0 ((i : Int) - 1) && clauseB F.vars (clAt S k)
def axB (F : Cnf) (x : ResStep) : Bool := inB x.right 0 (len F.clauses - 1) && match F.clauses[x.right.toNat]? with | some c => c == x.clause | none => false
def stepB (F : Cnf) (S : List ResStep) (i : Nat) (x : ResStep) : Bool :=
 clauseB F.vars x.clause &&
 bif x.left == -1 then x.pivot == 0 && axB F x
 else earlierB F S i x.left &&
  bif x.right == -1 then x.pivot == 0 && partB (clAt S x.left) x.clause
  else earlierB F S i x.right && (inB x.pivot 1 F.vars && ((res (clAt S x.left) (clAt S x.right) x.pivot).2 && (res (clAt S x.left) (clAt S x.right) x.pivot).1 == x.clause))
structure IsD (F : Cnf) (S : List ResStep) : Prop where
 cnf : cnfB F = true
 le : S.length ≤ 200
 step : ∀ i x, S[i]? = some x → stepB F S i x = true
end Go.PF
namespace Go.PF
open Go.Pu
abbrev Asc (c : List Int) : Prop := c.Pairwise fun a b => a < b
theorem asc_len : ∀ {c : List Int} {lo hi : Int}, Asc c → (∀ x ∈ c, lo < x ∧ x ≤ hi) → (c.length : Int) ≤ max 0 (hi - lo) := by
 intro c
 induction c with
 | nil => intro lo hi _ _; simp only [List.length_nil]; omega
 | cons a c ih =>
  intro lo hi h hl
  obtain ⟨h1, h2⟩ := List.pairwise_cons.1 h
  have ha := hl a (by simp)
  have := ih (lo := a) (hi := hi) h2 fun x hx => ⟨h1 x hx, (hl x (by simp [hx])).2⟩
  simp only [List.length_cons]; omega
end Go.PF
namespace Go.PF
open Go.Pu
def Mk (F : Cnf) (w : Int) (a b : List Int) (v : Int) (c : List Int) : Prop := 1 ≤ v ∧ v ≤ F.vars ∧ (res a b v).2 = true ∧ (res a b v).1 = c ∧ len c ≤ w
def Kn (F : Cnf) (w : Int) : Nat → List Int → Prop
 | 0, _ => False
 | n + 1, c => (c ∈ F.clauses ∧ len c ≤ w) ∨ Kn F w n c ∨ ∃ a b v, Kn F w n a ∧ Kn F w n b ∧ Mk F w a b v c
def Rk (F : Cnf) (w : Int) (n : Nat) (c : List Int) : Prop := Kn F w (n + 1) c ∧ ¬ Kn F w n c
structure Nar (F : Cnf) : Prop where
 cnf : cnfB F = true
 le : F.vars ≤ 6
theorem Nar.ax {F : Cnf} (h : Nar F) {c : List Int} (hc : c ∈ F.clauses) : IsS F.vars c := by
 have := h.cnf
 unfold cnfB at this
 simp only [Bool.and_eq_true] at this
 exact ⟨clauseB_iff.1 (List.all_eq_true.1 this.2 c hc), h.le⟩
theorem Nar.kn {F : Cnf} (h : Nar F) {w : Int} : ∀ {n : Nat} {c : List Int}, Kn F w n c → IsS F.vars c
 | 0, _, h' => h'.elim
 | n + 1, c, h' => by
  rcases h' with ⟨h1, _⟩ | h1 | ⟨a, b, v, h1, h2, h3, h4, h5, h6, _⟩
  · exact h.ax h1
  · exact h.kn h1
  · exact ⟨h6 ▸ res_isC2 (h.kn h1).c (h.kn h2).c h5, h.le⟩
theorem Kn.len {F : Cnf} {w : Int} : ∀ {n : Nat} {c : List Int}, Kn F w n c → len c ≤ w
 | 0, _, h' => h'.elim
 | n + 1, c, h' => by
  rcases h' with ⟨_, h1⟩ | h1 | ⟨a, b, v, _, _, _, _, _, _, h1⟩
  · exact h1
  · exact Kn.len h1
  · exact h1
theorem Kn.up {F : Cnf} {w : Int} {n m : Nat} (h : n ≤ m) {c : List Int} (hc : Kn F w n c) : Kn F w m c := by
  induction m with
  | zero => have : n = 0 := by omega
            subst this; exact hc
  | succ m ih =>
    by_cases e : n = m + 1
    · subst e; exact hc
    · exact .inr (.inl (ih (by omega)))
theorem Rk.uniq {F : Cnf} {w : Int} {n m : Nat} {c : List Int} (h : Rk F w n c) (h' : Rk F w m c) : n = m := by
 apply Classical.byContradiction
 intro hne
 rcases Nat.lt_or_gt_of_ne hne with g | g
 · exact h'.2 (h.1.up (by omega))
 · exact h.2 (h'.1.up (by omega))
theorem Kn.rk {F : Cnf} {w : Int} : ∀ {n : Nat} {c : List Int}, Kn F w n c → ∃ q, q < n ∧ Rk F w q c
 | 0, _, h => h.elim
 | n + 1, c, h => by
  by_cases h' : Kn F w n c
  · obtain ⟨q, h1, h2⟩ := h'.rk
    exact ⟨q, by omega, h2⟩
  · exact ⟨n, by omega, h, h'⟩
theorem Kn.stop {F : Cnf} {w : Int} {r : Nat} (h : ∀ c, Kn F w (r + 1) c → Kn F w r c) : ∀ {n : Nat} {c : List Int}, Kn F w n c → Kn F w r c
 | 0, _, h' => h'.elim
 | n + 1, c, h' => by
  apply h
  rcases h' with h2 | h2 | ⟨a, b, v, h2, h3, h4⟩
  · exact .inl h2
  · exact .inr (.inl (Kn.stop h h2))
  · exact .inr (.inr ⟨a, b, v, Kn.stop h h2, Kn.stop h h3, h4⟩)
theorem Mk.ne {F : Cnf} {w : Int} (hF : Nar F) {a b : List Int} {v : Int} {c : List Int} (ha : IsS F.vars a) (hb : IsS F.vars b) (h : Mk F w a b v c) : a ≠ b := by
 intro e
 subst e
 obtain ⟨h1, h2, h3, h4, h5⟩ := h
 obtain ⟨m1, m2, _⟩ := (res_iff ha.c hb.c h1 h2).1.1 h3
 have := srt_one ha.c m1 m2 (by omega)
 omega
theorem Mk.hit {F : Cnf} {w : Int} {a b : List Int} {v : Int} {c : List Int} (ha : IsS F.vars a) (hb : IsS F.vars b) (h : Mk F w a b v c ∨ Mk F w b a v c) :
 hitM (mkN a) (mkN b) = true ∧ rsvM (mkN a) (mkN b) = (mkN c : Int) := by
 rcases h with ⟨h1, h2, h3, h4, h5⟩ | ⟨h1, h2, h3, h4, h5⟩
 · have := rsv_left ha hb h1 h2 h3
   rw [h4] at this
   exact ⟨this.1, this.2.1⟩
 · have := rsv_right ha hb h1 h2 h3
   rw [h4] at this
   exact this
theorem hit_mk {F : Cnf} {w : Int} (hF : Nar F) {a b : List Int} (ha : IsS F.vars a) (hb : IsS F.vars b) (h : hitM (mkN a) (mkN b) = true) :
 ∃ c, IsS F.vars c ∧ rsvM (mkN a) (mkN b) = (mkN c : Int) ∧ (len c ≤ w → ∃ v, Mk F w a b v c ∨ Mk F w b a v c) := by
 obtain ⟨v, h1, h2, h3 | h3⟩ := (hit_iff ha hb).1 h
 · exact ⟨_, ⟨res_isC2 ha.c hb.c h3, hF.le⟩, (rsv_left ha hb h1 h2 h3).2.1, fun hl => ⟨v, .inl ⟨h1, h2, h3, rfl, hl⟩⟩⟩
 · exact ⟨_, ⟨res_isC2 hb.c ha.c h3, hF.le⟩, (rsv_right ha hb h1 h2 h3).2, fun hl => ⟨v, .inr ⟨h1, h2, h3, rfl, hl⟩⟩⟩
theorem few {V : Int} {cl : List (List Int)} (hn : cl.Nodup) (hc : ∀ c ∈ cl, IsS V c) : cl.length ≤ 4096 := by
 let xs : List Int := (cl.map fun c => ((mkN c : Nat) : Int)).mergeSort fun a b => decide (a ≤ b)
 have hp : xs.Perm (cl.map fun c => ((mkN c : Nat) : Int)) := List.mergeSort_perm _ _
 have hnd : (cl.map fun c => ((mkN c : Nat) : Int)).Nodup := by
  rw [List.nodup_iff_pairwise_ne, List.pairwise_map]
  have := List.Pairwise.and_mem.1 (List.nodup_iff_pairwise_ne.1 hn)
  refine this.imp ?_
  rintro a b ⟨ha, hb, hne⟩ e
  exact hne (mkN_inj (hc a ha) (hc b hb) (by omega))
 have hx : xs.Nodup := hp.nodup_iff.2 hnd
 have hs : xs.Pairwise fun a b => a ≤ b := by
  have := List.pairwise_mergeSort (le := fun a b : Int => decide (a ≤ b)) (by intro a b c; simp; omega) (by intro a b; simp; omega) (cl.map fun c => ((mkN c : Nat) : Int))
  exact this.imp (fun h => by simpa using h)
 have hasc : Asc xs := (hs.and (List.nodup_iff_pairwise_ne.1 hx)).imp (fun ⟨h1, h2⟩ => by omega)
 have hl := asc_len (lo := -1) (hi := 4095) hasc (by
  intro x hx
  have : x ∈ cl.map fun c => ((mkN c : Nat) : Int) := hp.mem_iff.1 hx
  obtain ⟨c, hcl, e⟩ := List.mem_map.1 this
  have := mkN_lt (hc c hcl)
  omega)
 have : xs.length = cl.length := by rw [hp.length_eq, List.length_map]
 omega
theorem mget_cons {V : Type} (p : Int × V) (m : List (Int × V)) (j : Int) : mget (p :: m) j = if j = p.1 then some p.2 else mget m j := by
 simp only [mget]
 by_cases h : j = p.1
 · rw [if_pos h, beq_iff_eq.2 h, cond_true]
 · rw [if_neg h, beq_eq_false_iff_ne.2 h, cond_false]
theorem mget_mput {V : Type} : ∀ (m : List (Int × V)) (k : Int) (v : V) (j : Int), mget (mput m k v) j = if j = k then some v else mget m j
 | [], k, v, j => by simp only [mput]; rw [mget_cons]
 | p :: m, k, v, j => by
  simp only [mput]
  by_cases hk : k = p.1
  · rw [beq_iff_eq.2 hk, cond_true, mget_cons, mget_cons, ← hk]
    by_cases h : j = k
    · rw [if_pos h, if_pos h]
    · rw [if_neg h, if_neg h, if_neg h]
  · rw [beq_eq_false_iff_ne.2 hk, cond_false, mget_cons, mget_cons, mget_mput m k v j]
    by_cases h : j = k
    · subst h
      rw [if_neg hk, if_pos rfl, if_pos rfl]
    · rw [if_neg h, if_neg h]
end Go.PF
namespace Go.PF
open Go.Pu
structure CI (F : Cnf) (w : Int) (cl : List (List Int)) (s : List Int × Int × List (Int × Int)) : Prop where
 masks : s.1 = cl.map fun c => ((mkN c : Nat) : Int)
 nd : cl.Nodup
 sm : ∀ c ∈ cl, IsS F.vars c
 map : ∀ c, IsS F.vars c → ((mget s.2.2 (mkN c)).isSome = true ↔ c ∈ cl)
 rk : ∀ c ∈ cl, ∃ n : Nat, mget s.2.2 (mkN c) = some (n : Int) ∧ Rk F w n c ∧ n ≤ 5000
theorem CI.add {F : Cnf} {w : Int} {cl : List (List Int)} {s : List Int × Int × List (Int × Int)} (h : CI F w cl s) {c : List Int} (hc : IsS F.vars c) {n : Nat} (hn5 : n ≤ 5000) (hr : c ∉ cl → Rk F w n c) :
 ∃ s' cl', ((bif (!((mget s.2.2 (mkN c)).isSome)) then bd (app s.1 [((mkN c : Nat) : Int)]) (fun xs => some (xs, (n : Int), (mput s.2.2 (mkN c) (n : Int)))) else some (s.1, s.2.1, s.2.2)) : Option (List Int × Int × List (Int × Int))) = some s'
  ∧ CI F w cl' s' ∧ c ∈ cl' ∧ ∃ e, cl' = cl ++ e ∧ ∀ x ∈ e, x = c := by
 by_cases hm : c ∈ cl
 · refine ⟨s, cl, ?_, h, hm, [], by simp, nofun⟩
   rw [(h.map c hc).2 hm]; rfl
 · have hl : s.1.length ≤ 4096 := by rw [h.masks, List.length_map]; exact few h.nd h.sm
   refine ⟨(s.1 ++ [((mkN c : Nat) : Int)], (n : Int), mput s.2.2 (mkN c) (n : Int)), cl ++ [c], ?_, ?_, by simp, [c], rfl, by simp⟩
   · have : (mget s.2.2 (mkN c)).isSome = false := by rw [Bool.eq_false_iff]; exact fun g => hm ((h.map c hc).1 g)
     rw [this, Bool.not_false, cond_true]
     unfold app
     rw [if_pos (by simp [lim]; omega), bd_some]
   · refine ⟨by simp [h.masks], ?_, ?_, ?_, ?_⟩
     · rw [List.nodup_append]
       exact ⟨h.nd, by simp, fun a ha b hb e => by
        have : b = c := by simpa using hb
        exact hm (this ▸ e ▸ ha)⟩
     · intro x hx
       rcases List.mem_append.1 hx with g | g
       · exact h.sm x g
       · have : x = c := by simpa using g
         exact this ▸ hc
     · intro x hx
       show (mget (mput s.2.2 (mkN c) (n : Int)) (mkN x)).isSome = true ↔ _
       rw [mget_mput]
       by_cases e : x = c
       · subst e; simp
       · rw [if_neg (fun g => e (mkN_inj hx hc (by omega))), h.map x hx]
         simp [e]
     · intro x hx
       show ∃ m : Nat, mget (mput s.2.2 (mkN c) (n : Int)) (mkN x) = some (m : Int) ∧ _
       rw [mget_mput]
       by_cases e : x = c
       · subst e; exact ⟨n, by simp, hr hm, hn5⟩
       · have hx2 : x ∈ cl := by
          rcases List.mem_append.1 hx with g | g
          · exact g
          · exact absurd (by simpa using g) e
         rw [if_neg (fun g => e (mkN_inj (h.sm x hx2) hc (by omega)))]
         exact h.rk x hx2
structure Clos (F : Cnf) (w : Int) (cl : List (List Int)) (C : closure) : Prop where
 ci : CI F w cl (C.masks, C.last, C.rounds)
 all : ∀ c, c ∈ cl ↔ ∃ n, Kn F w n c
def From (F : Cnf) (w : Int) (cl : List (List Int)) (i j : Nat) (c : List Int) : Prop := ∃ a b v, cl[i]? = some a ∧ cl[j]? = some b ∧ (Mk F w a b v c ∨ Mk F w b a v c)
structure CR (F : Cnf) (w : Int) (r : Nat) (cl : List (List Int)) (D : Nat → Nat → Prop) (s : List Int × Int × List (Int × Int)) : Prop where
 ex : ∃ e, CI F w (cl ++ e) s ∧ (∀ c ∈ e, Kn F w (r + 1) c) ∧ ∀ i j c, D i j → From F w cl i j c → c ∈ cl ++ e
theorem impl_closureOf_eq {F : Cnf} {w : Int} (hF : Nar F) : ∃ o, impl_closureOf F w = some o ∧ ∃ C cl, o = some C ∧ Clos F w cl C := by
 unfold impl_closureOf
 refine list_m (I := fun i s => ∃ cl, CI F w cl s ∧ ∀ c, c ∈ cl ↔ c ∈ F.clauses.take i ∧ len c ≤ w) ?_ ?_ ?_
 · exact ⟨[], ⟨rfl, List.nodup_nil, nofun, fun c _ => by simp [mget], nofun⟩, by simp⟩
 · rintro i y s hy ⟨cl, h, hm⟩
   have hmem := List.mem_of_getElem? hy
   have hys := hF.ax hmem
   have htk : ∀ c, c ∈ F.clauses.take (i + 1) ↔ c ∈ F.clauses.take i ∨ c = y := by
    intro c; rw [List.take_add_one, hy]; simp
   left
   by_cases hl : len y ≤ w
   · obtain ⟨s', cl', e1, e2, e3, e, e4, e5⟩ := h.add hys (n := 0) (by omega) (fun _ => ⟨.inl ⟨hmem, hl⟩, fun g => g⟩)
     refine ⟨s', ?_, cl', e2, ?_⟩
     · simp only [maskOf_eq hys, bd_some]
       rw [decide_eq_true hl, cond_true]
       rw [show (0 : Int) = ((0 : Nat) : Int) from rfl]
       simp only [e1, bd_some]
     · intro c
       rw [htk]
       constructor
       · intro hc
         rw [e4] at hc
         rcases List.mem_append.1 hc with g | g
         · exact ⟨.inl ((hm c).1 g).1, ((hm c).1 g).2⟩
         · rw [e5 c g]; exact ⟨.inr rfl, hl⟩
       · rintro ⟨g | g, g2⟩
         · rw [e4]; exact List.mem_append_left _ ((hm c).2 ⟨g, g2⟩)
         · rw [g]; exact e3
   · refine ⟨s, by rw [decide_eq_false hl, cond_false], cl, h, ?_⟩
     intro c
     rw [htk, hm]
     constructor
     · rintro ⟨g, g2⟩; exact ⟨.inl g, g2⟩
     · rintro ⟨g | g, g2⟩
       · exact ⟨g, g2⟩
       · rw [g] at g2; exact absurd g2 hl
 · rintro s ⟨cl, h, hm⟩
   rw [List.take_length] at hm
   refine iter_m (I := fun s => ∃ (r f : Nat) (cl : List (List Int)), 1 ≤ r ∧ r ≤ f + 1 ∧ s.2.2.2.2 = (r : Int) ∧ s.2.2.2.1 = (f : Int) ∧ f ≤ cl.length ∧ CI F w cl (s.1, s.2.1, s.2.2.1) ∧ (∀ c, c ∈ cl ↔ Kn F w r c) ∧ ∀ c, c ∈ cl.take f ↔ Kn F w (r - 1) c)
    (m := fun s => 5000 - s.2.2.2.1.toNat) ?_ ?_
   · refine ⟨1, 0, cl, by omega, by omega, rfl, rfl, by omega, h, ?_, ?_⟩
     · intro c
       rw [hm]
       constructor
       · intro g; exact .inl g
       · rintro (g | g | ⟨a, b, v, g, _⟩)
         · exact g
         · exact g.elim
         · exact g.elim
     · intro c
       simp [Kn]
   · rintro ⟨ms, lst, mp, fr, rd⟩ ⟨r, f, cl, h1, h2, h3, h4, h5, hci, hall, hold⟩
     simp only at h3 h4 hci ⊢
     subst h3 h4
     have hfew := few hci.nd hci.sm
     have hlen : len ms = (cl.length : Int) := by have := hci.masks; simp only at this; rw [this]; simp [len]
     by_cases hf : f < cl.length
     · left
       rw [hlen, decide_eq_true (by omega), cond_true]
       have fin : ∀ q : List Int × Int × List (Int × Int), CR F w r cl (fun i j => f ≤ i ∧ i < cl.length ∧ j < i) q → ∃ s' : List Int × Int × List (Int × Int) × Int × Int, (Lp.nx (q.1, q.2.1, q.2.2, ((cl.length : Nat) : Int), wr ((r : Int) + 1)) : Lp _ Empty) = Lp.nx s' ∧ (∃ (r f : Nat) (cl : List (List Int)), 1 ≤ r ∧ r ≤ f + 1 ∧ s'.2.2.2.2 = (r : Int) ∧ s'.2.2.2.1 = (f : Int) ∧ f ≤ cl.length ∧ CI F w cl (s'.1, s'.2.1, s'.2.2.1) ∧ (∀ c, c ∈ cl ↔ Kn F w r c) ∧ ∀ c, c ∈ cl.take f ↔ Kn F w (r - 1) c) ∧ 5000 - s'.2.2.2.1.toNat < 5000 - ((f : Nat) : Int).toNat := by
        rintro q ⟨ex, hex, hex2, hex3⟩
        refine ⟨_, rfl, ⟨r + 1, cl.length, cl ++ ex, by omega, by omega, ?_, rfl, by simp, ?_, ?_, ?_⟩, ?_⟩
        · simp only []
          rw [wr_s (by omega) (by omega)]; omega
        · exact hex
        · intro c
          constructor
          · intro hc
            rcases List.mem_append.1 hc with g | g
            · exact .inr (.inl ((hall c).1 g))
            · exact hex2 c g
          · rintro (g | g | ⟨a, b, v, g1, g2, g3⟩)
            · exact List.mem_append_left _ ((hall c).2 (Kn.up (n := 1) h1 (.inl g)))
            · exact List.mem_append_left _ ((hall c).2 g)
            · have hne := g3.ne hF (hF.kn g1) (hF.kn g2)
              obtain ⟨i, hi⟩ := List.getElem?_of_mem ((hall a).2 g1)
              obtain ⟨j, hj⟩ := List.getElem?_of_mem ((hall b).2 g2)
              have hij : i ≠ j := by rintro rfl; rw [hi] at hj; exact hne (by simpa using hj)
              have hil := lt_of_get hi
              have hjl := lt_of_get hj
              by_cases hold2 : i < f ∧ j < f
              · have ga := (hold a).1 (List.mem_of_getElem? (i := i) (by rw [List.getElem?_take, if_pos hold2.1, hi]))
                have gb := (hold b).1 (List.mem_of_getElem? (i := j) (by rw [List.getElem?_take, if_pos hold2.2, hj]))
                have : Kn F w (r - 1 + 1) c := .inr (.inr ⟨a, b, v, ga, gb, g3⟩)
                rw [show r - 1 + 1 = r by omega] at this
                exact List.mem_append_left _ ((hall c).2 this)
              · by_cases hlt : j < i
                · exact hex3 i j c ⟨by omega, hil, hlt⟩ ⟨a, b, v, hi, hj, .inl g3⟩
                · exact hex3 j i c ⟨by omega, hjl, by omega⟩ ⟨b, a, v, hj, hi, .inr g3⟩
        · intro c
          rw [List.take_append_of_le_length (Nat.le_refl _), List.take_length, hall]
          rfl
        · simp only [Int.toNat_natCast]
          omega
       refine cnt_m (R := fun z => ∃ q, z = Lp.nx (q.1, q.2.1, q.2.2, ((cl.length : Nat) : Int), wr ((r : Int) + 1)) ∧ CR F w r cl (fun i j => f ≤ i ∧ i < cl.length ∧ j < i) q) (σ := List Int × Int × List (Int × Int)) (fun s i => (s.1, s.2.1, s.2.2, i)) (n := cl.length) (a := f) (s0 := (ms, lst, mp)) (I := fun k s => CR F w r cl (fun i j => f ≤ i ∧ i < k ∧ j < i) s) rfl (by omega) ?_ ?_ ?_ ?_ |> fun ⟨z, h1, q, h2, h3⟩ => (fin q h3).elim fun s' g => ⟨s', h1.trans (congrArg some (h2.trans g.1)), g.2⟩
       · exact ⟨[], by simpa using hci, nofun, fun i j c hd => by omega⟩
       · rintro k s hk1 hk2 ⟨e, he, hk, hd⟩
         left
         simp only []
         rw [decide_eq_true (by omega), cond_true]
         have hfewe := few he.nd he.sm
         have hms : s.1.length = (cl ++ e).length := by rw [he.masks]; simp
         have hcut : cut s.1 0 (k : Int) = some ((cl.take k).map fun c => ((mkN c : Nat) : Int)) := by
          unfold cut
          rw [if_pos (by rw [hms, List.length_append]; omega)]
          rw [he.masks, show ((k : Nat) : Int).toNat = k by simp, ← List.map_take, List.take_append_of_le_length (by omega)]
          rfl
         rw [hcut, bd_some]
         obtain ⟨x, hx⟩ : ∃ x, cl[k]? = some x := ⟨cl[k], List.getElem?_eq_getElem hk2⟩
         have hxs := hci.sm x (List.mem_of_getElem? hx)
         have hxk := (hall x).1 (List.mem_of_getElem? hx)
         refine list_m (σ := List Int × Int × List (Int × Int)) (R := fun z => ∃ s', z = Lp.nx (s'.1, s'.2.1, s'.2.2, ((k + 1 : Nat) : Int)) ∧ CR F w r cl (fun i j => f ≤ i ∧ i < k + 1 ∧ j < i) s') (I := fun q s => CR F w r cl (fun i j => (f ≤ i ∧ i < k ∧ j < i) ∨ (i = k ∧ j < q)) s) ?_ ?_ ?_ |> fun ⟨z, h1, s', h2, h3⟩ => ⟨s', h1.trans (congrArg some h2), h3⟩
         · exact ⟨e, he, hk, fun i j c hh hfm => hd i j c (by omega) hfm⟩
         · rintro q y s hy ⟨e, he, hk, hd⟩
           left
           obtain ⟨b, hb, rfl⟩ : ∃ b, cl[q]? = some b ∧ y = ((mkN b : Nat) : Int) := by
            rw [List.getElem?_map, Option.map_eq_some_iff] at hy
            obtain ⟨b, hb, hy⟩ := hy
            rw [List.getElem?_take] at hb
            split at hb
            · exact ⟨b, hb, hy.symm⟩
            · cases hb
           have hbs := hci.sm b (List.mem_of_getElem? hb)
           have hbk := (hall b).1 (List.mem_of_getElem? hb)
           have hix : ix s.1 (k : Int) = some ((mkN x : Nat) : Int) := by
            rw [ix_get, he.masks, List.getElem?_map, List.getElem?_append_left hk2, hx]; rfl
           rw [hix, bd_some]
           change ∃ s', (bif (!hitM (mkN x) (mkN b)) then some (Lp.nx (s.1, s.2.1, s.2.2)) else bd (PF.impl_mask_count (rsvM (mkN x) (mkN b))) (fun r1931 => (bif (decide (r1931 ≤ w)) then bd (β := _) ((bif (!((mget s.2.2 (rsvM (mkN x) (mkN b))).isSome)) then bd (app s.1 [(rsvM (mkN x) (mkN b))]) (fun xs1987 => some (xs1987, (r : Int), (mput s.2.2 (rsvM (mkN x) (mkN b)) (r : Int)))) else some (s.1, s.2.1, s.2.2)) : Option ((List Int) × Int × (List (Int × Int)))) (fun s1967 => some (Lp.nx (s1967.1, s1967.2.1, s1967.2.2))) else some (Lp.nx (s.1, s.2.1, s.2.2))))) = some (Lp.nx s') ∧ _
           have hdone : ∀ {e' : List (List Int)}, (∀ c ∈ cl ++ e, c ∈ cl ++ e') → (∀ c v, Mk F w x b v c ∨ Mk F w b x v c → c ∈ cl ++ e') → ∀ i j c, ((f ≤ i ∧ i < k ∧ j < i) ∨ (i = k ∧ j < q + 1)) → From F w cl i j c → c ∈ cl ++ e' := by
            intro e' h1 h2 i j c hij hfm
            by_cases hh : i = k ∧ j = q
            · obtain ⟨a, b', v, g1, g2, g3⟩ := hfm
              rw [hh.1, hx] at g1
              rw [hh.2, hb] at g2
              cases g1; cases g2
              exact h2 c v g3
            · exact h1 c (hd i j c (by omega) hfm)
           by_cases hh : hitM (mkN x) (mkN b) = true
           · obtain ⟨c, hc1, hc2, hc3⟩ := hit_mk (w := w) hF hxs hbs hh
             rw [hh, hc2, count_mk hc1, bd_some, Bool.not_true, cond_false]
             by_cases hl : len c ≤ w
             · obtain ⟨v, hv⟩ := hc3 hl
               have hck : Kn F w (r + 1) c := by
                rcases hv with hv | hv
                · exact .inr (.inr ⟨x, b, v, hxk, hbk, hv⟩)
                · exact .inr (.inr ⟨b, x, v, hbk, hxk, hv⟩)
               obtain ⟨s', cl', e1, e2, e3, e', e4, e5⟩ := he.add hc1 (n := r) (by omega) (fun hn => ⟨hck, fun g => hn (List.mem_append_left _ ((hall c).2 g))⟩)
               refine ⟨s', ?_, e ++ e', ?_, ?_, ?_⟩
               · rw [decide_eq_true hl, cond_true, e1, bd_some]
               · rw [← List.append_assoc, ← e4]; exact e2
               · intro z hz
                 rcases List.mem_append.1 hz with g | g
                 · exact hk z g
                 · rw [e5 z g]; exact hck
               · refine hdone (fun z hz => ?_) (fun z v' hz => ?_)
                 · rw [← List.append_assoc]; exact List.mem_append_left _ hz
                 · have := (Mk.hit hxs hbs hz).2
                   have hzs : IsS F.vars z := by
                    rcases hz with ⟨g1, g2, g3, g4, _⟩ | ⟨g1, g2, g3, g4, _⟩
                    · exact ⟨g4 ▸ res_isC2 hxs.c hbs.c g3, hF.le⟩
                    · exact ⟨g4 ▸ res_isC2 hbs.c hxs.c g3, hF.le⟩
                   have : z = c := mkN_inj hzs hc1 (by rw [hc2] at this; omega)
                   rw [this, ← List.append_assoc, ← e4]
                   exact e3
             · refine ⟨s, by rw [decide_eq_false hl, cond_false], e, he, hk, hdone (fun z hz => hz) (fun z v' hz => ?_)⟩
               exfalso
               have hzl : len z ≤ w := by rcases hz with ⟨_, _, _, _, g⟩ | ⟨_, _, _, _, g⟩ <;> exact g
               have := (Mk.hit hxs hbs hz).2
               have hzs : IsS F.vars z := by
                rcases hz with ⟨g1, g2, g3, g4, _⟩ | ⟨g1, g2, g3, g4, _⟩
                · exact ⟨g4 ▸ res_isC2 hxs.c hbs.c g3, hF.le⟩
                · exact ⟨g4 ▸ res_isC2 hbs.c hxs.c g3, hF.le⟩
               have : z = c := mkN_inj hzs hc1 (by rw [hc2] at this; omega)
               exact hl (this ▸ hzl)
           · rw [Bool.not_eq_true] at hh
             rw [hh, Bool.not_false, cond_true]
             refine ⟨s, rfl, e, he, hk, hdone (fun z hz => hz) (fun z v' hz => ?_)⟩
             have := (Mk.hit hxs hbs hz).1
             rw [hh] at this; cases this
         · rintro s ⟨e, he, hk, hd⟩
           refine ⟨_, rfl, s, ?_, e, he, hk, fun i j c hij hfm => hd i j c ?_ hfm⟩
           · simp only [Lp.nx.injEq, Prod.mk.injEq, true_and]
             rw [wr_s (by omega) (by omega)]; omega
           · rw [List.length_map, List.length_take]
             omega
       · intro s hs
         simp
       · intro s hs
         exact ⟨_, rfl, s, rfl, hs⟩
     · right; left
       rw [hlen, decide_eq_false (by omega), cond_false]
       refine ⟨_, rfl, _, rfl, _, cl, rfl, hci, fun c => ?_⟩
       have hf' : f = cl.length := by omega
       subst hf'
       rw [List.take_length] at hold
       constructor
       · intro hc; exact ⟨r, (hall c).1 hc⟩
       · rintro ⟨n, hn⟩
         refine (hold c).2 (Kn.stop (fun z hz => ?_) hn)
         rw [show r - 1 + 1 = r by omega] at hz
         exact (hold z).1 ((hall z).2 hz)
end Go.PF
namespace Go.PF
open Go.Pu
def atC (cl : List (List Int)) (k : Int) : List Int := (cl[k.toNat]?).getD []
theorem atC_ix {cl : List (List Int)} {k : Int} (h0 : 0 ≤ k) (h1 : k < cl.length) : ix cl k = some (atC cl k) ∧ cl[k.toNat]? = some (atC cl k) := by
 obtain ⟨x, e1, e2⟩ := ix_of (xs := cl) h0 h1
 unfold atC
 rw [e1, e2]; exact ⟨rfl, rfl⟩
theorem atC_app {cl e : List (List Int)} {k : Int} (h0 : 0 ≤ k) (h1 : k < cl.length) : atC (cl ++ e) k = atC cl k := by
 unfold atC
 rw [List.getElem?_append_left (by omega)]
structure Ord (cl : List (List Int)) (m : Nat) (o : List Int) : Prop where
 srt : SrtC (o.map (atC cl))
 mem : ∀ c, c ∈ o.map (atC cl) ↔ c ∈ cl.take m
 inr : ∀ k ∈ o, 0 ≤ k ∧ k < m
 len : o.length = m
theorem spec_l10Order_eq {W : l10Work} {V : Int} (hn : W.list.Nodup) (hc : ∀ c ∈ W.list, IsS V c) : ∃ o, spec_l10Order W = some o ∧ Ord W.list W.list.length o := by
 unfold spec_l10Order
 have hfew := few hn hc
 refine cnt_m (σ := List Int) (fun s i => (s, i)) (n := W.list.length) (a := 0) (I := fun i s => Ord W.list i s) rfl (by omega) ⟨by simp, by simp, nofun, rfl⟩ ?_ ?_ ?_
 · intro i s _ hi ho
   left
   simp only []
   rw [len_eq, decide_eq_true (by omega), cond_true]
   obtain ⟨c, hx⟩ : ∃ c, W.list[i]? = some c := ⟨W.list[i], List.getElem?_eq_getElem hi⟩
   have hcs := hc c (List.mem_of_getElem? hx)
   have hsl := ho.len
   have hP : plc (s.map (atC W.list)) c ≤ s.length := by have := plc_le (s.map (atC W.list)) c; simpa using this
   rw [len_eq, bsearch (n := s.length) (P := plc (s.map (atC W.list)) c) hP (fun a b hab hb => ?_) (fun a ha => ?_)]
   · rw [bdR_go]
     simp only []
     have hcut : cut s 0 ((plc (s.map (atC W.list)) c : Nat) : Int) = some (s.take (plc (s.map (atC W.list)) c)) := by
      unfold cut
      rw [if_pos (by omega)]; simp
     have hcut2 : cut s ((plc (s.map (atC W.list)) c : Nat) : Int) (s.length : Int) = some (s.drop (plc (s.map (atC W.list)) c)) := by
      unfold cut
      rw [if_pos (by omega)]; simp
     rw [hcut, bd_some, spec_l1Own_eq (by simp [lim]; omega), bd_some]
     have happ : app (s.take (plc (s.map (atC W.list)) c)) [(i : Int)] = some (s.take (plc (s.map (atC W.list)) c) ++ [(i : Int)]) := by
      unfold app; rw [if_pos (by simp [lim]; omega)]
     rw [happ, bd_some, hcut2, bd_some]
     have happ2 : app (s.take (plc (s.map (atC W.list)) c) ++ [(i : Int)]) (s.drop (plc (s.map (atC W.list)) c)) = some (s.take (plc (s.map (atC W.list)) c) ++ [(i : Int)] ++ s.drop (plc (s.map (atC W.list)) c)) := by
      unfold app; rw [if_pos (by simp [lim]; omega)]
     rw [happ2, bd_some]
     refine ⟨_, by rw [wr_s (by omega) (by omega)]; rfl, ?_⟩
     have hat : atC W.list (i : Int) = c := by unfold atC; rw [show ((i : Nat) : Int).toNat = i by simp, hx]; rfl
     have hmap : (s.take (plc (s.map (atC W.list)) c) ++ [(i : Int)] ++ s.drop (plc (s.map (atC W.list)) c)).map (atC W.list) = insC (s.map (atC W.list)) c := by
      unfold insC
      rw [List.map_append, List.map_append, List.map_take, List.map_drop, List.map_cons, List.map_nil, hat]
      simp
     have hnew : c ∉ s.map (atC W.list) := by
      rw [ho.mem]
      intro g
      obtain ⟨j, hj⟩ := List.getElem?_of_mem g
      rw [List.getElem?_take] at hj
      split at hj
      · rename_i hlt
        have hij : i = j := by
         have e1 : W.list[i]? = W.list[j]? := by rw [hx, hj]
         exact (List.getElem?_inj hi hn).1 e1
        omega
      · cases hj
     refine ⟨?_, ?_, ?_, ?_⟩
     · rw [hmap]; exact insC_srt ho.srt hnew
     · intro x
       rw [hmap, insC_mem, ho.mem, List.take_add_one, hx]
       simp [or_comm]
     · intro k hk
       have : k = (i : Int) ∨ k ∈ s := by
        rw [List.mem_append, List.mem_append] at hk
        rcases hk with (hk | hk) | hk
        · exact .inr (List.mem_of_mem_take hk)
        · exact .inl (by simpa using hk)
        · exact .inr (List.mem_of_mem_drop hk)
       rcases this with h | h
       · omega
       · have := ho.inr k h; omega
     · simp; omega
   · have w1 : wr ((a : Int) + b) = ((a + b : Nat) : Int) := by rw [wr_of _ (by omega) (by omega)]; omega
     have w2 : wr (((a + b : Nat) : Int).tdiv 2) = (((a + b) / 2 : Nat) : Int) := by
      rw [Int.tdiv_eq_ediv_of_nonneg (by omega)]
      rw [wr_of _ (by omega) (by omega)]; omega
     have w3 : wr ((((a + b) / 2 : Nat) : Int) + 1) = (((a + b) / 2 + 1 : Nat) : Int) := by rw [wr_of _ (by omega) (by omega)]; omega
     obtain ⟨k, hk⟩ : ∃ k, s[(a + b) / 2]? = some k := ⟨_, List.getElem?_eq_getElem (by omega)⟩
     have hkr := ho.inr k (List.mem_of_getElem? hk)
     have hkm : (s.map (atC W.list))[(a + b) / 2]? = some (atC W.list k) := by rw [List.getElem?_map, hk]; rfl
     have hp := plc_lt ho.srt (c := c) hkm
     obtain ⟨i1, i2⟩ := atC_ix (cl := W.list) hkr.1 (by omega)
     simp only [show decide ((a : Int) < (b : Int)) = true by rw [decide_eq_true_eq]; omega, cond_true, w1, w2, w3, ix_get, hk, i1, hx, bd_some]
     rw [spec_l2Before_eq (hc _ (List.mem_of_getElem? i2)).c.small hcs.c.small, bd_some]
     by_cases hlt : (a + b) / 2 < plc (s.map (atC W.list)) c
     · rw [if_pos hlt, show decide (cmpC (atC W.list k) c < 0) = true by rw [decide_eq_true_eq]; exact hp.2 hlt]; rfl
     · rw [if_neg hlt, show decide (cmpC (atC W.list k) c < 0) = false by rw [decide_eq_false_iff_not]; exact fun h => hlt (hp.1 h)]; rfl
   · simp only [show decide ((a : Int) < (a : Int)) = false by rw [decide_eq_false_iff_not]; omega, cond_false]
 · intro s hs
   simp [len_eq]
 · intro s hs
   exact ⟨s, rfl, hs⟩
abbrev Tri := List Int × List Int × Int
def vsN (V : Int) : List Int := (List.range' 1 V.toNat).map fun (k : Nat) => (k : Int)
def tris (V : Int) (kn : List (List Int)) : List Tri := kn.flatMap fun a => kn.flatMap fun b => (vsN V).map fun v => (a, b, v)
def prodB (w : Int) (c : List Int) (t : Tri) : Bool := (res t.1 t.2.1 t.2.2).2 && ((res t.1 t.2.1 t.2.2).1 == c) && decide (len c ≤ w)
def Src (F : Cnf) (w : Int) (n : Nat) (c : List Int) (t : Tri) : Prop := ∃ kn, SrtC kn ∧ (∀ x, x ∈ kn ↔ Kn F w n x) ∧ (tris F.vars kn).find? (prodB w c) = some t
theorem Src.uniq {F : Cnf} {w : Int} {n : Nat} {c : List Int} {t t' : Tri} (h : Src F w n c t) (h' : Src F w n c t') : t = t' := by
 obtain ⟨k, h1, h2, h3⟩ := h
 obtain ⟨k', h4, h5, h6⟩ := h'
 have : k = k' := srt_ext h1 h4 fun x => (h2 x).trans (h5 x).symm
 subst this
 rw [h3] at h6
 exact Option.some.inj h6
theorem vsN_mem {V v : Int} : v ∈ vsN V ↔ 1 ≤ v ∧ v ≤ V := by
 unfold vsN
 rw [List.mem_map]
 constructor
 · rintro ⟨k, hk, rfl⟩
   rw [List.mem_range'_1] at hk
   omega
 · rintro ⟨h1, h2⟩
   exact ⟨v.toNat, by rw [List.mem_range'_1]; omega, by omega⟩
theorem tris_mem {V : Int} {kn : List (List Int)} {t : Tri} : t ∈ tris V kn ↔ t.1 ∈ kn ∧ t.2.1 ∈ kn ∧ 1 ≤ t.2.2 ∧ t.2.2 ≤ V := by
 unfold tris
 simp only [List.mem_flatMap, List.mem_map, vsN_mem]
 constructor
 · rintro ⟨a, ha, b, hb, v, hv, rfl⟩
   exact ⟨ha, hb, hv⟩
 · rintro ⟨ha, hb, hv⟩
   exact ⟨t.1, ha, t.2.1, hb, t.2.2, hv, rfl⟩
theorem prodB_iff {w : Int} {c : List Int} {t : Tri} : prodB w c t = true ↔ (res t.1 t.2.1 t.2.2).2 = true ∧ (res t.1 t.2.1 t.2.2).1 = c ∧ len c ≤ w := by
 unfold prodB
 rw [Bool.and_eq_true, Bool.and_eq_true, beq_iff_eq, decide_eq_true_iff]
 exact and_assoc
theorem Src.mk {F : Cnf} {w : Int} {n : Nat} {c : List Int} {t : Tri} (h : Src F w n c t) : Kn F w n t.1 ∧ Kn F w n t.2.1 ∧ Mk F w t.1 t.2.1 t.2.2 c := by
 obtain ⟨k, h1, h2, h3⟩ := h
 have hm := tris_mem.1 (List.mem_of_find?_eq_some h3)
 have hp := prodB_iff.1 (List.find?_some h3)
 exact ⟨(h2 _).1 hm.1, (h2 _).1 hm.2.1, hm.2.2.1, hm.2.2.2, hp.1, hp.2.1, hp.2.2⟩
structure Ent where
 a : Int
 b : Int
 v : Int
 c : List Int
structure New (F : Cnf) (w : Int) (old cl : List (List Int)) (D : List Tri) (E : List Ent) : Prop where
 srt : SrtC (E.map (·.c))
 one : ∀ e ∈ E, D.find? (prodB w e.c) = some (atC cl e.a, atC cl e.b, e.v) ∧ e.c ∉ old ∧ 0 ≤ e.a ∧ e.a < cl.length ∧ 0 ≤ e.b ∧ e.b < cl.length ∧ IsS F.vars e.c
 all : ∀ t ∈ D, ∀ c, prodB w c t = true → c ∈ old ∨ c ∈ E.map (·.c)
theorem New.few {F : Cnf} {w : Int} {old cl : List (List Int)} {D : List Tri} {E : List Ent} (h : New F w old cl D E) : E.length ≤ 4096 := by
 have := PF.few (V := F.vars) (cl := E.map (·.c)) (by
  rw [List.nodup_iff_pairwise_ne]
  refine h.srt.imp ?_
  intro a b hab e
  exact cmpC_irrefl a (e ▸ hab)) (by
  intro c hc
  obtain ⟨e, he, rfl⟩ := List.mem_map.1 hc
  exact (h.one e he).2.2.2.2.2.2)
 simpa using this
theorem New.cfg {F : Cnf} {w : Int} {old cl : List (List Int)} {D : List Tri} {E : List Ent} (h : New F w old cl D E) : Cfg F.vars 4096 (E.map (·.c)) :=
 ⟨h.srt, by have := h.few; simpa using this, by
  intro c hc
  obtain ⟨e, he, rfl⟩ := List.mem_map.1 hc
  exact (h.one e he).2.2.2.2.2.2.c⟩
theorem New.skip {F : Cnf} {w : Int} {old cl : List (List Int)} {D D' : List Tri} {E : List Ent} (h : New F w old cl D E) (hD : ∀ t ∈ D', ∀ c, prodB w c t = true → c ∈ old ∨ c ∈ E.map (·.c)) : New F w old cl (D ++ D') E :=
 ⟨h.srt, fun e he => by
  obtain ⟨h1, h2⟩ := h.one e he
  refine ⟨?_, h2⟩
  rw [List.find?_append, h1]; rfl, fun t ht c hc => by
  rcases List.mem_append.1 ht with g | g
  · exact h.all t g c hc
  · exact hD t g c hc⟩
def putE (E : List Ent) (e : Ent) : List Ent := E.take (plc (E.map (·.c)) e.c) ++ e :: E.drop (plc (E.map (·.c)) e.c)
theorem putE_map {α : Type} (E : List Ent) (e : Ent) (f : Ent → α) : (putE E e).map f = (E.map f).take (plc (E.map (·.c)) e.c) ++ f e :: (E.map f).drop (plc (E.map (·.c)) e.c) := by
 unfold putE
 rw [List.map_append, List.map_cons, List.map_take, List.map_drop]
theorem putE_c (E : List Ent) (e : Ent) : (putE E e).map (·.c) = insC (E.map (·.c)) e.c := by rw [putE_map]; rfl
theorem New.put {F : Cnf} {w : Int} {old cl : List (List Int)} {D : List Tri} {E : List Ent} (h : New F w old cl D E) {e : Ent} (h1 : prodB w e.c (atC cl e.a, atC cl e.b, e.v) = true) (h2 : e.c ∉ old) (h3 : e.c ∉ E.map (·.c))
 (h4 : 0 ≤ e.a ∧ e.a < cl.length ∧ 0 ≤ e.b ∧ e.b < cl.length ∧ IsS F.vars e.c) : New F w old cl (D ++ [(atC cl e.a, atC cl e.b, e.v)]) (putE E e) := by
 have hm : ∀ x, x ∈ putE E e ↔ x = e ∨ x ∈ E := by
  intro x
  unfold putE
  rw [List.mem_append, List.mem_cons]
  constructor
  · rintro (g | g | g)
    · exact .inr (List.mem_of_mem_take g)
    · exact .inl g
    · exact .inr (List.mem_of_mem_drop g)
  · rintro (g | g)
    · exact .inr (.inl g)
    · rw [← List.take_append_drop (plc (E.map (·.c)) e.c) E, List.mem_append] at g
      rcases g with g | g
      · exact .inl g
      · exact .inr (.inr g)
 refine ⟨?_, ?_, ?_⟩
 · rw [putE_c]; exact insC_srt h.srt h3
 · intro x hx
   rcases (hm x).1 hx with rfl | g
   · refine ⟨?_, h2, h4⟩
     rw [List.find?_append]
     have : D.find? (prodB w x.c) = none := by
      rw [List.find?_eq_none]
      intro t ht hp
      rcases h.all t ht _ hp with g | g
      · exact h2 g
      · exact h3 g
     rw [this, Option.none_or, List.find?_singleton, if_pos h1]
   · obtain ⟨g1, g2⟩ := h.one x g
     exact ⟨by rw [List.find?_append, g1]; rfl, g2⟩
 · intro t ht c hc
   rw [putE_c, insC_mem]
   rcases List.mem_append.1 ht with g | g
   · rcases h.all t g c hc with g2 | g2
     · exact .inl g2
     · exact .inr (.inr g2)
   · have e1 : t = (atC cl e.a, atC cl e.b, e.v) := by simpa using g
     subst e1
     refine .inr (.inl ?_)
     rw [← (prodB_iff.1 hc).2.1, (prodB_iff.1 h1).2.1]
end Go.PF
