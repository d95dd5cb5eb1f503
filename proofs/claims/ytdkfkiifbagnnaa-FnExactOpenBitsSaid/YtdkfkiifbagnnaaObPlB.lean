/- A formula's parts, the rules for it and their premises. The search for a proof: the program's and the reference's go the same way. The search for a proof: both end alike. Sizes, copies and comparisons of texts and sequents; a search from the start. OpenBits: the law. -/
import Derived.Test.YtdkfkiifbagnnaaObPlA
set_option linter.unusedVariables false
namespace Go.PF
open Go.Pu
def Ft.opI : Ft → Int
  | .leaf c => c.toNat
  | .neg _ => 126
  | .bin op _ _ => op.toNat
def Ft.tA : Ft → ByteArray
  | .leaf _ => tx []
  | .neg a => tx a.txt
  | .bin _ a _ => tx a.txt
def Ft.tB : Ft → ByteArray
  | .leaf _ => tx []
  | .neg _ => tx []
  | .bin _ _ b => tx b.txt
theorem ft_of {s : ByteArray} {t : Ft} (h : F? (bs s) = some t) : s = tx t.txt ∧ t.wf = true := by
  have := F?_some.1 h
  exact ⟨by rw [← this.1, tx_bs], this.2⟩
theorem F?_tx {t : Ft} (h : t.wf = true) : F? (bs (tx t.txt)) = some t := by rw [bs_tx]; exact F?_some.2 ⟨rfl, h⟩
theorem spec_l22Parts_eq {s : ByteArray} {t : Ft} (h : F? (bs s) = some t) (hs : s.size ≤ 1000) : spec_l22Parts s = some (t.opI, t.tA, t.tB) := by
  obtain ⟨e, hw⟩ := ft_of h
  unfold spec_l22Parts
  have hb : bs s = t.txt := by rw [e, bs_tx]
  have hz := bs_len s
  rw [hb] at hz
  cases t with
  | leaf c =>
    have hi : ixS s 0 = some (c.toNat : Int) := ixS_at (k := 0) (by rw [hb]; rfl)
    have hl := isLf_not (show isLf c = true from hw)
    simp only [hi, bd_some, c126, c40]
    rw [beq_eq_false_iff_ne.2 hl.1, cond_false, beq_eq_false_iff_ne.2 hl.2]; rfl
  | neg a =>
    have hi : ixS s 0 = some (((126 : UInt8).toNat : Nat) : Int) := ixS_at (k := 0) (by rw [hb]; rfl)
    simp only [hi, bd_some, c126, c40, beq_self_eq_true, cond_true]
    simp only [Ft.txt, List.length_cons] at hz
    have := cutS_ok (s := s) (a := 1) (b := s.size) (by omega) (by omega)
    rw [show ((1 : Nat) : Int) = 1 from rfl] at this
    rw [this, bd_some, hb, ← hz]
    simp [Ft.opI, Ft.tA, Ft.tB, Ft.txt, tx]
  | bin op a b =>
    have hi : ixS s 0 = some (((40 : UInt8).toNat : Nat) : Int) := ixS_at (k := 0) (by rw [hb]; rfl)
    simp only [Ft.wf, Bool.and_eq_true] at hw
    simp only [Ft.txt, List.length_cons, List.length_append, List.length_nil] at hz
    simp only [hi, bd_some, c126, c40, beq_self_eq_true, Bool.not_true, cond_false]
    rw [show ((40 : UInt8) == 126) = false from rfl, cond_false]
    have he : endV s 1 = ((1 + a.txt.length : Nat) : Int) := by
      unfold endV
      rw [hb]
      have : P (List.drop 1 (Ft.bin op a b).txt) = some (a, op :: (b.txt ++ [41])) := P_some.2 ⟨by simp [Ft.txt], hw.1.2⟩
      rw [this]
    have h1 := spec_l22End_eq hs 1
    rw [show ((1 : Nat) : Int) = 1 from rfl] at h1
    rw [h1, bd_some, he]
    have ho : ixS s ((1 + a.txt.length : Nat) : Int) = some (op.toNat : Int) := ixS_at (by
      rw [hb]; simp only [Ft.txt]
      rw [show 1 + a.txt.length = a.txt.length + 1 by omega, List.getElem?_cons_succ, List.getElem?_append_right (by omega)]; simp)
    have c1 := cutS_ok (s := s) (a := 1) (b := 1 + a.txt.length) (by omega) (by omega)
    rw [show ((1 : Nat) : Int) = 1 from rfl] at c1
    have c2 := cutS_ok (s := s) (a := 1 + a.txt.length + 1) (b := s.size - 1) (by omega) (by omega)
    rw [ho, bd_some, c1, bd_some, wr_k (by omega), show wr ((s.size : Int) - 1) = ((s.size - 1 : Nat) : Int) by rw [wr_of _ (by omega) (by omega)]; omega, c2, bd_some, hb]
    have e1 : ((Ft.bin op a b).txt.take (1 + a.txt.length)).drop 1 = a.txt := by
      simp only [Ft.txt]
      rw [show 1 + a.txt.length = a.txt.length + 1 by omega, List.take_succ_cons]
      simp
    have e2 : ((Ft.bin op a b).txt.take (s.size - 1)).drop (1 + a.txt.length + 1) = b.txt := by
      simp only [Ft.txt]
      rw [show s.size - 1 = (a.txt.length + (1 + b.txt.length)) + 1 by omega, List.take_succ_cons, show 1 + a.txt.length + 1 = (a.txt.length + 1) + 1 by omega, List.drop_succ_cons, List.take_length_add_append,
        show a.txt.length + 1 = a.txt.length + 1 from rfl, List.drop_length_add_append]
      rw [show 1 + b.txt.length = b.txt.length + 1 by omega, List.take_succ_cons]
      simp
    rw [e1, e2]; rfl
/-- the node of a formula -/
theorem Ft.get_eq (t : Ft) : ∃ n, t.fo.get = some n ∧ n.op = t.opI ∧ n.text = tx t.txt := by
  cases t with
  | leaf c => exact ⟨_, rfl, rfl, rfl⟩
  | neg a => exact ⟨_, rfl, rfl, rfl⟩
  | bin op a b => exact ⟨_, rfl, rfl, rfl⟩
/-- the rule for a formula on a side -/
def ruleV (t : Ft) (l : Bool) : Int := match t with
  | .leaf _ => 0
  | .neg _ => bif l then 2 else 3
  | .bin op _ _ => if op = 38 then (bif l then 4 else 5) else if op = 124 then (bif l then 6 else 7) else (bif l then 8 else 9)
theorem leaf_ne {c : UInt8} (h : isLf c = true) : c ≠ 126 ∧ c ≠ 38 ∧ c ≠ 124 ∧ c ≠ 62 := by
  refine ⟨?_, ?_, ?_, ?_⟩ <;> (rintro rfl; revert h; decide)
theorem op_ne {c : UInt8} (h : isOp c = true) : c ≠ 126 ∧ (c = 38 ∨ c = 124 ∨ c = 62) := by
  refine ⟨by rintro rfl; revert h; decide, ?_⟩
  unfold isOp at h
  simp only [Bool.or_eq_true, beq_iff_eq] at h
  rcases h with (h | h) | h
  · exact .inl h
  · exact .inr (.inl h)
  · exact .inr (.inr h)
theorem spec_l23Rule_eq {s : ByteArray} {t : Ft} (h : F? (bs s) = some t) (hs : s.size ≤ 1000) (l : Bool) : spec_l23Rule s l = some (ruleV t l) := by
  obtain ⟨_, hw⟩ := ft_of h
  unfold spec_l23Rule
  rw [spec_l22Parts_eq h hs, bd_some]
  cases t with
  | leaf c =>
    obtain ⟨h1, h2, h3, h4⟩ := leaf_ne (show isLf c = true from hw)
    simp only [Ft.opI, c126, c38, c124, c62]
    rw [beq_eq_false_iff_ne.2 h1, beq_eq_false_iff_ne.2 h2, beq_eq_false_iff_ne.2 h3, beq_eq_false_iff_ne.2 h4]; rfl
  | neg a => cases l <;> rfl
  | bin op a b =>
    simp only [Ft.wf, Bool.and_eq_true] at hw
    obtain ⟨h1, h2⟩ := op_ne hw.1.1
    rcases h2 with rfl | rfl | rfl <;> cases l <;> rfl
theorem impl_ruleFor_eq {t : Ft} (hw : t.wf = true) (l : Bool) : impl_ruleFor t.opI l = ruleV t l := by
  have hm : (mput (mput (mput (mput ([] : List (Int × Int)) 126 2) 38 4) 124 6) 62 8) = [(126, 2), (38, 4), (124, 6), (62, 8)] := by decide
  unfold impl_ruleFor
  rw [hm]
  cases t with
  | leaf c =>
    obtain ⟨h1, h2, h3, h4⟩ := leaf_ne (show isLf c = true from hw)
    simp only [Ft.opI, mget, c126, c38, c124, c62]
    rw [beq_eq_false_iff_ne.2 h1, beq_eq_false_iff_ne.2 h2, beq_eq_false_iff_ne.2 h3, beq_eq_false_iff_ne.2 h4]; rfl
  | neg a => cases l <;> rfl
  | bin op a b =>
    simp only [Ft.wf, Bool.and_eq_true] at hw
    obtain ⟨h1, h2⟩ := op_ne hw.1.1
    rcases h2 with rfl | rfl | rfl <;> cases l <;> rfl
/-- a side with formulas -/
def wS (l m : List ByteArray) : List ByteArray := setO ltF (l ++ m)
theorem spec_with {l : List ByteArray} {s : ByteArray} (hs : SS ltF l) (hl : l.length ≤ 1000000) : spec_l23With l s = some (wS l [s]) := spec_l23With_eq hs hl
theorem impl_wS {l m : List ByteArray} (hl : l.length + m.length ≤ 1000000) : impl_with l m = some (wS l m) := impl_with_eq hl
theorem SS_wS (l m : List ByteArray) : SS ltF (wS l m) := SS_setO STO_F
/-- the premises of a rule -/
def premV (s : Sequent) (r : Int) (t : Ft) : List Sequent :=
  let l := lackS s.left (tx t.txt); let q := lackS s.right (tx t.txt)
  if r = 2 then [⟨l, wS s.right [t.tA]⟩]
  else if r = 3 then [⟨wS s.left [t.tA], q⟩]
  else if r = 4 then [⟨wS l [t.tA, t.tB], s.right⟩]
  else if r = 5 then [⟨s.left, wS q [t.tA]⟩, ⟨s.left, wS q [t.tB]⟩]
  else if r = 6 then [⟨wS l [t.tA], s.right⟩, ⟨wS l [t.tB], s.right⟩]
  else if r = 7 then [⟨s.left, wS q [t.tA, t.tB]⟩]
  else if r = 8 then [⟨l, wS s.right [t.tA]⟩, ⟨wS l [t.tB], s.right⟩]
  else [⟨wS s.left [t.tA], wS q [t.tB]⟩]
theorem SS_lack {l : List ByteArray} (h : SS ltF l) (s : ByteArray) : SS ltF (lackS l s) := SS.filter h _
theorem lack_len (l : List ByteArray) (s : ByteArray) : (lackS l s).length ≤ l.length := List.length_filter_le _ _
theorem insO_len {x : ByteArray} : ∀ {l : List ByteArray}, (insO ltF x l).length ≤ l.length + 1
  | [] => by simp [insO]
  | y :: l => by
    have := insO_len (x := x) (l := l)
    unfold insO
    split
    · simp only [List.length_cons]; omega
    · split
      · simp only [List.length_cons]; omega
      · simp only [List.length_cons]; omega
theorem setO_len : ∀ {l : List ByteArray}, (setO ltF l).length ≤ l.length
  | [] => by simp [setO]
  | x :: l => by
    have h1 := setO_len (l := l)
    have h2 := insO_len (x := x) (l := setO ltF l)
    unfold setO at *
    rw [List.foldr_cons, List.length_cons]; omega
theorem wS_two (l : List ByteArray) (a b : ByteArray) : wS (wS l [a]) [b] = wS l [a, b] := setO_ext STO_F fun x => by
  simp only [wS]
  simp only [List.mem_append, mem_setO STO_F, List.mem_cons, List.not_mem_nil, or_false]
  constructor
  · rintro ((h | h) | h)
    · exact .inl h
    · exact .inr (.inl h)
    · exact .inr (.inr h)
  · rintro (h | h | h)
    · exact .inl (.inl h)
    · exact .inl (.inr h)
    · exact .inr h
theorem app_put {l : List ByteArray} {s : ByteArray} (hs : SS ltF l) (hl : l.length ≤ 100000) : (bd (app [] l) (fun xs => bd (spec_l22Put xs s) (fun r => some r)) : Option (List ByteArray)) = some (wS l [s]) := spec_with hs (by omega)
theorem spec_l23Premises_eq {s : Sequent} {m : ByteArray} {t : Ft} (h : F? (bs m) = some t) (hs : m.size ≤ 1000) (h1 : SS ltF s.left) (h2 : SS ltF s.right) (l1 : s.left.length ≤ 1000) (l2 : s.right.length ≤ 1000)
    {r : Int} (hr : 2 ≤ r) (hr' : r ≤ 9) : spec_l23Premises s r m = some (premV s r t) := by
  obtain ⟨e, hw⟩ := ft_of h
  have g1 := SS_lack h1 m
  have g2 := SS_lack h2 m
  have k1 := lack_len s.left m
  have k2 := lack_len s.right m
  have w1 : ∀ (l : List ByteArray) a, (wS l [a]).length ≤ l.length + 1 := fun l a => by
    have := setO_len (l := l ++ [a]); unfold wS; simpa using this
  unfold spec_l23Premises premV
  rw [spec_l22Parts_eq h hs, bd_some, spec_l23Without_eq (by omega), bd_some, spec_l23Without_eq (by omega), bd_some, ← e]
  dsimp only
  have hc : r = 2 ∨ r = 3 ∨ r = 4 ∨ r = 5 ∨ r = 6 ∨ r = 7 ∨ r = 8 ∨ r = 9 := by omega
  rcases hc with rfl | rfl | rfl | rfl | rfl | rfl | rfl | rfl
  · rw [show ((2 : Int) == 2) = true from rfl, cond_true, spec_with h2 (by omega)]; rfl
  · rw [show ((3 : Int) == 2) = false from rfl, show ((3 : Int) == 3) = true from rfl, cond_false, cond_true, spec_with h1 (by omega)]; rfl
  · rw [show ((4 : Int) == 2) = false from rfl, show ((4 : Int) == 3) = false from rfl, show ((4 : Int) == 4) = true from rfl, cond_false, cond_false, cond_true, app_put g1 (by omega), bd_some,
      spec_with (SS_wS _ _) (by have := w1 (lackS s.left m) t.tA; omega), bd_some, wS_two]; rfl
  · rw [show ((5 : Int) == 2) = false from rfl, show ((5 : Int) == 3) = false from rfl, show ((5 : Int) == 4) = false from rfl, show ((5 : Int) == 5) = true from rfl, cond_false, cond_false, cond_false, cond_true, app_put g2 (by omega), bd_some, app_put g2 (by omega), bd_some]; rfl
  · rw [show ((6 : Int) == 2) = false from rfl, show ((6 : Int) == 3) = false from rfl, show ((6 : Int) == 4) = false from rfl, show ((6 : Int) == 5) = false from rfl, show ((6 : Int) == 6) = true from rfl, cond_false, cond_false, cond_false, cond_false, cond_true, app_put g1 (by omega), bd_some, app_put g1 (by omega), bd_some]; rfl
  · rw [show ((7 : Int) == 2) = false from rfl, show ((7 : Int) == 3) = false from rfl, show ((7 : Int) == 4) = false from rfl, show ((7 : Int) == 5) = false from rfl, show ((7 : Int) == 6) = false from rfl, show ((7 : Int) == 7) = true from rfl, cond_false, cond_false, cond_false, cond_false, cond_false, cond_true, app_put g2 (by omega), bd_some,
      spec_with (SS_wS _ _) (by have := w1 (lackS s.right m) t.tA; omega), bd_some, wS_two]; rfl
  · rw [show ((8 : Int) == 2) = false from rfl, show ((8 : Int) == 3) = false from rfl, show ((8 : Int) == 4) = false from rfl, show ((8 : Int) == 5) = false from rfl, show ((8 : Int) == 6) = false from rfl, show ((8 : Int) == 7) = false from rfl, show ((8 : Int) == 8) = true from rfl, cond_false, cond_false, cond_false, cond_false, cond_false, cond_false, cond_true,
      spec_with h2 (by omega), bd_some, spec_with g1 (by omega), bd_some]; rfl
  · rw [show ((9 : Int) == 2) = false from rfl, show ((9 : Int) == 3) = false from rfl, show ((9 : Int) == 4) = false from rfl, show ((9 : Int) == 5) = false from rfl, show ((9 : Int) == 6) = false from rfl, show ((9 : Int) == 7) = false from rfl, show ((9 : Int) == 8) = false from rfl, show ((9 : Int) == 9) = true from rfl, cond_false, cond_false, cond_false, cond_false, cond_false, cond_false, cond_false, cond_true,
      spec_with h1 (by omega), bd_some, app_put g2 (by omega), bd_some]; rfl
/-- the rule fits the formula's form -/
def fitB (t : Ft) (r : Int) : Bool := r == ruleV t true && !(r == 0) || r == ruleV t false && !(r == 0)
theorem impl_premisesOf_eq {s : Sequent} {t : Ft} (l1 : s.left.length ≤ 1000) (l2 : s.right.length ≤ 1000) {r : Int} (hr : ∃ l, r = ruleV t l) (hr0 : r ≠ 0) (hw : t.wf = true) : impl_premisesOf s r t.fo = some (premV s r t) := by
  have k1 := lack_len s.left (tx t.txt)
  have k2 := lack_len s.right (tx t.txt)
  obtain ⟨l, hl⟩ := hr
  unfold impl_premisesOf premV
  cases t with
  | leaf c => exact absurd hl hr0
  | neg a =>
    have hg : (Ft.neg a).fo.get = some ⟨126, a.fo, Fo.nil, tx (Ft.neg a).txt⟩ := rfl
    obtain ⟨n, hn1, _, hn2⟩ := Ft.get_eq a
    rw [hg, bd_some, impl_lacking_eq (by omega), bd_some, impl_lacking_eq (by omega), bd_some, bd_some]
    dsimp only
    cases l with
    | true =>
      obtain rfl : r = 2 := hl
      rw [show ((2 : Int) == 2) = true from rfl, cond_true, hn1, bd_some, hn2, impl_wS (by simp; omega)]; rfl
    | false =>
      obtain rfl : r = 3 := hl
      rw [show ((3 : Int) == 2) = false from rfl, show ((3 : Int) == 3) = true from rfl, cond_false, cond_true, hn1, bd_some, hn2, impl_wS (by simp; omega)]; rfl
  | bin op a b =>
    have hg : (Ft.bin op a b).fo.get = some ⟨op.toNat, a.fo, b.fo, tx (Ft.bin op a b).txt⟩ := rfl
    obtain ⟨n, hn1, _, hn2⟩ := Ft.get_eq a
    obtain ⟨n', hn1', _, hn2'⟩ := Ft.get_eq b
    simp only [Ft.wf, Bool.and_eq_true] at hw
    obtain ⟨_, h2⟩ := op_ne hw.1.1
    rw [hg, bd_some, impl_lacking_eq (by omega), bd_some, impl_lacking_eq (by omega), bd_some, bd_some]
    dsimp only
    rcases h2 with rfl | rfl | rfl <;> cases l
    · obtain rfl : r = 5 := hl
      rw [show ((5 : Int) == 2) = false from rfl, show ((5 : Int) == 3) = false from rfl, show ((5 : Int) == 4) = false from rfl, show ((5 : Int) == 5) = true from rfl, cond_false, cond_false, cond_false, cond_true,
        hn1, bd_some, hn2, impl_wS (by simp; omega), bd_some, hn1', bd_some, hn2', impl_wS (by simp; omega)]; rfl
    · obtain rfl : r = 4 := hl
      rw [show ((4 : Int) == 2) = false from rfl, show ((4 : Int) == 3) = false from rfl, show ((4 : Int) == 4) = true from rfl, cond_false, cond_false, cond_true,
        hn1, bd_some, hn1', bd_some, hn2, hn2', impl_wS (by simp; omega)]; rfl
    · obtain rfl : r = 7 := hl
      rw [show ((7 : Int) == 2) = false from rfl, show ((7 : Int) == 3) = false from rfl, show ((7 : Int) == 4) = false from rfl, show ((7 : Int) == 5) = false from rfl, show ((7 : Int) == 6) = false from rfl, show ((7 : Int) == 7) = true from rfl, cond_false, cond_false, cond_false, cond_false, cond_false, cond_true,
        hn1, bd_some, hn1', bd_some, hn2, hn2', impl_wS (by simp; omega)]; rfl
    · obtain rfl : r = 6 := hl
      rw [show ((6 : Int) == 2) = false from rfl, show ((6 : Int) == 3) = false from rfl, show ((6 : Int) == 4) = false from rfl, show ((6 : Int) == 5) = false from rfl, show ((6 : Int) == 6) = true from rfl, cond_false, cond_false, cond_false, cond_false, cond_true,
        hn1, bd_some, hn2, impl_wS (by simp; omega), bd_some, hn1', bd_some, hn2', impl_wS (by simp; omega)]; rfl
    · obtain rfl : r = 9 := hl
      rw [show ((9 : Int) == 2) = false from rfl, show ((9 : Int) == 3) = false from rfl, show ((9 : Int) == 4) = false from rfl, show ((9 : Int) == 5) = false from rfl, show ((9 : Int) == 6) = false from rfl, show ((9 : Int) == 7) = false from rfl, show ((9 : Int) == 8) = false from rfl, cond_false, cond_false, cond_false, cond_false, cond_false, cond_false, cond_false,
        hn1, bd_some, hn2, impl_wS (by simp; omega), bd_some, hn1', bd_some, hn2', impl_wS (by simp; omega)]; rfl
    · obtain rfl : r = 8 := hl
      rw [show ((8 : Int) == 2) = false from rfl, show ((8 : Int) == 3) = false from rfl, show ((8 : Int) == 4) = false from rfl, show ((8 : Int) == 5) = false from rfl, show ((8 : Int) == 6) = false from rfl, show ((8 : Int) == 7) = false from rfl, show ((8 : Int) == 8) = true from rfl, cond_false, cond_false, cond_false, cond_false, cond_false, cond_false, cond_true,
        hn1, bd_some, hn2, impl_wS (by simp; omega), bd_some, hn1', bd_some, hn2', impl_wS (by simp; omega)]; rfl
end Go.PF
namespace Go.PF
open Go.Pu
theorem good_ft {s : ByteArray} (h : goodB s = true) : ∃ t : Ft, F? (bs s) = some t ∧ t.wf = true ∧ s = tx t.txt ∧ s.size ≤ 80 ∧ s.size = t.txt.length := by
  obtain ⟨t, h1, h2⟩ := good_iff.1 h
  obtain ⟨e, hw⟩ := ft_of h1
  exact ⟨t, h1, hw, e, h2, by rw [e, tx_size]⟩
/-- the first formula of a side that is more than a sign -/
def bigS (l : List ByteArray) : Option ByteArray := l.find? fun x => decide (1 < x.size)
def mainV (s : Sequent) : Option (ByteArray × Bool) := match bigS s.left with
  | some m => some (m, true)
  | none => match bigS s.right with
    | some m => some (m, false)
    | none => none
theorem find_loop {l : List ByteArray} (hl : l.length ≤ 1000000) {X : Type} (v : ByteArray → X) {body : Int → Option (Lp Int X)}
    (hb : ∀ (i : Nat) y, l[i]? = some y → body (i : Int) = bif decide (1 < y.size) then some (.rt (v y)) else some (.nx ((i : Int) + 1))) (he : body (l.length : Int) = some (.bk (l.length : Int))) :
    iter body 0 = some (match bigS l with | some m => .rt (v m) | none => .go (l.length : Int)) := by
  have key : ∀ (m : List ByteArray) (k : Nat), k + m.length = l.length → (∀ i y, m[i]? = some y → l[k + i]? = some y) → iter body (k : Int) = some (match bigS m with | some m => .rt (v m) | none => .go (l.length : Int)) := by
    intro m
    induction m with
    | nil =>
      intro k hk _
      simp only [List.length_nil, Nat.add_zero] at hk
      subst hk
      rw [iter_bk he]; rfl
    | cons y m ih =>
      intro k hk hm
      have h0 := hb k y (by have := hm 0 y rfl; simpa using this)
      cases hp : decide (1 < y.size) with
      | true => rw [hp] at h0; rw [iter_rt h0]; simp only [bigS, List.find?_cons, hp]
      | false =>
        rw [hp] at h0
        rw [iter_nx h0]
        have : bigS (y :: m) = bigS m := by simp only [bigS, List.find?_cons, hp]
        rw [this]
        exact ih (k + 1) (by simp at hk; omega) fun i z hz => by have := hm (i + 1) z (by simpa using hz); rwa [show k + (i + 1) = k + 1 + i by omega] at this
  have := key l 0 (by simp) (by simp)
  simpa using this
theorem spec_l23Main_eq {s : Sequent} (l1 : s.left.length ≤ 1000000) (l2 : s.right.length ≤ 1000000) :
    spec_l23Main s = some (match mainV s with | some (m, b) => (m, b, true) | none => (tx [], false, false)) := by
  unfold spec_l23Main mainV
  rw [find_loop (l := s.left) l1 (v := fun m => (m, true, true)) (fun i y hy => by
    have hi := lt_of_get hy
    rw [bifT (decide_eq_true (by rw [len_eq]; omega)), ix_get, hy, bd_some, bd_some, show decide (1 < (y.size : Int)) = decide (1 < y.size) from decide_eq_decide.2 (by omega), show wr ((i : Int) + 1) = (i : Int) + 1 from wr_of _ (by omega) (by omega)]) (by
    rw [bifF (decide_eq_false (by rw [len_eq]; omega))])]
  cases bigS s.left with
  | some m => rfl
  | none =>
    dsimp only
    rw [bdR_go, find_loop (l := s.right) l2 (v := fun m => (m, false, true)) (fun i y hy => by
      have hi := lt_of_get hy
      rw [bifT (decide_eq_true (by rw [len_eq]; omega)), ix_get, hy, bd_some, bd_some, show decide (1 < (y.size : Int)) = decide (1 < y.size) from decide_eq_decide.2 (by omega), show wr ((i : Int) + 1) = (i : Int) + 1 from wr_of _ (by omega) (by omega)]) (by
      rw [bifF (decide_eq_false (by rw [len_eq]; omega))])]
    cases bigS s.right with
    | some m => rfl
    | none => rfl
theorem ruleV_zero {t : Ft} (l : Bool) : (ruleV t l = 0 ↔ t.txt.length ≤ 1) := by
  cases t with
  | leaf c => simp [ruleV, Ft.txt]
  | neg a =>
    have := List.length_pos_iff.2 a.txt_ne
    simp only [ruleV, Ft.txt, List.length_cons]
    constructor
    · intro h; cases l <;> simp at h
    · intro h; omega
  | bin op a b =>
    simp only [ruleV, Ft.txt, List.length_cons, List.length_append]
    constructor
    · intro h
      split at h
      · cases l <;> simp at h
      · split at h
        · cases l <;> simp at h
        · cases l <;> simp at h
    · intro h; omega
theorem ruleV_bd (t : Ft) (l : Bool) : 0 ≤ ruleV t l ∧ ruleV t l ≤ 9 ∧ ruleV t l ≠ 1 := by
  cases t with
  | leaf c => simp [ruleV]
  | neg a => cases l <;> simp [ruleV]
  | bin op a b =>
    simp only [ruleV]
    split
    · cases l <;> simp
    · split
      · cases l <;> simp
      · cases l <;> simp
/-- the program's loop over a side -/
theorem side_loop {l : List ByteArray} (hg : ∀ x ∈ l, goodB x = true) (b : Bool) {X : Type} (v : Fo → Int → X) {body : Nat → ByteArray → Unit → Option (Lp Unit X)}
    (hb : ∀ i y u, body i y u = bd (impl_parse y) fun r => bd r.1.get fun n => bif !(impl_ruleFor n.op b == 0) then some (.rt (v r.1 (impl_ruleFor n.op b))) else some (.nx ())) :
    ∃ q, forL l body () = some q ∧ ((bigS l = none ∧ q = .go ()) ∨ ∃ m t, bigS l = some m ∧ m ∈ l ∧ F? (bs m) = some t ∧ q = .rt (v t.fo (ruleV t b))) := by
  have key : ∀ (m : List ByteArray) (k : Nat), (∀ x ∈ m, goodB x = true) → ∃ q, forLFrom body m k () = some q ∧ ((bigS m = none ∧ q = .go ()) ∨ ∃ z t, bigS m = some z ∧ z ∈ m ∧ F? (bs z) = some t ∧ q = .rt (v t.fo (ruleV t b))) := by
    intro m
    induction m with
    | nil => intro k _; exact ⟨_, rfl, .inl ⟨rfl, rfl⟩⟩
    | cons y m ih =>
      intro k hm
      obtain ⟨t, h1, h2, h3, h4, h5⟩ := good_ft (hm y (List.mem_cons_self ..))
      obtain ⟨n, g1, g2, _⟩ := Ft.get_eq t
      have e : body k y () = bif !(ruleV t b == 0) then some (.rt (v t.fo (ruleV t b))) else some (.nx ()) := by
        rw [hb, impl_parse_good h1 h4, bd_some, g1, bd_some, g2, impl_ruleFor_eq h2]
      by_cases hz : 1 < y.size
      · have : ruleV t b ≠ 0 := fun g => by have := (ruleV_zero b).1 g; omega
        rw [beq_eq_false_iff_ne.2 this, Bool.not_false, cond_true] at e
        refine ⟨.rt (v t.fo (ruleV t b)), by rw [forLFrom, e], .inr ⟨y, t, by simp [bigS, hz], List.mem_cons_self .., h1, rfl⟩⟩
      · have : ruleV t b = 0 := (ruleV_zero b).2 (by omega)
        rw [this] at e
        obtain ⟨q, q1, q2⟩ := ih (k + 1) fun x hx => hm x (List.mem_cons_of_mem _ hx)
        have hbig : bigS (y :: m) = bigS m := by simp [bigS, hz]
        refine ⟨q, by rw [forLFrom_nx (s' := ()) (by rw [e]; rfl), q1], ?_⟩
        rw [hbig]
        rcases q2 with q2 | ⟨z, t', r1, r2, r3, r4⟩
        · exact .inl q2
        · exact .inr ⟨z, t', r1, List.mem_cons_of_mem _ r2, r3, r4⟩
  exact key l 0 hg
theorem impl_mainOf_eq {s : Sequent} (h1 : ∀ x ∈ s.left, goodB x = true) (h2 : ∀ x ∈ s.right, goodB x = true) :
    (mainV s = none ∧ impl_mainOf s = some (.nil, 0)) ∨ ∃ m b t, mainV s = some (m, b) ∧ F? (bs m) = some t ∧ m ∈ (bif b then s.left else s.right) ∧ impl_mainOf s = some (t.fo, ruleV t b) := by
  unfold impl_mainOf mainV
  have c2 : chk (len [s.left, s.right]) = some 2 := by unfold chk; rw [if_pos (by rw [len_eq]; simp)]; rfl
  rw [c2, bd_some]
  unfold forR
  obtain ⟨q, e1, hq⟩ := side_loop h1 true (v := fun f r => (Lp.rt (f, r) : Lp Unit (Fo × Int))) (body := fun i133 y132 s133 => bd (PF.impl_parse y132) (fun r190 => bd (r190.1.get) (fun y198 => (bif (!((PF.impl_ruleFor y198.op true) == 0)) then some (Lp.rt (Lp.rt (r190.1, (PF.impl_ruleFor y198.op true)))) else some (Lp.nx ()))))) (fun _ _ _ => rfl)
  obtain ⟨q', e2, hq'⟩ := side_loop h2 false (v := fun f r => (Lp.rt (f, r) : Lp Unit (Fo × Int))) (body := fun i133 y132 s133 => bd (PF.impl_parse y132) (fun r190 => bd (r190.1.get) (fun y198 => (bif (!((PF.impl_ruleFor y198.op false) == 0)) then some (Lp.rt (Lp.rt (r190.1, (PF.impl_ruleFor y198.op false)))) else some (Lp.nx ()))))) (fun _ _ _ => rfl)
  show (_ ∧ bdR (forFrom _ 2 0 ()) _ _ = _) ∨ _
  rw [show (2 : Nat) - 0 = 2 from rfl]
  have z0 : ((((0 : Nat) : Int)) == 0) = true := rfl
  have z1 : ((((0 + 1 : Nat) : Int)) == 0) = false := rfl
  rcases hq with ⟨b1, rfl⟩ | ⟨m, t, b1, b2, b3, rfl⟩
  · rw [b1]
    dsimp only
    rcases hq' with ⟨b1', rfl⟩ | ⟨m, t, b1', b2, b3, rfl⟩
    · rw [b1']
      refine .inl ⟨rfl, ?_⟩
      simp only [forFrom, z0, z1, show ix [s.left, s.right] ((0 : Nat) : Int) = some s.left from rfl, show ix [s.left, s.right] ((0 + 1 : Nat) : Int) = some s.right from rfl, bd_some]
      rw [e1, bdR_go, e2, bdR_go]; rfl
    · rw [b1']
      refine .inr ⟨m, false, t, rfl, b3, b2, ?_⟩
      simp only [forFrom, z0, z1, show ix [s.left, s.right] ((0 : Nat) : Int) = some s.left from rfl, show ix [s.left, s.right] ((0 + 1 : Nat) : Int) = some s.right from rfl, bd_some]
      rw [e1, bdR_go, e2, bdR_rt]; rfl
  · rw [b1]
    refine .inr ⟨m, true, t, rfl, b3, b2, ?_⟩
    simp only [forFrom, z0, z1, show ix [s.left, s.right] ((0 : Nat) : Int) = some s.left from rfl, bd_some]
    rw [e1, bdR_rt]; rfl
/-! how much there is in a sequent -/
def szL (l : List ByteArray) : Nat := (l.map (·.size)).sum
def szQ (s : Sequent) : Nat := szL s.left + szL s.right
theorem szL_ins {x : ByteArray} : ∀ {l : List ByteArray}, szL (insO ltF x l) ≤ x.size + szL l
  | [] => by simp [insO, szL]
  | y :: l => by
    have := szL_ins (x := x) (l := l)
    unfold szL at *
    unfold insO
    split
    · simp only [List.map_cons, List.sum_cons]; omega
    · split
      · simp only [List.map_cons, List.sum_cons]; omega
      · simp only [List.map_cons, List.sum_cons]; omega
theorem szL_set : ∀ {l : List ByteArray}, szL (setO ltF l) ≤ szL l
  | [] => by simp [setO]
  | x :: l => by
    have h1 := szL_set (l := l)
    have h2 := szL_ins (x := x) (l := setO ltF l)
    unfold setO at *
    rw [List.foldr_cons]
    have : szL (x :: l) = x.size + szL l := by simp [szL]
    omega
theorem szL_w (l m : List ByteArray) : szL (wS l m) ≤ szL l + szL m := by
  have := szL_set (l := l ++ m)
  unfold wS
  have e : szL (l ++ m) = szL l + szL m := by simp [szL]
  omega
theorem szL_lack {m : ByteArray} : ∀ {l : List ByteArray}, szL (lackS l m) + (if m ∈ l then m.size else 0) ≤ szL l
  | [] => by simp [lackS, szL]
  | x :: l => by
    have ih := szL_lack (m := m) (l := l)
    have hx : szL (x :: l) = x.size + szL l := by simp [szL]
    by_cases e : x = m
    · subst e
      have h1 : lackS (x :: l) x = lackS l x := by simp [lackS]
      rw [h1, hx, if_pos (List.mem_cons_self ..)]
      split at ih <;> omega
    · have h1 : lackS (x :: l) m = x :: lackS l m := by simp [lackS, e]
      have h2 : szL (x :: lackS l m) = x.size + szL (lackS l m) := by simp [szL]
      have h3 : (m ∈ x :: l) ↔ m ∈ l := by simp [Ne.symm (show x ≠ m from e)]
      rw [h1, h2, hx]
      by_cases g : m ∈ l
      · rw [if_pos g] at ih; rw [if_pos (h3.2 g)]; omega
      · rw [if_neg g] at ih; rw [if_neg fun q => g (h3.1 q)]; omega
theorem szL_one (a : ByteArray) : szL [a] = a.size := by simp [szL]
theorem szL_two (a b : ByteArray) : szL [a, b] = a.size + b.size := by simp [szL]
/-- a premise is smaller, and not much longer -/
theorem prem_sz {s : Sequent} {t : Ft} {b : Bool} (hm : tx t.txt ∈ (bif b then s.left else s.right)) (h0 : ruleV t b ≠ 0) : ∀ p ∈ premV s (ruleV t b) t, szQ p < szQ s ∧ p.left.length ≤ s.left.length + 2 ∧ p.right.length ≤ s.right.length + 2 := by
  have wl : ∀ l m, (wS l m).length ≤ l.length + m.length := fun l m => by
    have := setO_len (l := l ++ m)
    unfold wS; rw [List.length_append] at this; exact this
  have hL := szL_lack (m := tx t.txt) (l := s.left)
  have hR := szL_lack (m := tx t.txt) (l := s.right)
  have nL := lack_len s.left (tx t.txt)
  have nR := lack_len s.right (tx t.txt)
  have hsz : (tx t.txt).size = t.txt.length := tx_size _
  have hp : 0 < t.txt.length := List.length_pos_iff.2 t.txt_ne
  unfold szQ
  cases t with
  | leaf c => exact absurd rfl h0
  | neg a =>
    have ea : (Ft.neg a).tA.size + 1 = (Ft.neg a).txt.length := by
      show (tx a.txt).size + 1 = (126 :: a.txt).length
      rw [tx_size, List.length_cons]
    cases b with
    | true =>
      have hm : tx (Ft.neg a).txt ∈ s.left := hm
      rw [if_pos hm] at hL
      have w := szL_w s.right [(Ft.neg a).tA]
      have w' := wl s.right [(Ft.neg a).tA]
      rw [szL_one] at w
      intro p hp
      have hp : p ∈ [(⟨lackS s.left (tx (Ft.neg a).txt), wS s.right [(Ft.neg a).tA]⟩ : Sequent)] := hp
      rw [List.mem_singleton.1 hp]
      simp only [List.length_cons, List.length_nil] at w'
      exact ⟨by dsimp only; omega, by dsimp only; omega, by dsimp only; omega⟩
    | false =>
      have hm : tx (Ft.neg a).txt ∈ s.right := hm
      rw [if_pos hm] at hR
      have w := szL_w s.left [(Ft.neg a).tA]
      have w' := wl s.left [(Ft.neg a).tA]
      rw [szL_one] at w
      intro p hp
      have hp : p ∈ [(⟨wS s.left [(Ft.neg a).tA], lackS s.right (tx (Ft.neg a).txt)⟩ : Sequent)] := hp
      rw [List.mem_singleton.1 hp]
      simp only [List.length_cons, List.length_nil] at w'
      exact ⟨by dsimp only; omega, by dsimp only; omega, by dsimp only; omega⟩
  | bin op a b' =>
    have ea : (Ft.bin op a b').tA.size + (Ft.bin op a b').tB.size + 3 = (Ft.bin op a b').txt.length := by
      show (tx a.txt).size + (tx b'.txt).size + 3 = (40 :: (a.txt ++ op :: (b'.txt ++ [41]))).length
      rw [tx_size, tx_size]; simp only [List.length_cons, List.length_append, List.length_nil]; omega
    generalize hA : (Ft.bin op a b').tA = A at *
    generalize hB : (Ft.bin op a b').tB = B at *
    have q : ∀ (l m : List ByteArray), szL (wS l m) ≤ szL l + szL m := szL_w
    have q1 := q s.left [A]
    have q2 := q s.right [A]
    have q3 := q (lackS s.left (tx (Ft.bin op a b').txt)) [A]
    have q4 := q (lackS s.left (tx (Ft.bin op a b').txt)) [B]
    have q5 := q (lackS s.right (tx (Ft.bin op a b').txt)) [A]
    have q6 := q (lackS s.right (tx (Ft.bin op a b').txt)) [B]
    have q7 := q (lackS s.left (tx (Ft.bin op a b').txt)) [A, B]
    have q8 := q (lackS s.right (tx (Ft.bin op a b').txt)) [A, B]
    have p1 := wl s.left [A]
    have p2 := wl s.right [A]
    have p3 := wl (lackS s.left (tx (Ft.bin op a b').txt)) [A]
    have p4 := wl (lackS s.left (tx (Ft.bin op a b').txt)) [B]
    have p5 := wl (lackS s.right (tx (Ft.bin op a b').txt)) [A]
    have p6 := wl (lackS s.right (tx (Ft.bin op a b').txt)) [B]
    have p7 := wl (lackS s.left (tx (Ft.bin op a b').txt)) [A, B]
    have p8 := wl (lackS s.right (tx (Ft.bin op a b').txt)) [A, B]
    simp only [szL_one, szL_two] at q1 q2 q3 q4 q5 q6 q7 q8
    simp only [List.length_cons, List.length_nil] at p1 p2 p3 p4 p5 p6 p7 p8
    generalize hm0 : tx (Ft.bin op a b').txt = m at *
    have fin1 : ∀ p ∈ [(⟨wS (lackS s.left m) [A, B], s.right⟩ : Sequent)], m ∈ s.left → szL p.left + szL p.right < szL s.left + szL s.right ∧ p.left.length ≤ s.left.length + 2 ∧ p.right.length ≤ s.right.length + 2 := by
      intro p hp hm; rw [if_pos hm] at hL; rw [List.mem_singleton.1 hp]; exact ⟨by dsimp only; omega, by dsimp only; omega, by dsimp only; omega⟩
    have fin2 : ∀ p ∈ [(⟨s.left, wS (lackS s.right m) [A]⟩ : Sequent), ⟨s.left, wS (lackS s.right m) [B]⟩], m ∈ s.right → szL p.left + szL p.right < szL s.left + szL s.right ∧ p.left.length ≤ s.left.length + 2 ∧ p.right.length ≤ s.right.length + 2 := by
      intro p hp hm; rw [if_pos hm] at hR
      rcases List.mem_cons.1 hp with rfl | hp
      · exact ⟨by dsimp only; omega, by dsimp only; omega, by dsimp only; omega⟩
      · rw [List.mem_singleton.1 hp]; exact ⟨by dsimp only; omega, by dsimp only; omega, by dsimp only; omega⟩
    have fin3 : ∀ p ∈ [(⟨wS (lackS s.left m) [A], s.right⟩ : Sequent), ⟨wS (lackS s.left m) [B], s.right⟩], m ∈ s.left → szL p.left + szL p.right < szL s.left + szL s.right ∧ p.left.length ≤ s.left.length + 2 ∧ p.right.length ≤ s.right.length + 2 := by
      intro p hp hm; rw [if_pos hm] at hL
      rcases List.mem_cons.1 hp with rfl | hp
      · exact ⟨by dsimp only; omega, by dsimp only; omega, by dsimp only; omega⟩
      · rw [List.mem_singleton.1 hp]; exact ⟨by dsimp only; omega, by dsimp only; omega, by dsimp only; omega⟩
    have fin4 : ∀ p ∈ [(⟨s.left, wS (lackS s.right m) [A, B]⟩ : Sequent)], m ∈ s.right → szL p.left + szL p.right < szL s.left + szL s.right ∧ p.left.length ≤ s.left.length + 2 ∧ p.right.length ≤ s.right.length + 2 := by
      intro p hp hm; rw [if_pos hm] at hR; rw [List.mem_singleton.1 hp]; exact ⟨by dsimp only; omega, by dsimp only; omega, by dsimp only; omega⟩
    have fin5 : ∀ p ∈ [(⟨lackS s.left m, wS s.right [A]⟩ : Sequent), ⟨wS (lackS s.left m) [B], s.right⟩], m ∈ s.left → szL p.left + szL p.right < szL s.left + szL s.right ∧ p.left.length ≤ s.left.length + 2 ∧ p.right.length ≤ s.right.length + 2 := by
      intro p hp hm; rw [if_pos hm] at hL
      rcases List.mem_cons.1 hp with rfl | hp
      · exact ⟨by dsimp only; omega, by dsimp only; omega, by dsimp only; omega⟩
      · rw [List.mem_singleton.1 hp]; exact ⟨by dsimp only; omega, by dsimp only; omega, by dsimp only; omega⟩
    have fin6 : ∀ p ∈ [(⟨wS s.left [A], wS (lackS s.right m) [B]⟩ : Sequent)], m ∈ s.right → szL p.left + szL p.right < szL s.left + szL s.right ∧ p.left.length ≤ s.left.length + 2 ∧ p.right.length ≤ s.right.length + 2 := by
      intro p hp hm; rw [if_pos hm] at hR; rw [List.mem_singleton.1 hp]; exact ⟨by dsimp only; omega, by dsimp only; omega, by dsimp only; omega⟩
    intro p hp
    unfold ruleV at hp
    dsimp only at hp
    by_cases o1 : op = 38
    · rw [if_pos o1] at hp
      cases b with
      | true => exact fin1 p (by rw [← hA, ← hB, ← hm0]; exact hp) hm
      | false => exact fin2 p (by rw [← hA, ← hB, ← hm0]; exact hp) hm
    · rw [if_neg o1] at hp
      by_cases o2 : op = 124
      · rw [if_pos o2] at hp
        cases b with
        | true => exact fin3 p (by rw [← hA, ← hB, ← hm0]; exact hp) hm
        | false => exact fin4 p (by rw [← hA, ← hB, ← hm0]; exact hp) hm
      · rw [if_neg o2] at hp
        cases b with
        | true => exact fin5 p (by rw [← hA, ← hB, ← hm0]; exact hp) hm
        | false => exact fin6 p (by rw [← hA, ← hB, ← hm0]; exact hp) hm
end Go.PF
namespace Go.PF
open Go.Pu
theorem big_none {l : List ByteArray} (h : bigS l = none) : ∀ x ∈ l, x.size ≤ 1 := by
  intro x hx
  have := List.find?_eq_none.1 h x hx
  simp at this; omega
theorem spec_l22Letter_eq {y : ByteArray} {c : UInt8} (h : bs y = [c]) : spec_l22Letter y = some (decide (97 ≤ c) && decide (c ≤ 102)) := by
  unfold spec_l22Letter
  have hz := bs_len y
  rw [h] at hz
  have hi : ixS y 0 = some (c.toNat : Int) := ixS_at (k := 0) (by rw [h]; rfl)
  rw [show ((y.size : Int) == 1) = true by rw [beq_iff_eq, ← hz]; rfl, cond_true, hi, bd_some, bd_some, cge]
  cases decide (97 ≤ c) with
  | false => rfl
  | true => rw [cond_true, bd_some, cle]; rfl
/-- the bits of the letters of a side, step by step -/
def bitT (s : Int) (y : ByteArray) : Int := match bs y with
  | c :: _ => bif decide (97 ≤ c) && decide (c ≤ 102) then orK true 64 s (shlK true 64 1 (wrk false 8 ((c.toNat : Int) - 97))) else s
  | [] => s
theorem one_byte {y : ByteArray} (hg : goodB y = true) (h1 : y.size ≤ 1) : ∃ c, bs y = [c] := by
  obtain ⟨t, g1, g2, g3, g4, g5⟩ := good_ft hg
  have hp : 0 < t.txt.length := List.length_pos_iff.2 t.txt_ne
  have : (bs y).length = 1 := by rw [bs_len]; omega
  exact List.length_eq_one_iff.1 this
theorem nn_ok {c : UInt8} : nn (wrk false 8 ((c.toNat : Int) - 97)) = some () := by
  unfold nn wrk
  rw [if_neg]
  simp only [Bool.false_and]
  simp
  omega
theorem spec_l23Open_eq {l : List ByteArray} (hg : ∀ x ∈ l, goodB x = true) (h1 : ∀ x ∈ l, x.size ≤ 1) : spec_l23Open l = some (l.foldl bitT 0) := by
  unfold spec_l23Open
  rw [forL_fold bitT (fun i y t hy => by
    obtain ⟨c, hc⟩ := one_byte (hg y (List.mem_of_getElem? hy)) (h1 y (List.mem_of_getElem? hy))
    have hi : ixS y 0 = some (c.toNat : Int) := ixS_at (k := 0) (by rw [hc]; rfl)
    rw [spec_l22Letter_eq hc, bd_some]
    unfold bitT
    rw [hc]
    dsimp only
    cases decide (97 ≤ c) && decide (c ≤ 102) with
    | false => rfl
    | true => rw [cond_true, cond_true, hi, bd_some, nn_ok, bd_some])]
  rfl
/-- how a search ends, in the reference's words and in the program's -/
def Ends (o : l23Search) (ok : Bool) (x : seqSearch) : Prop :=
  (ok = true ∧ o = ⟨x.steps, false, 0, false⟩ ∧ x.open_ = none ∧ x.steps.length ≤ 200) ∨
  (ok = false ∧ ((o.bad = true ∧ o.open_ = false ∧ x.open_ = none) ∨ ∃ q, o.open_ = true ∧ x.open_ = some q ∧ seqB q = true ∧ bigS q.left = none ∧ o.bits = q.left.foldl bitT 0))
def Both (r1 : Sequent → l23Search → Option l23Search) (r2 : seqSearch → Sequent → Option (Bool × seqSearch)) (s : Sequent) : Prop :=
  ∀ st : List SeqStep, st.length ≤ 200 → ∃ o ok x, r1 s ⟨st, false, 0, false⟩ = some o ∧ r2 ⟨st, none⟩ s = some (ok, x) ∧ Ends o ok x
theorem spec_put {st : List SeqStep} (h : st.length ≤ 200) (p : SeqStep) : spec_l23Put ⟨st, false, 0, false⟩ p = some ⟨st ++ [p], false, 0, decide (200 < st.length + 1)⟩ := by
  unfold spec_l23Put
  dsimp only
  rw [app_ok (by simp; unfold lim; omega), bd_some]
  congr 2
  exact decide_eq_decide.2 (by rw [len_eq, List.length_append]; simp only [List.length_cons, List.length_nil]; omega)
/-- the loop over the premises -/
theorem prem_loop {ps : List Sequent} (hp : ps.length ≤ 2) {r1 : Sequent → l23Search → Option l23Search} {r2 : seqSearch → Sequent → Option (Bool × seqSearch)} (hr : ∀ p ∈ ps, Both r1 r2 p) {ZS ZI : Type} (zi : seqSearch → ZI)
    {fb : (List SeqStep) × Bool × Int × Bool × Int × Int × Int → Option (Lp ((List SeqStep) × Bool × Int × Bool × Int × Int × Int) l23Search)}
    (hf : ∀ s, fb s = (bif (decide (s.2.2.2.2.2.2 < (len ps))) then bd (ix ps s.2.2.2.2.2.2) (fun x120307 => bd (r1 x120307 (l23Search.mk s.1 s.2.1 s.2.2.1 s.2.2.2.1)) (fun r129301 => (bif (bif r129301.open_ then true else r129301.bad) then some (Lp.rt r129301) else (bif (s.2.2.2.2.2.2 == 0) then some (Lp.nx (r129301.steps, r129301.open_, r129301.bits, r129301.bad, (wr ((len r129301.steps) - 1)), s.2.2.2.2.2.1, (wr (s.2.2.2.2.2.2 + 1)))) else some (Lp.nx (r129301.steps, r129301.open_, r129301.bits, r129301.bad, s.2.2.2.2.1, (wr ((len r129301.steps) - 1)), (wr (s.2.2.2.2.2.2 + 1)))))))) else some (Lp.bk (s.1, s.2.1, s.2.2.1, s.2.2.2.1, s.2.2.2.2.1, s.2.2.2.2.2.1, s.2.2.2.2.2.2))))
    {gb : Nat → (List SeqStep) × Int × Int × (Option Sequent) → Option (Lp ((List SeqStep) × Int × Int × (Option Sequent)) ZI)}
    (hg : ∀ i s, gb i s = bd (ix ps ((i : Nat) : Int)) (fun x556 => bd (r2 (seqSearch.mk s.1 s.2.2.2) x556) (fun r573 => (bif (!r573.1) then some (Lp.rt (zi r573.2)) else (bif (((i : Nat) : Int) == 0) then some (Lp.nx (r573.2.steps, (wr ((len r573.2.steps) - 1)), s.2.2.1, r573.2.open_)) else some (Lp.nx (r573.2.steps, s.2.1, (wr ((len r573.2.steps) - 1)), r573.2.open_))))))) :
    ∀ (rest : List Sequent) (k : Nat) (st : List SeqStep) (a b : Int), ps.drop k = rest → k ≤ ps.length → st.length ≤ 200 →
      (∃ st' a' b' i, iter fb (st, false, 0, false, a, b, (k : Int)) = some (.go (st', false, 0, false, a', b', i)) ∧ forFrom gb rest.length k (st, a, b, none) = some (.go (st', a', b', none)) ∧ st'.length ≤ 200) ∨
      (∃ o x, iter fb (st, false, 0, false, a, b, (k : Int)) = some (.rt o) ∧ forFrom gb rest.length k (st, a, b, none) = some (.rt (zi x)) ∧ Ends o false x) := by
  intro rest
  induction rest with
  | nil =>
    intro k st a b hk hle hst
    have e : ps.length ≤ k := by
      have := congrArg List.length hk
      rw [List.length_drop, List.length_nil] at this; omega
    refine .inl ⟨st, a, b, (k : Int), iter_bk ?_, rfl, hst⟩
    rw [hf, bifF (decide_eq_false (by rw [len_eq]; show ¬ ((k : Int) < _); omega))]
  | cons p rest ih =>
    intro k st a b hk hle hst
    have hkl : k < ps.length := by
      have := congrArg List.length hk
      rw [List.length_drop, List.length_cons] at this; omega
    have hx : ps[k]? = some p := by
      have : (ps.drop k)[0]? = some p := by rw [hk]; rfl
      rwa [List.getElem?_drop, Nat.add_zero] at this
    have hk' : ps.drop (k + 1) = rest := by rw [← List.tail_drop, hk]; rfl
    obtain ⟨o, ok, x, e1, e2, hE⟩ := hr p (List.mem_of_getElem? hx) st hst
    have f1 : fb (st, false, 0, false, a, b, (k : Int)) = (bif (bif o.open_ then true else o.bad) then some (Lp.rt o) else (bif ((k : Int) == 0) then some (Lp.nx (o.steps, o.open_, o.bits, o.bad, (wr ((len o.steps) - 1)), b, (wr ((k : Int) + 1)))) else some (Lp.nx (o.steps, o.open_, o.bits, o.bad, a, (wr ((len o.steps) - 1)), (wr ((k : Int) + 1)))))) := by
      rw [hf, bifT (decide_eq_true (by rw [len_eq]; show (k : Int) < _; omega))]
      dsimp only
      rw [ix_get, hx, bd_some, e1, bd_some]
    have g1 : gb k (st, a, b, none) = (bif (!ok) then some (Lp.rt (zi x)) else (bif (((k : Nat) : Int) == 0) then some (Lp.nx (x.steps, (wr ((len x.steps) - 1)), b, x.open_)) else some (Lp.nx (x.steps, a, (wr ((len x.steps) - 1)), x.open_)))) := by
      rw [hg]
      dsimp only
      rw [ix_get, hx, bd_some, e2, bd_some]
    rw [List.length_cons]
    unfold forFrom
    rw [g1]
    rcases hE with ⟨rfl, rfl, ho, hl⟩ | ⟨rfl, hE⟩
    · rw [Bool.not_true, cond_false]
      dsimp only at f1
      rw [cond_false, cond_false, wr_k (by omega)] at f1
      rw [ho]
      cases hz : ((k : Int) == 0) with
      | true =>
        rw [hz, cond_true] at f1
        rw [iter_nx f1, cond_true]
        exact ih (k + 1) x.steps _ b hk' (by omega) hl
      | false =>
        rw [hz, cond_false] at f1
        rw [iter_nx f1, cond_false]
        exact ih (k + 1) x.steps a _ hk' (by omega) hl
    · refine .inr ⟨o, x, iter_rt ?_, rfl, .inr ⟨rfl, hE⟩⟩
      rw [f1]
      rcases hE with ⟨h1, h2, _⟩ | ⟨q, h1, _⟩
      · rw [h2, cond_false, h1]; rfl
      · rw [h1]; rfl
theorem premV_len (s : Sequent) (r : Int) (t : Ft) : (premV s r t).length ≤ 2 := by
  unfold premV
  dsimp only
  split
  · simp
  split
  · simp
  split
  · simp
  split
  · simp
  split
  · simp
  split
  · simp
  split <;> simp
theorem mainV_mem {s : Sequent} {m : ByteArray} {b : Bool} (h : mainV s = some (m, b)) : m ∈ (bif b then s.left else s.right) ∧ 1 < m.size := by
  unfold mainV at h
  cases h1 : bigS s.left with
  | some x =>
    rw [h1] at h
    cases h
    have := List.find?_some h1
    exact ⟨List.mem_of_find?_eq_some h1, by simpa using this⟩
  | none =>
    rw [h1] at h
    dsimp only at h
    cases h2 : bigS s.right with
    | some x =>
      rw [h2] at h
      cases h
      have := List.find?_some h2
      exact ⟨List.mem_of_find?_eq_some h2, by simpa using this⟩
    | none => rw [h2] at h; cases h
theorem search_eq : ∀ (n : Nat) (s : Sequent), szQ s < n → s.left.length ≤ 1000 → s.right.length ≤ 1000 → Both (spec_l23Go_F n) (impl_seqSearch_search_F n) s
  | 0, _, h, _, _ => by omega
  | n + 1, s, hn, hl, hr => by
    intro st hst
    show ∃ o ok x, spec_l23Go_B (spec_l23Go_F n) s ⟨st, false, 0, false⟩ = some o ∧ impl_seqSearch_search_B (impl_seqSearch_search_F n) ⟨st, none⟩ s = some (ok, x) ∧ Ends o ok x
    unfold spec_l23Go_B impl_seqSearch_search_B
    dsimp only
    rw [spec_l23Good_eq, bd_some, impl_IsSequent_eq (by unfold lim; omega) (by unfold lim; omega), bd_some, cond_false, cond_false]
    cases hs : seqB s with
    | false => exact ⟨_, _, _, rfl, rfl, .inr ⟨rfl, .inl ⟨rfl, rfl, rfl⟩⟩⟩
    | true =>
      have hS := hs
      unfold seqB at hS
      rw [Bool.and_eq_true, sideB_iff, sideB_iff] at hS
      have sL := hS.1
      have sR := hS.2
      have hc : impl_Sequent_clone s = some s := by
        unfold impl_Sequent_clone
        rw [slices_Clone_string_eq (by unfold lim; omega), bd_some, slices_Clone_string_eq (by unfold lim; omega)]; rfl
      rw [Bool.not_true, cond_false, cond_false, spec_l23Axiom_eq (by omega), bd_some, hc, bd_some, impl_isSeqAxiom_eq, bd_some]
      have endp : ∀ (t : List SeqStep) (ht : t.length ≤ 200) (p : SeqStep) (o2 : Option Sequent), o2 = none →
          ∃ o ok x, (bd (spec_l23Put ⟨t, false, 0, false⟩ p) fun r70 => some r70) = some o ∧ (bd (app t [p]) fun xs => some (decide (len xs ≤ 200), seqSearch.mk xs o2)) = some (ok, x) ∧ Ends o ok x := by
        rintro t ht p _ rfl
        rw [spec_put ht, bd_some, app_ok (by simp; unfold lim; omega), bd_some]
        refine ⟨_, _, _, rfl, rfl, ?_⟩
        have e : len (t ++ [p]) = ((t.length + 1 : Nat) : Int) := by rw [len_eq, List.length_append]; rfl
        rw [e]
        by_cases h : t.length + 1 ≤ 200
        · refine .inl ⟨decide_eq_true (by omega), ?_, rfl, by simp; omega⟩
          rw [decide_eq_false (by omega)]
        · refine .inr ⟨decide_eq_false (by omega), .inl ⟨?_, rfl, rfl⟩⟩
          exact decide_eq_true (by omega)
      cases ha : axB s with
      | true =>
        rw [cond_true, Bool.not_true, cond_false, bdR_go]
        exact endp st hst _ none rfl
      | false =>
        rw [cond_false, Bool.not_false, cond_true, spec_l23Main_eq (by omega) (by omega), bd_some]
        rcases impl_mainOf_eq (s := s) sL.good sR.good with ⟨m1, m2⟩ | ⟨m, b, t, m1, m2, m3, m4⟩
        · rw [m1, m2, bd_some]
          have hb : bigS s.left = none := by
            unfold mainV at m1
            cases hq : bigS s.left with
            | none => rfl
            | some x => rw [hq] at m1; cases m1
          dsimp only
          rw [Bool.not_false, cond_true, spec_l23Open_eq sL.good (big_none hb)]
          exact ⟨_, _, _, rfl, rfl, .inr ⟨rfl, .inr ⟨s, rfl, rfl, hs, hb, rfl⟩⟩⟩
        · rw [m1, m4, bd_some]
          obtain ⟨mm, mz⟩ := mainV_mem m1
          obtain ⟨em, hw⟩ := ft_of m2
          have gm : goodB m = true := by
            cases b with
            | true => exact sL.good m mm
            | false => exact sR.good m mm
          have m80 : m.size ≤ 80 := (good_iff.1 gm).choose_spec.2
          have rbd := ruleV_bd t b
          have r0 : ruleV t b ≠ 0 := fun g => by
            have := (ruleV_zero b).1 g
            rw [em, tx_size] at mz; omega
          obtain ⟨nd, n1, _, n3⟩ := Ft.get_eq t
          have hnil : t.fo.isNil = false := by cases t <;> rfl
          dsimp only
          rw [Bool.not_true, cond_false, spec_l23Rule_eq m2 (by omega), bd_some, spec_l23Premises_eq m2 (by omega) sL.ord sR.ord hl hr (by omega) rbd.2.1, bd_some,
            hnil, cond_false, n1, bd_some, impl_premisesOf_eq hl hr ⟨b, rfl⟩ r0 hw, bd_some]
          have pl := premV_len s (ruleV t b) t
          rw [show chk (len (premV s (ruleV t b) t)) = some (premV s (ruleV t b) t).length by unfold chk; rw [if_pos (by rw [len_eq]; omega), len_eq]; simp, bd_some]
          have hprem : ∀ p ∈ premV s (ruleV t b) t, Both (spec_l23Go_F n) (impl_seqSearch_search_F n) p := by
            intro p hp
            obtain ⟨z1, z2, z3⟩ := prem_sz (s := s) (t := t) (b := b) (em ▸ mm) r0 p hp
            have := sL.len; have := sR.len
            exact search_eq n p (by omega) (by omega) (by omega)
          have hloop := prem_loop pl hprem (ZS := Unit) (zi := fun x => (Rs.rt (false, x) : Rs ((List SeqStep) × Int × ByteArray × Int × Int × (Option Sequent)) (Bool × seqSearch))) (fun _ => by rfl) (fun _ _ => by rfl) (premV s (ruleV t b) t) 0 st 0 0 rfl (Nat.zero_le _) hst
          unfold forR
          rw [show ((0 : Nat) : Int) = 0 from rfl] at hloop
          rcases hloop with ⟨st', a', b', i, l1, l2, l3⟩ | ⟨o, x, l1, l2, l3⟩
          · erw [l1, l2]
            rw [bdR_go, bdR_go, bdR_go, n3, ← em]
            exact endp st' l3 _ none rfl
          · erw [l1, l2]
            rw [bdR_rt, bdR_rt, bdR_rt]
            exact ⟨_, _, _, rfl, rfl, l3⟩
end Go.PF
namespace Go.PF
open Go.Pu
theorem sz_StringS {a : List ByteArray} {s : Int} (ha : okL okS a) (h0 : 0 ≤ s) (h1 : s ≤ 1048576) : ∃ r, laws_szStringS a s = some r ∧ (r < 0 ∨ r + (a.length + tot (·.size) a : Nat) = s) := by
  unfold laws_szStringS
  have := sz_list (sz := fun (y : ByteArray) s => some (wr (s - (y.size : Int)))) (wt := fun y : ByteArray => y.size) (l := a) (s := s)
    (f := fun i23 y22 s23 => (bif (decide ((wr (s23 - (y22.size : Int))) < 0)) then some (Lp.rt (-1)) else some (Lp.nx (wr (s23 - (y22.size : Int)))))) (fun _ _ _ => rfl) (fun y hy s h0 h1 => ⟨_, rfl, by
    have := ha.2 y hy
    unfold okS at this
    rw [wr_of _ (by omega) (by omega)]; omega⟩) ha.1 h0 h1
  exact this
theorem to_StringS {a : List ByteArray} (h : a.length ≤ lim) : laws_toStringS a = some a := by
  unfold laws_toStringS
  have := to_list (z := (ByteArray.empty : ByteArray)) (l := a) (g := fun y : ByteArray => some y) (h := fun y => y)
    (f := fun i32 y31 s32 => bd (ix s32 ((i32 : Nat) : Int)) (fun x117 => bd (put s32 ((i32 : Nat) : Int) y31) (fun xs122 => some (Lp.nx xs122)))) (fun _ _ _ => rfl) (fun _ _ => rfl) h
  rw [List.map_id'] at this
  exact this
theorem eq_StringS (a : List ByteArray) : laws_eqStringS a a = some true := by
  unfold laws_eqStringS
  exact eq_list (eq := fun x y => some (x.toList == y.toList)) (fun _ _ _ => rfl) (fun y _ => by rw [eqS]; simp)
theorem sz_Sequent {a : Sequent} {s : Int} (ha : okSequent a) (h0 : 0 ≤ s) (h1 : s ≤ 1048576) : ∃ r, laws_szSequent a s = some r ∧ (r < 0 ∨ r + ((a.left.length + tot (·.size) a.left) + (a.right.length + tot (·.size) a.right) : Nat) = s) := by
  unfold laws_szSequent
  obtain ⟨r, e, hr⟩ := sz_StringS ha.1 h0 h1
  rw [e, bd_some]
  by_cases hn : r < 0
  · rw [bifT (decide_eq_true hn)]
    exact ⟨_, rfl, .inl (by omega)⟩
  · rw [bifF (decide_eq_false hn)]
    obtain ⟨q, e2, hq⟩ := sz_StringS ha.2 (s := r) (by omega) (by omega)
    rw [e2, bd_some]
    by_cases hn' : q < 0
    · rw [bifT (decide_eq_true hn')]
      exact ⟨_, rfl, .inl (by omega)⟩
    · rw [bifF (decide_eq_false hn')]
      exact ⟨_, rfl, .inr (by omega)⟩
theorem to_Sequent {a : Sequent} (h1 : a.left.length ≤ lim) (h2 : a.right.length ≤ lim) : laws_toSequent a = some a := by
  unfold laws_toSequent
  rw [to_StringS h1, bd_some, to_StringS h2]; rfl
theorem eq_Sequent (a : Sequent) : laws_eqSequent a a = some true := by
  unfold laws_eqSequent
  rw [eq_StringS, bd_some, Bool.not_true, cond_false, eq_StringS]; rfl
theorem search_bad {x : seqSearch} {s : Sequent} (h1 : s.left.length ≤ lim) (h2 : s.right.length ≤ lim) (h : seqB s = false) : impl_seqSearch_search x s = some (false, x) := by
  unfold impl_seqSearch_search
  have e : ∃ n, deep = n + 1 := ⟨1099511627775, deep_eq⟩
  obtain ⟨n, e⟩ := e
  rw [e]
  show impl_seqSearch_search_B (impl_seqSearch_search_F n) x s = _
  unfold impl_seqSearch_search_B
  rw [impl_IsSequent_eq h1 h2, bd_some, h]; rfl
theorem szL_le {l : List ByteArray} (h : ∀ x ∈ l, x.size ≤ 80) : szL l ≤ 80 * l.length := by
  induction l with
  | nil => simp [szL]
  | cons x l ih =>
    have h1 := h x (List.mem_cons_self ..)
    have h2 := ih fun y hy => h y (List.mem_cons_of_mem _ hy)
    have : szL (x :: l) = x.size + szL l := by simp [szL]
    rw [List.length_cons]; omega
theorem search_good {s : Sequent} (h : seqB s = true) : ∃ o ok x, spec_l23Go s ⟨[], false, 0, false⟩ = some o ∧ impl_seqSearch_search ⟨[], none⟩ s = some (ok, x) ∧ Ends o ok x := by
  have hS := h
  unfold seqB at hS
  rw [Bool.and_eq_true, sideB_iff, sideB_iff] at hS
  have l1 := hS.1.len
  have l2 := hS.2.len
  have g : ∀ x, goodB x = true → x.size ≤ 80 := fun x hx => (good_iff.1 hx).choose_spec.2
  have z1 := szL_le fun x hx => g x (hS.1.good x hx)
  have z2 := szL_le fun x hx => g x (hS.2.good x hx)
  unfold spec_l23Go impl_seqSearch_search
  exact search_eq deep s (by rw [deep_eq]; unfold szQ; omega) (by omega) (by omega) [] (by simp)
end Go.PF
namespace Go.PF
open Go.Pu
theorem open_eq {s : Sequent} (h1 : s.left.length ≤ lim) (h2 : s.right.length ≤ lim) : ∃ r, spec_OpenBits s = some r ∧ impl_OpenBits s = some r := by
  unfold spec_OpenBits impl_OpenBits
  rw [spec_l23Good_eq, bd_some]
  cases hs : seqB s with
  | false =>
    rw [search_bad h1 h2 hs]
    exact ⟨_, rfl, rfl⟩
  | true =>
    obtain ⟨o, ok, x, e1, e2, hE⟩ := search_good hs
    rw [Bool.not_true, cond_false, e1, bd_some, e2, bd_some]
    rcases hE with ⟨rfl, rfl, ho, _⟩ | ⟨rfl, ⟨b1, b2, b3⟩ | ⟨q, b1, b2, b3, b4, b5⟩⟩
    · exact ⟨_, rfl, rfl⟩
    · rw [b2, b3]; exact ⟨_, rfl, rfl⟩
    · rw [b1, b2, b5]
      have hQ := b3
      unfold seqB at hQ
      rw [Bool.and_eq_true, sideB_iff, sideB_iff] at hQ
      refine ⟨_, rfl, ?_⟩
      dsimp only
      rw [cond_false, show (some q : Option Sequent).isNone = false from rfl, cond_false, bd_some]
      rw [forL_fold bitT (fun i y t hy => by
        obtain ⟨c, hc⟩ := one_byte (hQ.1.good y (List.mem_of_getElem? hy)) (big_none b4 y (List.mem_of_getElem? hy))
        have hi : ixS y 0 = some (c.toNat : Int) := ixS_at (k := 0) (by rw [hc]; rfl)
        rw [hi, bd_some, isLetter_eq]
        unfold bitT
        rw [hc]
        dsimp only
        cases decide (97 ≤ c) && decide (c ≤ 102) with
        | false => rfl
        | true => rw [cond_true, cond_true, bd_some, nn_ok, bd_some])]
      rfl
theorem plain_OpenBits (a : Sequent) (ha : okSequent a) : laws_FnExactOpenBits a = some true := by
  unfold laws_FnExactOpenBits
  obtain ⟨r, e, hr⟩ := sz_Sequent ha (s := 1048576) (by omega) (by omega)
  rw [e, bd_some]
  by_cases hn : r < 0
  · rw [bifT (decide_eq_true hn)]
  · rw [bifF (decide_eq_false hn)]
    have l1 : a.left.length ≤ lim := by unfold lim; omega
    have l2 : a.right.length ≤ lim := by unfold lim; omega
    obtain ⟨q, q1, q2⟩ := open_eq l1 l2
    rw [to_Sequent l1 l2, bd_some, q1, bd_some, bd_some, q2, bd_some, beq_self_eq_true, beq_self_eq_true, bd_some, eq_Sequent, bd_some]; rfl
end Go.PF
