/- Helpers of the walks and plain laws. -/
import Derived.Test.YtdkfkiifbagnnaaGreatDoorScLB
import Derived.Test.YtdkfkiifbagnnaaGreatDoorScPf
set_option linter.unusedVariables false
namespace Go.PF
open Go.Pu
def bs (b : ByteArray) : List UInt8 := b.data.toList
theorem bs_app (a b : ByteArray) : bs (a ++ b) = bs a ++ bs b := by unfold bs; rw [ByteArray.data_append, Array.toList_append]
theorem bs_ext {a b : ByteArray} (h : bs a = bs b) : a = b := by
 apply ByteArray.ext
 exact Array.ext' h
theorem bs_len (a : ByteArray) : (bs a).length = a.size := by unfold bs; rw [Array.length_toList]; rfl
theorem bs_cut (s : ByteArray) (a b : Nat) : bs (s.extract a b) = ((bs s).take b).drop a := by
 unfold bs
 rw [ByteArray.data_extract, Array.toList_extract, List.extract_eq_take_drop, List.drop_take]
def tx (l : List UInt8) : ByteArray := ⟨l.toArray⟩
theorem bs_tx (l : List UInt8) : bs (tx l) = l := by simp [bs, tx]
theorem tx_bs (s : ByteArray) : tx (bs s) = s := bs_ext (bs_tx _)
theorem tx_size (l : List UInt8) : (tx l).size = l.length := by rw [← bs_len, bs_tx]
theorem tx_app (a b : List UInt8) : tx (a ++ b) = tx a ++ tx b := bs_ext (by rw [bs_app, bs_tx, bs_tx, bs_tx])
inductive Ft where
 | leaf (c : UInt8)
 | neg (a : Ft)
 | bin (op : UInt8) (a b : Ft)
deriving DecidableEq
def isLf (c : UInt8) : Bool := (97 ≤ c && c ≤ 102) || c == 48 || c == 49
def isOp (c : UInt8) : Bool := c == 38 || c == 124 || c == 62
def Ft.txt : Ft → List UInt8
 | .leaf c => [c]
 | .neg a => 126 :: a.txt
 | .bin op a b => 40 :: (a.txt ++ op :: (b.txt ++ [41]))
def Ft.wf : Ft → Bool
 | .leaf c => isLf c
 | .neg a => a.wf
 | .bin op a b => isOp op && a.wf && b.wf
def Ft.dep : Ft → Nat
 | .leaf _ => 1
 | .neg a => a.dep + 1
 | .bin _ a b => max a.dep b.dep + 1
theorem Ft.dep_le (t : Ft) : t.dep ≤ t.txt.length := by
 induction t with
 | leaf c => simp [Ft.dep, Ft.txt]
 | neg a ih => simp [Ft.dep, Ft.txt, ih]
 | bin op a b iha ihb => simp only [Ft.dep, Ft.txt, List.length_cons, List.length_append, List.length_nil]; omega
theorem Ft.dep_pos (t : Ft) : 0 < t.dep := by cases t <;> simp [Ft.dep]
theorem Ft.txt_ne (t : Ft) : t.txt ≠ [] := by cases t <;> simp [Ft.txt]
def pf : Nat → List UInt8 → Option (Ft × List UInt8)
 | 0, _ => none
 | _ + 1, [] => none
 | n + 1, c :: r =>
  if isLf c then some (.leaf c, r)
  else if c = 126 then (pf n r).map fun z => (.neg z.1, z.2)
  else if c = 40 then
   match pf n r with
   | some (a, o :: r2) => if isOp o then
    match pf n r2 with
    | some (b, d :: r3) => if d = 41 then some (.bin o a b, r3) else none
    | _ => none
    else none
   | _ => none
  else none
theorem pf_some : ∀ {n : Nat} {s : List UInt8} {t : Ft} {r : List UInt8}, pf n s = some (t, r) → s = t.txt ++ r ∧ t.wf = true
 | 0, _, _, _, h => by cases h
 | _ + 1, [], _, _, h => by cases h
 | n + 1, c :: s, t, r, h => by
  simp only [pf] at h
  split at h
  · rename_i hc; cases h; exact ⟨rfl, hc⟩
  split at h
  · rename_i hc
    cases hp : pf n s with
    | none => rw [hp] at h; cases h
    | some z =>
     rw [hp] at h; cases h
     obtain ⟨h1, h2⟩ := pf_some (t := z.1) (r := z.2) hp
     subst hc
     exact ⟨by rw [Ft.txt, List.cons_append, ← h1], h2⟩
  split at h
  · rename_i hc; subst hc
    split at h
    · rename_i a o r2 hp
      split at h
      · rename_i ho
        split at h
        · rename_i b d r3 hq
          split at h
          · rename_i hd; cases h; subst hd
            obtain ⟨h1, h2⟩ := pf_some hp
            obtain ⟨h3, h4⟩ := pf_some hq
            exact ⟨by rw [h1, h3]; simp [Ft.txt], by simp [Ft.wf, ho, h2, h4]⟩
          · cases h
        · cases h
      · cases h
    · cases h
  · cases h
theorem isLf_not {c : UInt8} (h : isLf c = true) : c ≠ 126 ∧ c ≠ 40 := by
 constructor <;> (rintro rfl; revert h; decide)
theorem pf_txt {t : Ft} (h : t.wf = true) : ∀ {n : Nat} (r : List UInt8), t.dep ≤ n → pf n (t.txt ++ r) = some (t, r) := by
 induction t with
 | leaf c => intro n r hn; cases n with
  | zero => simp [Ft.dep] at hn
  | succ n => simp only [Ft.txt, List.cons_append, List.nil_append, pf]; rw [if_pos (show isLf c = true from h)]
 | neg a ih => intro n r hn; cases n with
  | zero => simp [Ft.dep] at hn
  | succ n =>
   simp only [Ft.dep] at hn
   rw [Ft.txt, List.cons_append, pf, if_neg (by decide), if_pos rfl, ih h r (by omega)]; rfl
 | bin op a b iha ihb => intro n r hn; cases n with
  | zero => simp [Ft.dep] at hn
  | succ n =>
   simp only [Ft.dep] at hn
   simp only [Ft.wf, Bool.and_eq_true] at h
   rw [Ft.txt, List.cons_append, List.append_assoc, pf, if_neg (by decide), if_neg (by decide), if_pos rfl, iha h.1.2 _ (by omega)]
   simp only [h.1.1, if_true, List.cons_append, List.append_assoc]
   rw [ihb h.2 _ (by omega)]
   simp
def P (s : List UInt8) : Option (Ft × List UInt8) := pf s.length s
theorem P_some {s : List UInt8} {t : Ft} {r : List UInt8} : P s = some (t, r) ↔ s = t.txt ++ r ∧ t.wf = true := by
 constructor
 · exact pf_some
 · rintro ⟨rfl, h⟩
   exact pf_txt h r (by have := t.dep_le; rw [List.length_append]; omega)
theorem pf_P {n : Nat} {s : List UInt8} (h : s.length ≤ n) : pf n s = P s := by
 cases hp : pf n s with
 | some z => exact (P_some.2 (pf_some (t := z.1) (r := z.2) hp)).symm
 | none =>
  cases hq : P s with
  | none => rfl
  | some z =>
   obtain ⟨h1, h2⟩ := P_some.1 (show P s = some (z.1, z.2) from hq)
   have := pf_txt h2 (n := n) z.2 (by have := z.1.dep_le; rw [h1, List.length_append] at h; omega)
   rw [← h1, hp] at this; cases this
def F? (s : List UInt8) : Option Ft := match P s with | some (t, []) => some t | _ => none
theorem F?_some {s : List UInt8} {t : Ft} : F? s = some t ↔ s = t.txt ∧ t.wf = true := by
 unfold F?
 constructor
 · intro h
   split at h
   · rename_i t' hp; cases h
     have := P_some.1 hp
     exact ⟨by simpa using this.1, this.2⟩
   · cases h
 · rintro ⟨rfl, h⟩
   rw [P_some (t := t) (r := []) |>.2 ⟨by simp, h⟩]
theorem P_cons (c : UInt8) (r : List UInt8) : P (c :: r) = if isLf c then some (.leaf c, r)
 else if c = 126 then (P r).map fun z => (.neg z.1, z.2)
 else if c = 40 then
  match P r with
  | some (a, o :: r2) => if isOp o then
   match P r2 with
   | some (b, d :: r3) => if d = 41 then some (.bin o a b, r3) else none
   | _ => none
   else none
  | _ => none
 else none := by
 unfold P
 simp only [List.length_cons, pf]
 split
 · rfl
 split
 · rfl
 split
 · split
   · rename_i a o r2 hp
     split
     · have hl : r2.length ≤ r.length := by
        have := (pf_some hp).1; rw [this]; simp; omega
       rw [pf_P hl]; rfl
     · rfl
   · rfl
 · rfl
theorem P_nil : P [] = none := rfl
def Ft.fo : Ft → Fo
 | .leaf c => .node (c.toNat : Int) .nil .nil (tx [c])
 | .neg a => .node 126 a.fo .nil (tx (Ft.neg a).txt)
 | .bin op a b => .node (op.toNat : Int) a.fo b.fo (tx (Ft.bin op a b).txt)
end Go.PF
namespace Go.PF
open Go.Pu
section
variable {α : Type}
structure STO (lt : α → α → Bool) : Prop where
 irr : ∀ a, lt a a = false
 tr : ∀ a b c, lt a b = true → lt b c = true → lt a c = true
 tot : ∀ a b, lt a b = false → lt b a = false → a = b
variable {lt : α → α → Bool}
theorem STO.asym (h : STO lt) {a b : α} (h1 : lt a b = true) : lt b a = false := by
 cases hb : lt b a with
 | false => rfl
 | true => have := h.tr _ _ _ h1 hb; rw [h.irr] at this; cases this
def SS (lt : α → α → Bool) (l : List α) : Prop := l.Pairwise fun a b => lt a b = true
theorem SS.nil : SS lt [] := List.Pairwise.nil
theorem SS.cons {a : α} {l : List α} : SS lt (a :: l) ↔ (∀ b ∈ l, lt a b = true) ∧ SS lt l := List.pairwise_cons
theorem SS.ext (hs : STO lt) : ∀ {l m : List α}, SS lt l → SS lt m → (∀ x, x ∈ l ↔ x ∈ m) → l = m
 | [], [], _, _, _ => rfl
 | [], b :: m, _, _, h => absurd ((h b).2 (by simp)) (by simp)
 | a :: l, [], _, _, h => absurd ((h a).1 (by simp)) (by simp)
 | a :: l, b :: m, h1, h2, h => by
  have h1' := SS.cons.1 h1
  have h2' := SS.cons.1 h2
  have hab : a = b := by
   rcases List.mem_cons.1 ((h a).1 (by simp)) with e | e
   · exact e
   rcases List.mem_cons.1 ((h b).2 (by simp)) with e' | e'
   · exact e'.symm
   have := hs.asym (h1'.1 b e'); rw [h2'.1 a e] at this; cases this
  subst hab
  rw [SS.ext hs h1'.2 h2'.2 fun x => ?_]
  constructor
  · intro hx
    rcases List.mem_cons.1 ((h x).1 (by simp [hx])) with e | e
    · subst e; have := h1'.1 _ hx; rw [hs.irr] at this; cases this
    · exact e
  · intro hx
    rcases List.mem_cons.1 ((h x).2 (by simp [hx])) with e | e
    · subst e; have := h2'.1 _ hx; rw [hs.irr] at this; cases this
    · exact e
theorem SS.filter {l : List α} (h : SS lt l) (p : α → Bool) : SS lt (l.filter p) := List.Pairwise.filter p h
def insO (lt : α → α → Bool) (x : α) : List α → List α
 | [] => [x]
 | y :: l => if lt y x then y :: insO lt x l else if lt x y then x :: y :: l else y :: l
theorem mem_insO (hs : STO lt) {x z : α} : ∀ {l : List α}, z ∈ insO lt x l ↔ z = x ∨ z ∈ l
 | [] => by simp [insO]
 | y :: l => by
  simp only [insO]
  split
  · simp only [List.mem_cons, mem_insO hs]
    constructor <;> (rintro (h | h | h) <;> simp [h])
  split
  · simp
  · rename_i h1 h2
    have : x = y := hs.tot _ _ (by simpa using h2) (by simpa using h1)
    subst this
    simp only [List.mem_cons]
    constructor
    · exact Or.inr
    · rintro (h | h)
      · exact .inl h
      · exact h
theorem SS_insO (hs : STO lt) {x : α} : ∀ {l : List α}, SS lt l → SS lt (insO lt x l)
 | [], _ => by simp [insO, SS]
 | y :: l, h => by
  have h' := SS.cons.1 h
  simp only [insO]
  split
  · rename_i h1
    refine SS.cons.2 ⟨fun b hb => ?_, SS_insO hs h'.2⟩
    rcases (mem_insO hs).1 hb with rfl | hb
    · exact h1
    · exact h'.1 b hb
  split
  · rename_i h1 h2
    refine SS.cons.2 ⟨fun b hb => ?_, h⟩
    rcases List.mem_cons.1 hb with rfl | hb
    · exact h2
    · exact hs.tr _ _ _ h2 (h'.1 b hb)
  · exact h
def setO (lt : α → α → Bool) (l : List α) : List α := l.foldr (insO lt) []
theorem mem_setO (hs : STO lt) {z : α} {l : List α} : z ∈ setO lt l ↔ z ∈ l := by
 induction l with
 | nil => simp [setO]
 | cons a l ih => simp only [setO, List.foldr_cons, List.mem_cons] at ih ⊢; rw [mem_insO hs, ih]
theorem SS_setO (hs : STO lt) {l : List α} : SS lt (setO lt l) := by
 induction l with
 | nil => exact SS.nil
 | cons a l ih => exact SS_insO hs ih
theorem insO_eq (hs : STO lt) {x : α} {l : List α} (h : SS lt l) : insO lt x l = setO lt (x :: l) := SS.ext hs (SS_insO hs h) (SS_setO hs) fun z => by rw [mem_insO hs, mem_setO hs, List.mem_cons]
theorem setO_ext (hs : STO lt) {l m : List α} (h : ∀ x, x ∈ l ↔ x ∈ m) : setO lt l = setO lt m := SS.ext hs (SS_setO hs) (SS_setO hs) fun z => by rw [mem_setO hs, mem_setO hs, h]
theorem mem_compactL [DecidableEq α] {z : α} : ∀ {l : List α}, z ∈ compactL l ↔ z ∈ l
 | [] => by simp [compactL]
 | [x] => by simp [compactL]
 | x :: y :: l => by
  have ih := mem_compactL (z := z) (l := y :: l)
  by_cases h : x = y
  · simp only [compactL, h, if_true, ih, List.mem_cons]
    constructor
    · rintro (h | h) <;> simp [h]
    · rintro (h | h | h) <;> simp [h]
  · simp only [compactL, h, if_false, List.mem_cons]
    rw [ih]; simp
theorem SS_compactL [DecidableEq α] (hs : STO lt) : ∀ {l : List α}, l.Pairwise (fun a b => lt b a = false) → SS lt (compactL l)
 | [], _ => SS.nil
 | [x], _ => by simp [compactL, SS]
 | x :: y :: l, h => by
  have h' := List.pairwise_cons.1 h
  have ih := SS_compactL hs (l := y :: l) h'.2
  by_cases he : x = y
  · simp only [compactL, he, if_true]; exact ih
  · simp only [compactL, he, if_false]
    refine SS.cons.2 ⟨fun b hb => ?_, ih⟩
    have hxy : lt x y = true := by
     cases hq : lt x y with
     | true => rfl
     | false => exact absurd (hs.tot _ _ hq (h'.1 y (by simp))) he
    rcases List.mem_cons.1 (mem_compactL.1 hb) with rfl | hb'
    · exact hxy
    · have h2 := (List.pairwise_cons.1 h'.2).1 b hb'
      cases hq : lt y b with
      | true => exact hs.tr _ _ _ hxy hq
      | false => rw [← hs.tot _ _ hq h2]; exact hxy
theorem compact_set [DecidableEq α] (hs : STO lt) {l m : List α} (h : l.Pairwise (fun a b => lt b a = false)) (hm : ∀ x, x ∈ l ↔ x ∈ m) : compactL l = setO lt m :=
 SS.ext hs (SS_compactL hs h) (SS_setO hs) fun z => by rw [mem_compactL, mem_setO hs, hm]
end
theorem ltB_irr : ∀ a : List UInt8, ltB a a = false
 | [] => rfl
 | x :: a => by simp [ltB, ltB_irr a]
theorem ltB_tr : ∀ {a b c : List UInt8}, ltB a b = true → ltB b c = true → ltB a c = true
 | [], [], _, h, _ => by cases h
 | _ :: _, [], _, h, _ => by cases h
 | _, _ :: _, [], _, h => by cases h
 | [], _ :: _, _ :: _, _, _ => rfl
 | x :: a, y :: b, z :: c, h1, h2 => by
  simp only [ltB, Bool.or_eq_true, decide_eq_true_eq, Bool.and_eq_true, beq_iff_eq] at *
  rcases h1 with h1 | ⟨rfl, h1⟩ <;> rcases h2 with h2 | ⟨rfl, h2⟩
  · exact .inl (UInt8.lt_trans h1 h2)
  · exact .inl h1
  · exact .inl h2
  · exact .inr ⟨rfl, ltB_tr h1 h2⟩
theorem ltB_tot : ∀ {a b : List UInt8}, ltB a b = false → ltB b a = false → a = b
 | [], [], _, _ => rfl
 | [], _ :: _, h, _ => by cases h
 | _ :: _, [], _, h => by cases h
 | x :: a, y :: b, h1, h2 => by
  simp only [ltB, Bool.or_eq_false_iff, decide_eq_false_iff_not, Bool.and_eq_false_iff, beq_eq_false_iff_ne] at *
  have e : x = y := UInt8.le_antisymm (UInt8.not_lt.1 h2.1) (UInt8.not_lt.1 h1.1)
  subst e
  have h3 : ltB a b = false := h1.2.resolve_left (fun h => h rfl)
  have h4 : ltB b a = false := h2.2.resolve_left (fun h => h rfl)
  rw [ltB_tot h3 h4]
end Go.PF
namespace Go.PF
open Go.Pu
theorem bs_at {s : ByteArray} {k : Nat} : (bs s)[k]? = s.data[k]? := by unfold bs; rw [Array.getElem?_toList]
theorem ixS_at {s : ByteArray} {k : Nat} {c : UInt8} (h : (bs s)[k]? = some c) : ixS s (k : Int) = some (c.toNat : Int) := by
 unfold ixS; rw [if_pos (by omega), ← bs_at]; simp [h]
theorem toList_bs (s : ByteArray) : s.toList = bs s := by
 have key : ∀ (n i : Nat) (r : List UInt8), s.size - i = n → ByteArray.toList.loop s i r = r.reverse ++ (bs s).drop i := by
  intro n
  induction n with
  | zero =>
   intro i r h
   unfold ByteArray.toList.loop
   rw [if_neg (by omega), List.drop_eq_nil_of_le (by rw [bs_len]; omega), List.append_nil]
  | succ n ih =>
   intro i r h
   unfold ByteArray.toList.loop
   rw [if_pos (by omega), ih (i + 1) _ (by omega)]
   have hi : i < (bs s).length := by rw [bs_len]; omega
   rw [List.drop_eq_getElem_cons hi, List.reverse_cons, List.append_assoc]
   congr 1
   have : s.get! i = (bs s)[i] := by
    unfold bs ByteArray.get!
    simp
    have hs : i < s.data.size := by have := bs_len s; rw [bs_len] at hi; exact hi
    rw [getElem!_pos s.data i hs]
    exact (Array.getElem_toList _).symm
   rw [this]; rfl
 unfold ByteArray.toList
 rw [key _ 0 [] rfl]; simp
theorem eqS (a b : ByteArray) : (a.toList == b.toList) = decide (a = b) := by
 rw [toList_bs, toList_bs]
 by_cases h : a = b
 · subst h; simp
 · have : bs a ≠ bs b := fun e => h (bs_ext e)
   simp [h, this]
theorem u8i {c d : UInt8} : ((c.toNat : Int) == (d.toNat : Int)) = (c == d) := by
 by_cases h : c = d
 · subst h; simp
 · have : c.toNat ≠ d.toNat := fun e => h (UInt8.toNat_inj.1 e)
   rw [beq_eq_false_iff_ne.2 h, beq_eq_false_iff_ne.2 (by omega)]
theorem c48 (c : UInt8) : ((c.toNat : Int) == 48) = (c == 48) := u8i (d := 48)
theorem c49 (c : UInt8) : ((c.toNat : Int) == 49) = (c == 49) := u8i (d := 49)
theorem c126 (c : UInt8) : ((c.toNat : Int) == 126) = (c == 126) := u8i (d := 126)
theorem c40 (c : UInt8) : ((c.toNat : Int) == 40) = (c == 40) := u8i (d := 40)
theorem c41 (c : UInt8) : ((c.toNat : Int) == 41) = (c == 41) := u8i (d := 41)
theorem c38 (c : UInt8) : ((c.toNat : Int) == 38) = (c == 38) := u8i (d := 38)
theorem c124 (c : UInt8) : ((c.toNat : Int) == 124) = (c == 124) := u8i (d := 124)
theorem c62 (c : UInt8) : ((c.toNat : Int) == 62) = (c == 62) := u8i (d := 62)
theorem cge (c : UInt8) : decide (97 ≤ (c.toNat : Int)) = decide (97 ≤ c) := by
 have : (97 ≤ c) ↔ 97 ≤ c.toNat := UInt8.le_iff_toNat_le
 simp only [this]; exact decide_eq_decide.2 (by omega)
theorem cle (c : UInt8) : decide ((c.toNat : Int) ≤ 102) = decide (c ≤ 102) := by
 have : (c ≤ 102) ↔ c.toNat ≤ 102 := UInt8.le_iff_toNat_le
 simp only [this]; exact decide_eq_decide.2 (by omega)
theorem clt (c : UInt8) : decide ((c.toNat : Int) < 103) = decide (c ≤ 102) := by
 have : (c ≤ 102) ↔ c.toNat ≤ 102 := UInt8.le_iff_toNat_le
 simp only [this]; exact decide_eq_decide.2 (by omega)
theorem isLf_spec (c : UInt8) : isLf c = ((c == 48) || (c == 49) || (decide (97 ≤ c) && decide (c ≤ 102))) := by
 unfold isLf
 cases decide (97 ≤ c) <;> cases decide (c ≤ 102) <;> cases (c == 48) <;> cases (c == 49) <;> rfl
def endV (s : ByteArray) (k : Nat) : Int := match P ((bs s).drop k) with
 | some (t, _) => ((k + t.txt.length : Nat) : Int)
 | none => -1
theorem P_rest {l : List UInt8} {t : Ft} {r : List UInt8} (h : P l = some (t, r)) : r = l.drop t.txt.length := by
 rw [(P_some.1 h).1]; simp
theorem P_drop {s : ByteArray} {k : Nat} {t : Ft} {r : List UInt8} (h : P ((bs s).drop k) = some (t, r)) : r = (bs s).drop (k + t.txt.length) ∧ k + t.txt.length ≤ s.size := by
 have h1 := P_rest h
 have h2 := congrArg List.length (P_some.1 h).1
 have h3 := List.length_pos_iff.2 t.txt_ne
 rw [List.length_drop, List.length_append, bs_len] at h2
 rw [List.drop_drop] at h1
 exact ⟨h1, by omega⟩
theorem wr_k {k : Nat} (h : k ≤ 1000000) : wr ((k : Int) + 1) = ((k + 1 : Nat) : Int) := by rw [wr_of _ (by omega) (by omega)]; rfl
theorem spec_l22End_F_eq (s : ByteArray) (hs : s.size ≤ 1000) : ∀ (n k : Nat), s.size - k < n → spec_l22End_F n s (k : Int) = some (endV s k)
 | 0, _, h => by omega
 | n + 1, k, h => by
  show spec_l22End_B (spec_l22End_F n) s (k : Int) = _
  unfold spec_l22End_B
  by_cases hk : s.size ≤ k
  · rw [bifT (by simp; omega)]
    unfold endV
    rw [List.drop_eq_nil_of_le (by rw [bs_len]; exact hk), P_nil]
  · rw [bifF (by simp; omega)]
    have hkl : k < (bs s).length := by rw [bs_len]; omega
    obtain ⟨c, hc⟩ : ∃ c, (bs s)[k]? = some c := ⟨_, List.getElem?_eq_getElem hkl⟩
    have hd : (bs s).drop k = c :: (bs s).drop (k + 1) := by
     rw [List.drop_eq_getElem_cons hkl]; congr 1
     rw [List.getElem?_eq_getElem hkl] at hc; exact Option.some.inj hc
    have hi := ixS_at hc
    simp only [hi, bd_some, c48, c49, c126, c40, cge, cle]
    have hP : endV s k = match P (c :: (bs s).drop (k + 1)) with | some (t, _) => ((k + t.txt.length : Nat) : Int) | none => -1 := by unfold endV; rw [hd]
    rw [hP, P_cons]
    have e1 : (bd (bif c == 48 then some true else some (c == 49)) fun t26 => bd (bif t26 then some true else bd (bif decide (97 ≤ c) then some (decide (c ≤ 102)) else some false) fun t66 => some t66) fun t55 => (some t55 : Option Bool)) = some (isLf c) := by
     rw [isLf_spec]
     cases decide (97 ≤ c) <;> cases decide (c ≤ 102) <;> cases (c == 48) <;> cases (c == 49) <;> rfl
    have step : ∀ {B : Type} (K : Bool → Option B), (bd (bif c == 48 then some true else some (c == 49)) fun t26 => bd (bif t26 then some true else bd (bif decide (97 ≤ c) then some (decide (c ≤ 102)) else some false) fun t66 => some t66) K) = K (isLf c) := by
     intro B K
     rw [isLf_spec]
     cases decide (97 ≤ c) <;> cases decide (c ≤ 102) <;> cases (c == 48) <;> cases (c == 49) <;> rfl
    rw [step]
    by_cases hl : isLf c = true
    · rw [hl, cond_true, if_pos rfl, wr_k (by omega)]; rfl
    · rw [Bool.not_eq_true] at hl
      rw [hl, cond_false, if_neg (by simp)]
      by_cases h126 : c = 126
      · subst h126
        rw [if_pos rfl]
        simp only [beq_self_eq_true, cond_true]
        rw [wr_k (by omega), spec_l22End_F_eq s hs n (k + 1) (by omega), bd_some]
        unfold endV
        cases P ((bs s).drop (k + 1)) with
        | none => rfl
        | some z =>
         obtain ⟨a, r⟩ := z
         show some ((k + 1 + a.txt.length : Nat) : Int) = some ((k + (126 :: a.txt).length : Nat) : Int)
         rw [List.length_cons, show k + 1 + a.txt.length = k + (a.txt.length + 1) by omega]
      · rw [if_neg h126, beq_eq_false_iff_ne.2 h126, cond_false]
        by_cases h40 : c = 40
        · subst h40
          rw [if_pos rfl]
          simp only [beq_self_eq_true, Bool.not_true, cond_false]
          rw [wr_k (by omega), spec_l22End_F_eq s hs n (k + 1) (by omega), bd_some]
          cases hp : P ((bs s).drop (k + 1)) with
          | none =>
           have : endV s (k + 1) = -1 := by unfold endV; rw [hp]
           rw [this]; rfl
          | some z =>
           obtain ⟨a, r⟩ := z
           have ev : endV s (k + 1) = ((k + 1 + a.txt.length : Nat) : Int) := by unfold endV; rw [hp]
           obtain ⟨hr, hle⟩ := P_drop hp
           rw [ev]
           generalize hm : k + 1 + a.txt.length = m at hr hle
           rw [bifF (show decide ((m : Int) < 0) = false by simp)]
           by_cases hms : s.size ≤ m
           · rw [bifT (show decide ((s.size : Int) ≤ (m : Int)) = true by simp; omega), bd_some, cond_true]
             rw [hr, List.drop_eq_nil_of_le (by rw [bs_len]; exact hms)]
           · rw [bifF (show decide ((s.size : Int) ≤ (m : Int)) = false by simp; omega)]
             have hml : m < (bs s).length := by rw [bs_len]; omega
             obtain ⟨o, ho⟩ : ∃ o, (bs s)[m]? = some o := ⟨_, List.getElem?_eq_getElem hml⟩
             have hdm : (bs s).drop m = o :: (bs s).drop (m + 1) := by
              rw [List.drop_eq_getElem_cons hml]; congr 1
              rw [List.getElem?_eq_getElem hml] at ho; exact Option.some.inj ho
             have him := ixS_at ho
             simp only [him, bd_some, c38, c124, c62]
             rw [hr, hdm]
             have stp : ∀ {B : Type} (K : Bool → Option B), (bd (bif !(o == 38) then some (!(o == 124)) else some false) fun t152 => bd (bif t152 then some (!(o == 62)) else some false) K) = K (!isOp o) := by
              intro B K
              unfold isOp
              cases (o == 38) <;> cases (o == 124) <;> cases (o == 62) <;> rfl
             have stp2 : (bd (bif !(o == 38) then some (!(o == 124)) else some false) fun t152 => bd (bif t152 then some (!(o == 62)) else some false) fun t167 => some t167) = some (!isOp o) := stp _
             rw [stp2, bd_some]
             dsimp only
             by_cases hop : isOp o = true
             · rw [hop, Bool.not_true, cond_false, if_pos rfl, wr_k (by omega), spec_l22End_F_eq s hs n (m + 1) (by omega), bd_some]
               cases hq : P ((bs s).drop (m + 1)) with
               | none =>
                have : endV s (m + 1) = -1 := by unfold endV; rw [hq]
                rw [this]; rfl
               | some z =>
                obtain ⟨b, r3⟩ := z
                have ev2 : endV s (m + 1) = ((m + 1 + b.txt.length : Nat) : Int) := by unfold endV; rw [hq]
                obtain ⟨hr3, hle3⟩ := P_drop hq
                rw [ev2]
                generalize hj : m + 1 + b.txt.length = j at hr3 hle3
                rw [bifF (show decide ((j : Int) < 0) = false by simp)]
                by_cases hjs : s.size ≤ j
                · rw [bifT (show decide ((s.size : Int) ≤ (j : Int)) = true by simp; omega), bd_some, cond_true]
                  rw [hr3, List.drop_eq_nil_of_le (by rw [bs_len]; exact hjs)]
                · rw [bifF (show decide ((s.size : Int) ≤ (j : Int)) = false by simp; omega)]
                  have hjl : j < (bs s).length := by rw [bs_len]; omega
                  obtain ⟨d, hd'⟩ : ∃ d, (bs s)[j]? = some d := ⟨_, List.getElem?_eq_getElem hjl⟩
                  have hdj : (bs s).drop j = d :: (bs s).drop (j + 1) := by
                   rw [List.drop_eq_getElem_cons hjl]; congr 1
                   rw [List.getElem?_eq_getElem hjl] at hd'; exact Option.some.inj hd'
                  have hij := ixS_at hd'
                  simp only [hij, bd_some, c41]
                  rw [hr3, hdj]
                  dsimp only
                  by_cases h41 : d = 41
                  · subst h41
                    rw [if_pos rfl, wr_k (by omega)]
                    show some ((j + 1 : Nat) : Int) = some ((k + (Ft.bin o a b).txt.length : Nat) : Int)
                    have : j + 1 = k + (Ft.bin o a b).txt.length := by
                     simp only [Ft.txt, List.length_cons, List.length_append, List.length_nil]; omega
                    rw [this]
                  · rw [if_neg h41, beq_eq_false_iff_ne.2 h41]; rfl
             · rw [Bool.not_eq_true] at hop
               rw [hop, Bool.not_false, cond_true, if_neg (by simp)]
        · rw [if_neg h40, beq_eq_false_iff_ne.2 h40]; rfl
theorem spec_l22End_eq {s : ByteArray} (hs : s.size ≤ 1000) (k : Nat) : spec_l22End s (k : Int) = some (endV s k) := by
 unfold spec_l22End
 exact spec_l22End_F_eq s hs _ _ (by rw [deep_eq]; omega)
def goodB (s : ByteArray) : Bool := decide (s.size ≤ 80) && (F? (bs s)).isSome
theorem spec_l22Good_eq (s : ByteArray) : spec_l22Good s = some (goodB s) := by
 unfold spec_l22Good goodB
 by_cases h0 : 0 < s.size
 · rw [bifT (decide_eq_true (show 0 < (s.size : Int) by omega))]
   by_cases h80 : s.size ≤ 80
   · rw [bifT (show decide ((s.size : Int) ≤ 80) = true by simp; omega)]
     have := spec_l22End_eq (s := s) (by omega) 0
     rw [show ((0 : Nat) : Int) = 0 from rfl] at this
     rw [this, bd_some, bd_some]
     rw [show decide (s.size ≤ 80) = true by simp [h80], Bool.true_and]
     congr 1
     unfold endV F?
     rw [List.drop_zero]
     cases hp : P (bs s) with
     | none =>
      show ((-1 : Int) == (s.size : Int)) = false
      rw [beq_eq_false_iff_ne]; omega
     | some z =>
      obtain ⟨t, r⟩ := z
      have h1 := congrArg List.length (P_some.1 hp).1
      rw [List.length_append, bs_len] at h1
      cases r with
      | nil =>
       show (((0 + t.txt.length : Nat) : Int) == (s.size : Int)) = true
       rw [List.length_nil] at h1
       rw [beq_iff_eq]; omega
      | cons x r =>
       show (((0 + t.txt.length : Nat) : Int) == (s.size : Int)) = false
       rw [List.length_cons] at h1
       rw [beq_eq_false_iff_ne]; omega
   · rw [bifF (show decide ((s.size : Int) ≤ 80) = false by simp; omega)]
     simp [h80]
 · rw [bifF (decide_eq_false (show ¬ (0 < (s.size : Int)) by omega))]
   have e : bs s = [] := List.eq_nil_of_length_eq_zero (by rw [bs_len]; omega)
   rw [e, show F? [] = none from rfl]
   simp
end Go.PF
namespace Go.PF
open Go.Pu
theorem cutS_ok {s : ByteArray} {a b : Nat} (h1 : a ≤ b) (h2 : b ≤ s.size) : cutS s (a : Int) (b : Int) = some (tx (((bs s).take b).drop a)) := by
 unfold cutS
 rw [if_pos (by omega)]
 congr 1
 apply bs_ext
 rw [bs_tx, bs_cut]; simp
theorem catS_ok {a b : ByteArray} (h : a.size + b.size ≤ 1000000000) : catS a b = some (a ++ b) := by unfold catS; rw [if_pos (by omega)]
theorem emp_tx : (ByteArray.mk #[]) = tx [] := rfl
theorem chrS_ok {c : UInt8} (h : c < 128) : chrS (c.toNat : Int) = some (tx [c]) := by
 have h' : c.toNat < 128 := h
 unfold chrS
 rw [if_pos (by omega)]
 congr 1
 apply bs_ext
 rw [bs_tx]
 show [UInt8.ofNat ((c.toNat : Int)).toNat] = [c]
 simp
theorem isLf_128 {c : UInt8} (h : isLf c = true) : c < 128 := by
 show c.toNat < 128
 rw [isLf_spec] at h
 simp only [Bool.or_eq_true, Bool.and_eq_true, decide_eq_true_eq, beq_iff_eq] at h
 rcases h with (rfl | rfl) | ⟨_, h⟩
 · decide
 · decide
 · have : c.toNat ≤ 102 := UInt8.le_iff_toNat_le.1 h
   omega
theorem isOp_128 {c : UInt8} (h : isOp c = true) : c < 128 := by
 unfold isOp at h
 simp only [Bool.or_eq_true, beq_iff_eq] at h
 rcases h with (rfl | rfl) | rfl <;> decide
theorem fo_get (t : Ft) : ∃ n, t.fo.get = some n ∧ n.text = tx t.txt ∧ n.fo = t.fo := by
 cases t with
 | leaf c => exact ⟨_, rfl, rfl, rfl⟩
 | neg a => exact ⟨_, rfl, rfl, rfl⟩
 | bin op a b => exact ⟨_, rfl, rfl, rfl⟩
theorem impl_leaf_eq {c : UInt8} (h : isLf c = true) : impl_leaf (c.toNat : Int) = some (Ft.leaf c).fo := by
 unfold impl_leaf
 rw [chrS_ok (isLf_128 h)]; rfl
theorem impl_not_eq {a : Ft} (h : a.txt.length ≤ 1000000) : impl_not a.fo = some (Ft.neg a).fo := by
 obtain ⟨n, h1, h2, _⟩ := fo_get a
 unfold impl_not
 rw [h1, bd_some, h2, catS_ok (by rw [tx_size]; show 1 + _ ≤ _; omega), bd_some]
 have e : ByteArray.mk #[126] ++ tx a.txt = tx (126 :: a.txt) := bs_ext (by rw [bs_app, bs_tx, bs_tx]; rfl)
 rw [e]; rfl
theorem impl_join_eq {o : UInt8} {a b : Ft} (ho : isOp o = true) (h : (Ft.bin o a b).txt.length ≤ 1000000) : impl_join (o.toNat : Int) a.fo b.fo = some (Ft.bin o a b).fo := by
 obtain ⟨n, h1, h2, _⟩ := fo_get a
 obtain ⟨m, h3, h4, _⟩ := fo_get b
 simp only [Ft.txt, List.length_cons, List.length_append, List.length_nil] at h
 have s1 : (ByteArray.mk #[40]).size = 1 := rfl
 have s2 : (ByteArray.mk #[41]).size = 1 := rfl
 unfold impl_join
 rw [h1, bd_some, h2, catS_ok (by rw [tx_size, s1]; omega), bd_some, chrS_ok (isOp_128 ho), bd_some, catS_ok (by rw [ByteArray.size_append, tx_size, tx_size, s1]; simp only [List.length_cons, List.length_nil]; omega), bd_some, h3, bd_some, h4,
  catS_ok (by rw [ByteArray.size_append, ByteArray.size_append, tx_size, tx_size, tx_size, s1]; simp only [List.length_cons, List.length_nil]; omega), bd_some,
  catS_ok (by rw [ByteArray.size_append, ByteArray.size_append, ByteArray.size_append, tx_size, tx_size, tx_size, s1, s2]; simp only [List.length_cons, List.length_nil]; omega), bd_some]
 have e : ByteArray.mk #[40] ++ tx a.txt ++ tx [o] ++ tx b.txt ++ ByteArray.mk #[41] = tx (Ft.bin o a b).txt := by
  apply bs_ext
  rw [bs_app, bs_app, bs_app, bs_app, bs_tx, bs_tx, bs_tx, bs_tx]
  simp [Ft.txt, bs]
 rw [e]; rfl
theorem isLetter_eq (c : UInt8) : impl_isLetter (c.toNat : Int) = (decide (97 ≤ c) && decide (c ≤ 102)) := by
 unfold impl_isLetter
 rw [cge, clt]
 cases decide (97 ≤ c) <;> rfl
theorem hasS_op (o : UInt8) : strings_Contains (ByteArray.mk #[38, 124, 62]) (tx [o]) = some (isOp o) := by
 unfold strings_Contains hasS
 have : (tx [o]).data.toList = [o] := bs_tx [o]
 rw [this]
 show some (decide (0 ≤ Go.Lib.indexByte [38, 124, 62] o)) = _
 congr 1
 revert o
 have key : ((List.range 256).all fun n => decide (0 ≤ Go.Lib.indexByte [38, 124, 62] (UInt8.ofNat n)) == isOp (UInt8.ofNat n)) = true := by decide +kernel
 intro o _
 have := List.all_eq_true.1 key o.toNat (List.mem_range.2 o.toNat_lt)
 rw [beq_iff_eq] at this
 simpa using this
def fromV (s : ByteArray) : Fo × ByteArray × Bool := match P (bs s) with
 | some (t, r) => (t.fo, tx r, true)
 | none => (.nil, tx [], false)
theorem isEmp (s : ByteArray) : (s.toList == (ByteArray.mk #[]).toList) = (bs s).isEmpty := by
 rw [toList_bs, toList_bs, show bs (ByteArray.mk #[]) = [] from rfl]
 cases bs s <;> rfl
theorem impl_parseFrom_F_eq : ∀ (n : Nat) (s : ByteArray), s.size < n → s.size ≤ 100000 → impl_parseFrom_F n s = some (fromV s)
 | 0, _, h, _ => by omega
 | n + 1, s, h, hs => by
  show impl_parseFrom_B (impl_parseFrom_F n) s = _
  unfold impl_parseFrom_B fromV
  rw [isEmp]
  cases hb : bs s with
  | nil => rfl
  | cons c r =>
   have hsz := bs_len s
   rw [hb, List.length_cons] at hsz
   have hi : ixS s 0 = some (c.toNat : Int) := ixS_at (k := 0) (by rw [hb]; rfl)
   have hc : cutS s 1 (s.size : Int) = some (tx r) := by
    have := cutS_ok (s := s) (a := 1) (b := s.size) (by omega) (by omega)
    rw [show ((1 : Nat) : Int) = 1 from rfl] at this
    rw [this, hb]
    congr 2
    rw [← hsz]; simp
   have rl : (tx r).size = r.length := tx_size r
   rw [show (c :: r).isEmpty = false from rfl, cond_false, hi, bd_some, hc, bd_some]
   simp only [isLetter_eq, c48, c49, c126, c40]
   rw [P_cons]
   have e1 : (bif (bif (decide (97 ≤ c) && decide (c ≤ 102)) then true else (c == 48)) then true else (c == 49)) = isLf c := by
    rw [isLf_spec]
    cases decide (97 ≤ c) <;> cases decide (c ≤ 102) <;> cases (c == 48) <;> cases (c == 49) <;> rfl
   rw [e1]
   by_cases hl : isLf c = true
   · rw [hl, cond_true, if_pos rfl, impl_leaf_eq hl]; rfl
   · rw [Bool.not_eq_true] at hl
     rw [hl, cond_false, if_neg (by simp)]
     have ih : impl_parseFrom_F n (tx r) = some (fromV (tx r)) := impl_parseFrom_F_eq n (tx r) (by omega) (by omega)
     rw [ih, bd_some]
     by_cases h126 : c = 126
     · subst h126
       rw [if_pos rfl]
       simp only [beq_self_eq_true, cond_true]
       unfold fromV
       rw [bs_tx]
       cases hp : P r with
       | none => rfl
       | some z =>
        obtain ⟨a, r'⟩ := z
        have h1 := congrArg List.length (P_some.1 hp).1
        rw [List.length_append] at h1
        show bd (impl_not a.fo) (fun r72 => some (r72, tx r', true)) = _
        rw [impl_not_eq (by omega)]; rfl
     · rw [if_neg h126, beq_eq_false_iff_ne.2 h126, cond_false]
       by_cases h40 : c = 40
       · subst h40
         rw [if_pos rfl]
         simp only [beq_self_eq_true, Bool.not_true, cond_false]
         unfold fromV
         rw [bs_tx, bd_some]
         cases hp : P r with
         | none => rfl
         | some z =>
          obtain ⟨a, r1⟩ := z
          have l1 := congrArg List.length (P_some.1 hp).1
          rw [List.length_append] at l1
          dsimp only
          rw [Bool.not_true, isEmp, bs_tx]
          cases r1 with
          | nil => rfl
          | cons o r2 =>
           have t1 : (tx (o :: r2)).size = r2.length + 1 := tx_size _
           have c01 : cutS (tx (o :: r2)) 0 1 = some (tx [o]) := by
            have := cutS_ok (s := tx (o :: r2)) (a := 0) (b := 1) (by omega) (by omega)
            rw [show ((0 : Nat) : Int) = 0 from rfl, show ((1 : Nat) : Int) = 1 from rfl] at this
            rw [this, bs_tx]; rfl
           have c1e : cutS (tx (o :: r2)) 1 ((tx (o :: r2)).size : Int) = some (tx r2) := by
            have := cutS_ok (s := tx (o :: r2)) (a := 1) (b := (tx (o :: r2)).size) (by omega) (by omega)
            rw [show ((1 : Nat) : Int) = 1 from rfl] at this
            rw [this, bs_tx, t1]; simp
           have io : ixS (tx (o :: r2)) 0 = some (o.toNat : Int) := ixS_at (k := 0) (by rw [bs_tx]; rfl)
           rw [show (o :: r2).isEmpty = false from rfl, cond_false, cond_false, c01, bd_some, hasS_op, bd_some, bd_some, io, bd_some, c1e, bd_some]
           dsimp only
           by_cases hop : isOp o = true
           · have l2 : r2.length < s.size := by simp only [List.length_cons] at l1; omega
             have ih2 : impl_parseFrom_F n (tx r2) = some (fromV (tx r2)) := impl_parseFrom_F_eq n (tx r2) (by rw [tx_size]; simp only [List.length_cons] at l1; omega) (by rw [tx_size]; omega)
             rw [hop, Bool.not_true, cond_false, if_pos rfl, ih2, bd_some]
             unfold fromV
             rw [bs_tx]
             cases hq : P r2 with
             | none => rfl
             | some z =>
              obtain ⟨b, r3⟩ := z
              have l3 := congrArg List.length (P_some.1 hq).1
              rw [List.length_append] at l3
              dsimp only
              rw [Bool.not_true, isEmp, bs_tx]
              cases r3 with
              | nil => rfl
              | cons d r4 =>
               have t3 : (tx (d :: r4)).size = r4.length + 1 := tx_size _
               have io3 : ixS (tx (d :: r4)) 0 = some (d.toNat : Int) := ixS_at (k := 0) (by rw [bs_tx]; rfl)
               have c3e : cutS (tx (d :: r4)) 1 ((tx (d :: r4)).size : Int) = some (tx r4) := by
                have := cutS_ok (s := tx (d :: r4)) (a := 1) (b := (tx (d :: r4)).size) (by omega) (by omega)
                rw [show ((1 : Nat) : Int) = 1 from rfl] at this
                rw [this, bs_tx, t3]; simp
               rw [show (d :: r4).isEmpty = false from rfl, cond_false, cond_false, io3, bd_some, bd_some, c41]
               dsimp only
               by_cases h41 : d = 41
               · subst h41
                 rw [if_pos rfl]
                 simp only [beq_self_eq_true, Bool.not_true, cond_false]
                 rw [impl_join_eq hop (by simp only [Ft.txt, List.length_cons, List.length_append, List.length_nil] at *; omega), bd_some, c3e]; rfl
               · rw [if_neg h41, beq_eq_false_iff_ne.2 h41]; rfl
           · rw [Bool.not_eq_true] at hop
             rw [hop, Bool.not_false, cond_true, if_neg (by simp)]; rfl
       · rw [if_neg h40, beq_eq_false_iff_ne.2 h40]; rfl
theorem impl_parse_eq (s : ByteArray) : impl_parse s = some (match F? (bs s) with | some t => if s.size ≤ 80 then (t.fo, true) else (.nil, false) | none => (.nil, false)) := by
 unfold impl_parse
 by_cases h80 : s.size ≤ 80
 · rw [bifF (show decide (80 < (s.size : Int)) = false by simp; omega)]
   unfold impl_parseFrom
   rw [impl_parseFrom_F_eq deep s (by rw [deep_eq]; omega) (by omega), bd_some]
   unfold fromV F?
   cases hp : P (bs s) with
   | none => rfl
   | some z =>
    obtain ⟨t, r⟩ := z
    dsimp only
    rw [Bool.not_true, isEmp, bs_tx]
    cases r with
    | nil => simp [h80]
    | cons x r => simp
 · rw [bifT (show decide (80 < (s.size : Int)) = true by simp; omega)]
   cases F? (bs s) <;> simp [h80]
theorem good_iff {s : ByteArray} : goodB s = true ↔ ∃ t, F? (bs s) = some t ∧ s.size ≤ 80 := by
 unfold goodB
 rw [Bool.and_eq_true, decide_eq_true_iff, Option.isSome_iff_exists]
 constructor
 · rintro ⟨h1, t, h2⟩; exact ⟨t, h2, h1⟩
 · rintro ⟨t, h2, h1⟩; exact ⟨h1, t, h2⟩
theorem impl_parse_good {s : ByteArray} {t : Ft} (h : F? (bs s) = some t) (h80 : s.size ≤ 80) : impl_parse s = some (t.fo, true) := by
 rw [impl_parse_eq, h]; simp [h80]
theorem impl_parse_bad {s : ByteArray} (h : goodB s = false) : impl_parse s = some (.nil, false) := by
 rw [impl_parse_eq]
 cases e : F? (bs s) with
 | none => rfl
 | some t =>
  have : ¬ s.size ≤ 80 := fun g => by
   rw [good_iff.2 ⟨t, e, g⟩] at h; cases h
  simp [this]
theorem impl_IsFormula_eq (s : ByteArray) : impl_IsFormula s = some (goodB s) := by
 unfold impl_IsFormula
 cases h : goodB s with
 | true =>
  obtain ⟨t, h1, h2⟩ := good_iff.1 h
  rw [impl_parse_good h1 h2]; rfl
 | false => rw [impl_parse_bad h]; rfl
end Go.PF
namespace Go.PF
open Go.Pu
abbrev ltF (a b : ByteArray) : Bool := spec_l22Before a b
theorem ltF_eq (a b : ByteArray) : ltF a b = (decide (a.size < b.size) || (decide (a.size = b.size) && ltB (bs a) (bs b))) := by
 unfold ltF spec_l22Before
 by_cases h : a.size = b.size
 · rw [show ((a.size : Int) == (b.size : Int)) = true by rw [beq_iff_eq]; omega, Bool.not_true, cond_false]
   rw [show decide (a.size < b.size) = false from decide_eq_false (by omega), decide_eq_true h, Bool.false_or, Bool.true_and]
   unfold ltS; rw [toList_bs, toList_bs]
 · rw [show ((a.size : Int) == (b.size : Int)) = false by rw [beq_eq_false_iff_ne]; omega, Bool.not_false, cond_true, decide_eq_false h, Bool.false_and, Bool.or_false]
   exact decide_eq_decide.2 (by omega)
theorem STO_F : STO ltF := by
 refine ⟨fun a => ?_, fun a b c h1 h2 => ?_, fun a b h1 h2 => ?_⟩
 · rw [ltF_eq, ltB_irr]; simp
 · rw [ltF_eq] at *
   simp only [Bool.or_eq_true, Bool.and_eq_true, decide_eq_true_eq] at *
   rcases h1 with h1 | ⟨h1, g1⟩ <;> rcases h2 with h2 | ⟨h2, g2⟩
   · exact .inl (by omega)
   · exact .inl (by omega)
   · exact .inl (by omega)
   · exact .inr ⟨by omega, ltB_tr g1 g2⟩
 · rw [ltF_eq] at *
   simp only [Bool.or_eq_false_iff, Bool.and_eq_false_iff, decide_eq_false_iff_not] at *
   have e : a.size = b.size := by omega
   exact bs_ext (ltB_tot (h1.2.resolve_left fun g => g e) (h2.2.resolve_left fun g => g e.symm))
theorem cmpB : ∀ a b : List UInt8, (Go.Lib.compareBytes a b < 0 ↔ ltB a b = true) ∧ (Go.Lib.compareBytes a b = 0 ↔ a = b)
 | [], [] => by simp [Go.Lib.compareBytes, ltB]
 | [], _ :: _ => by simp [Go.Lib.compareBytes, ltB]
 | _ :: _, [] => by simp [Go.Lib.compareBytes, ltB]
 | x :: a, y :: b => by
  have ih := cmpB a b
  unfold Go.Lib.compareBytes
  simp only [ltB, Bool.or_eq_true, decide_eq_true_eq, Bool.and_eq_true, beq_iff_eq, List.cons.injEq]
  by_cases h1 : x < y
  · have : x ≠ y := fun e => by subst e; exact UInt8.lt_irrefl _ h1
    simp [h1, this]
  · by_cases h2 : y < x
    · have : x ≠ y := fun e => by subst e; exact UInt8.lt_irrefl _ h2
      simp [h1, h2, this]
    · have : x = y := UInt8.le_antisymm (UInt8.not_lt.1 h2) (UInt8.not_lt.1 h1)
      subst this
      simp [h1, ih]
def cmpF (a b : ByteArray) : Int := if a.size < b.size then -1 else if b.size < a.size then 1 else cmpS a b
theorem impl_compareFormulas_eq (a b : ByteArray) : impl_compareFormulas a b = some (cmpF a b) := by
 unfold impl_compareFormulas
 have hN : ∀ x : Int, cmp_isNaN_int x = false := fun x => by unfold cmp_isNaN_int; simp
 have hc : cmp_Compare_int (a.size : Int) (b.size : Int) = if a.size < b.size then -1 else if b.size < a.size then 1 else 0 := by
  unfold cmp_Compare_int
  rw [hN, hN, cond_false, cond_false]
  by_cases h1 : a.size < b.size
  · rw [bifT (decide_eq_true (by omega)), if_pos h1]
  · rw [bifF (decide_eq_false (by omega)), if_neg h1]
    by_cases h2 : b.size < a.size
    · rw [bifT (decide_eq_true (by omega)), if_pos h2]
    · rw [bifF (decide_eq_false (by omega)), if_neg h2]
 rw [hc]
 unfold cmp_Or_int cmpF strings_Compare
 rw [forL_find (p := fun _ y => !(y == 0)) (v := fun _ y => y) (fun i y _ => rfl)]
 by_cases h1 : a.size < b.size
 · rw [if_pos h1, if_pos h1]; rfl
 · rw [if_neg h1, if_neg h1]
   by_cases h2 : b.size < a.size
   · rw [if_pos h2, if_pos h2]; rfl
   · rw [if_neg h2, if_neg h2]
     cases hz : cmpS a b == 0 with
     | true =>
      have : cmpS a b = 0 := by simpa using hz
      rw [this]; rfl
     | false =>
      have e : findI (fun _ (y : Int) => !(y == 0)) [0, cmpS a b] 0 = some (1, cmpS a b) := by
       simp [findI, hz]
      rw [e]; rfl
theorem cmpF_neg (a b : ByteArray) : decide (cmpF a b < 0) = ltF a b := by
 rw [ltF_eq]
 unfold cmpF cmpS
 have hk := cmpB (bs a) (bs b)
 by_cases h1 : a.size < b.size
 · rw [if_pos h1]; simp [h1]
 · rw [if_neg h1]
   by_cases h2 : b.size < a.size
   · rw [if_pos h2]; simp [h1]; omega
   · rw [if_neg h2, decide_eq_false h1, Bool.false_or, decide_eq_true (show a.size = b.size by omega), Bool.true_and]
     show decide (Go.Lib.compareBytes (bs a) (bs b) < 0) = _
     cases hl : ltB (bs a) (bs b) with
     | true => exact decide_eq_true (hk.1.2 hl)
     | false => exact decide_eq_false fun g => by rw [hk.1.1 g] at hl; cases hl
theorem cmpF_ge (a b : ByteArray) : decide (0 ≤ cmpF a b) = !ltF a b := by
 rw [← cmpF_neg]
 by_cases h : cmpF a b < 0
 · rw [decide_eq_true h, decide_eq_false (by omega)]; rfl
 · rw [decide_eq_false h, decide_eq_true (by omega)]; rfl
def ordB (l : List ByteArray) : Bool := l.all goodB && adj ltF l
def sideB (l : List ByteArray) : Bool := decide (l.length ≤ 12) && ordB l
theorem side_any {l : List ByteArray} {p : Nat → ByteArray → Bool} (h : ∀ i y, p i y = (!goodB y || (decide (0 < i) && (match l[i - 1]? with | some x => !ltF x y | none => false)))) : anyI p l 0 = !ordB l := by
 have := anyI_adj (l := l) (p := p) (q := fun y => !goodB y) (r := ltF) (fun y _ => by rw [h]; simp) (fun i x y hx hy => by rw [h]; simp [hx])
 rw [this]; unfold ordB; simp
theorem spec_l23Side_eq (l : List ByteArray) : spec_l23Side l = some (sideB l) := by
 unfold spec_l23Side sideB
 by_cases h12 : l.length ≤ 12
 · rw [bifF (decide_eq_false (by rw [len_eq]; omega)), decide_eq_true h12, Bool.true_and]
   rw [forL_any (p := fun i y => !goodB y || (decide (0 < i) && (match l[i - 1]? with | some x => !ltF x y | none => false))) (fun i y hy => by
    rw [spec_l22Good_eq, bd_some]
    have hi := lt_of_get hy
    cases goodB y with
    | false => rfl
    | true =>
     rw [Bool.not_true, cond_false, Bool.false_or]
     by_cases h0 : 0 < i
     · rw [bifT (decide_eq_true (show 0 < ((i : Nat) : Int) by omega)), wr_pred h0 hi (by omega), ix_get, decide_eq_true h0, Bool.true_and]
       obtain ⟨x, hx⟩ : ∃ x, l[i - 1]? = some x := ⟨_, List.getElem?_eq_getElem (by omega)⟩
       rw [hx]; rfl
     · rw [bifF (decide_eq_false (show ¬ 0 < ((i : Nat) : Int) by omega)), decide_eq_false h0]; rfl), side_any (fun _ _ => rfl)]
   cases ordB l <;> rfl
 · rw [bifT (decide_eq_true (by rw [len_eq]; omega)), decide_eq_false h12]; rfl
theorem impl_sideOk_eq {l : List ByteArray} (hl : l.length ≤ lim) : impl_sideOk l = some (sideB l) := by
 unfold impl_sideOk sideB
 rw [forL_any (p := fun i y => !goodB y || (decide (0 < i) && (match l[i - 1]? with | some x => !ltF x y | none => false))) (fun i y hy => by
  rw [impl_IsFormula_eq, bd_some]
  have hi := lt_of_get hy
  cases goodB y with
  | false => rfl
  | true =>
   rw [Bool.not_true, cond_false, Bool.false_or]
   by_cases h0 : 0 < i
   · rw [bifT (decide_eq_true (show 0 < ((i : Nat) : Int) by omega)), wr_pred h0 hi (by unfold lim at hl; omega), ix_get, decide_eq_true h0, Bool.true_and]
     obtain ⟨x, hx⟩ : ∃ x, l[i - 1]? = some x := ⟨_, List.getElem?_eq_getElem (by omega)⟩
     rw [hx, bd_some, impl_compareFormulas_eq, bd_some, cmpF_ge]; rfl
   · rw [bifF (decide_eq_false (show ¬ 0 < ((i : Nat) : Int) by omega)), decide_eq_false h0]; rfl), side_any (fun _ _ => rfl)]
 have e : decide (len l ≤ 12) = decide (l.length ≤ 12) := decide_eq_decide.2 (by rw [len_eq]; omega)
 cases ordB l
 · simp
 · simp [e]
theorem adj_pw {α : Type} {r : α → α → Bool} (ht : ∀ a b c, r a b = true → r b c = true → r a c = true) : ∀ {l : List α}, adj r l = true ↔ l.Pairwise fun a b => r a b = true
 | [] => by simp [adj]
 | [x] => by simp [adj]
 | x :: y :: l => by
  have ih := adj_pw ht (l := y :: l)
  simp only [adj, Bool.and_eq_true]
  rw [ih]
  constructor
  · rintro ⟨h1, h2⟩
    refine List.pairwise_cons.2 ⟨fun z hz => ?_, h2⟩
    rcases List.mem_cons.1 hz with rfl | hz
    · exact h1
    · exact ht _ _ _ h1 ((List.pairwise_cons.1 h2).1 z hz)
  · intro h
    have := List.pairwise_cons.1 h
    exact ⟨this.1 y (List.mem_cons_self ..), this.2⟩
structure Side (l : List ByteArray) : Prop where
 len : l.length ≤ 12
 good : ∀ x ∈ l, goodB x = true
 ord : SS ltF l
theorem sideB_iff {l : List ByteArray} : sideB l = true ↔ Side l := by
 unfold sideB ordB
 rw [Bool.and_eq_true, Bool.and_eq_true, decide_eq_true_iff, List.all_eq_true, adj_pw STO_F.tr]
 exact ⟨fun h => ⟨h.1, h.2.1, h.2.2⟩, fun h => ⟨h.len, h.good, h.ord⟩⟩
def seqB (s : Sequent) : Bool := sideB s.left && sideB s.right
theorem spec_l23Good_eq (s : Sequent) : spec_l23Good s = some (seqB s) := by
 unfold spec_l23Good seqB
 rw [spec_l23Side_eq, bd_some]
 cases sideB s.left with
 | false => rfl
 | true => rw [cond_true, spec_l23Side_eq]; rfl
theorem impl_IsSequent_eq {s : Sequent} (h1 : s.left.length ≤ lim) (h2 : s.right.length ≤ lim) : impl_IsSequent s = some (seqB s) := by
 unfold impl_IsSequent seqB
 rw [impl_sideOk_eq h1, bd_some]
 cases sideB s.left with
 | false => rfl
 | true => rw [cond_true, impl_sideOk_eq h2]; rfl
theorem spec_l22Put_eq {l : List ByteArray} {s : ByteArray} (hs : SS ltF l) (hl : l.length ≤ 1000000) : spec_l22Put l s = some (insO ltF s l) := by
 unfold spec_l22Put
 have key : ∀ (m : List ByteArray) (k : Nat), l.drop k = m → k ≤ l.length → ∃ j : Nat, k ≤ j ∧ j ≤ l.length ∧ iter (fun s21 => bd (bif (decide (s21 < (len l))) then bd (ix l s21) (fun x96 => some (spec_l22Before x96 s)) else some false) (fun t83 => (bif t83 then some (Lp.nx (wr (s21 + 1))) else some (Lp.bk s21)) : Bool → Option (Lp Int Empty))) (k : Int) = some (.go (j : Int))
  ∧ (∀ i, k ≤ i → i < j → ∀ x, l[i]? = some x → ltF x s = true) ∧ (∀ x, l[j]? = some x → ltF x s = false) := by
  intro m
  induction m with
  | nil =>
   intro k hk hle
   have e : k = l.length := by
    have := congrArg List.length hk
    rw [List.length_drop, List.length_nil] at this; omega
   refine ⟨k, Nat.le_refl _, hle, iter_bk ?_, fun i h1 h2 => by omega, fun x hx => by have := lt_of_get hx; omega⟩
   rw [bifF (decide_eq_false (by rw [len_eq]; omega))]; rfl
  | cons x m ih =>
   intro k hk hle
   have hkl : k < l.length := by
    have := congrArg List.length hk
    rw [List.length_drop, List.length_cons] at this; omega
   have hx : l[k]? = some x := by
    have : (l.drop k)[0]? = some x := by rw [hk]; rfl
    rwa [List.getElem?_drop, Nat.add_zero] at this
   have hk' : l.drop (k + 1) = m := by
    rw [← List.tail_drop, hk]; rfl
   cases hb : ltF x s with
   | true =>
    obtain ⟨j, h1, h2, h3, h4, h5⟩ := ih (k + 1) hk' (by omega)
    refine ⟨j, by omega, h2, ?_, fun i g1 g2 y hy => ?_, h5⟩
    · rw [iter_nx (s' := ((k + 1 : Nat) : Int))]
      · exact h3
      · rw [bifT (decide_eq_true (by rw [len_eq]; omega)), ix_get, hx, bd_some, bd_some]
        rw [show spec_l22Before x s = true from hb, cond_true, wr_k (by omega)]
    · by_cases e : i = k
      · subst e; rw [hx] at hy; cases hy; exact hb
      · exact h4 i (by omega) g2 y hy
   | false =>
    refine ⟨k, Nat.le_refl _, hle, iter_bk ?_, fun i g1 g2 => by omega, fun y hy => by rw [hx] at hy; cases hy; exact hb⟩
    rw [bifT (decide_eq_true (by rw [len_eq]; omega)), ix_get, hx, bd_some, bd_some]
    rw [show spec_l22Before x s = false from hb, cond_false]
 obtain ⟨j, _, hj, e1, h1, h2⟩ := key l 0 rfl (Nat.zero_le _)
 rw [show ((0 : Nat) : Int) = 0 from rfl] at e1
 rw [e1, bdR_go]
 have hmem : ∀ z, z ∈ l.take j ++ s :: l.drop j ↔ z = s ∨ z ∈ l := fun z => by
  rw [List.mem_append, List.mem_cons]
  conv => rhs; rw [← List.take_append_drop j l, List.mem_append]
  constructor
  · rintro (h | h | h)
    · exact .inr (.inl h)
    · exact .inl h
    · exact .inr (.inr h)
  · rintro (h | h | h)
    · exact .inr (.inl h)
    · exact .inl h
    · exact .inr (.inr h)
 have before : ∀ x ∈ l.take j, ltF x s = true := fun x hx => by
  obtain ⟨i, hi⟩ := List.getElem?_of_mem hx
  rw [List.getElem?_take] at hi
  split at hi
  · exact h1 i (by omega) (by assumption) x hi
  · cases hi
 have ins : (∀ x, l[j]? = some x → x ≠ s) → insO ltF s l = l.take j ++ s :: l.drop j := by
  intro hne
  refine SS.ext STO_F (SS_insO STO_F hs) ?_ fun z => by rw [mem_insO STO_F, hmem]
  refine List.pairwise_append.2 ⟨hs.sublist (List.take_sublist ..), ?_, fun a ha b hb => ?_⟩
  · refine List.pairwise_cons.2 ⟨fun b hb => ?_, hs.sublist (List.drop_sublist ..)⟩
    cases hd : l.drop j with
    | nil => rw [hd] at hb; simp at hb
    | cons y r =>
     have hy : l[j]? = some y := by
      have : (l.drop j)[0]? = some y := by rw [hd]; rfl
      rwa [List.getElem?_drop, Nat.add_zero] at this
     have sy : ltF s y = true := by
      cases q : ltF s y with
      | true => rfl
      | false => exact absurd (STO_F.tot _ _ (h2 y hy) q) (hne y hy)
     rw [hd] at hb
     rcases List.mem_cons.1 hb with rfl | hb
     · exact sy
     · have := hs.sublist (List.drop_sublist j l)
       rw [hd] at this
       exact STO_F.tr _ _ _ sy ((List.pairwise_cons.1 this).1 b hb)
  · rcases List.mem_cons.1 hb with rfl | hb
    · exact before a ha
    · have : l = l.take j ++ l.drop j := (List.take_append_drop j l).symm
      have hp : SS ltF (l.take j ++ l.drop j) := by rw [← this]; exact hs
      exact (List.pairwise_append.1 hp).2.2 a ha b hb
 have tail_ : bd (cut l 0 (j : Int)) (fun xs12143 => bd (app [] xs12143) (fun xs15143 => bd (app xs15143 [s]) (fun xs24143 => bd (cut l (j : Int) (len l)) (fun xs33143 => bd (app xs24143 xs33143) (fun xs36143 => some xs36143))))) = some (l.take j ++ s :: l.drop j) := by
  have c1 := cut_ok (xs := l) (a := 0) (b := j) (by omega) hj
  have c2 := cut_ok (xs := l) (a := j) (b := l.length) hj (by omega)
  rw [show ((0 : Nat) : Int) = 0 from rfl] at c1
  have lt : (l.take j).length = j := by rw [List.length_take]; omega
  rw [c1, bd_some, List.drop_zero, app_ok (by rw [lt]; simp; unfold lim; omega), bd_some, List.nil_append, app_ok (by rw [lt]; simp; unfold lim; omega), bd_some, len_eq, c2, bd_some, List.take_length,
   app_ok (by rw [List.length_append, lt, List.length_drop]; simp; unfold lim; omega), bd_some, List.append_assoc]; rfl
 by_cases hjl : j < l.length
 · obtain ⟨x, hx⟩ : ∃ x, l[j]? = some x := ⟨_, List.getElem?_eq_getElem hjl⟩
   rw [bifT (decide_eq_true (by rw [len_eq]; omega)), ix_get, hx, bd_some, bd_some, eqS]
   by_cases e : x = s
   · rw [decide_eq_true e, cond_true]
     congr 1
     have hsl : s ∈ l := e ▸ List.mem_of_getElem? hx
     exact SS.ext STO_F hs (SS_insO STO_F hs) fun z => by
      rw [mem_insO STO_F]
      exact ⟨.inr, fun h => h.elim (fun h => h ▸ hsl) id⟩
   · rw [decide_eq_false e, cond_false, tail_, ins fun y hy => by rw [hx] at hy; cases hy; exact e]
 · rw [bifF (decide_eq_false (by rw [len_eq]; omega)), bd_some, cond_false, tail_, ins fun y hy => by have := lt_of_get hy; omega]
end Go.PF
namespace Go.PF
open Go.Pu
instance memS (s : ByteArray) (c : List ByteArray) : Decidable (s ∈ c) := decidable_of_iff ((c.any fun x => decide (x = s)) = true) (by simp)
theorem filterS_take {α : Type} {c : List α} {p : α → Bool} {j : Nat} {x : α} (h : c[j]? = some x) : (c.take (j + 1)).filter p = (c.take j).filter p ++ (if p x then [x] else []) := by
 rw [List.take_add_one, h, List.filter_append]
 cases hp : p x <;> simp [hp]
theorem delS_loop {α : Type} {n : Nat} (hn : n ≤ 9223372036854775806) {c : List α} (hc : c.length = n) {f : α → Option Bool} {g : α → Bool} (h : ∀ y ∈ c, f y = some (g y)) :
 ∀ (m j i : Nat) (s : List α), j + m = n → i ≤ j → s.length = n → s.take i = (c.take j).filter (fun y => !g y) → s.drop j = c.drop j →
  ∃ s' i', iter (S := (List α) × Int × Int) (X := Empty) (fun s32 => (bif (decide (s32.2.2 < (len s32.1))) then bd (ix s32.1 s32.2.2) (fun x143 => bd (f x143) (fun r145 => (bif (!r145) then bd (ix s32.1 s32.2.1) (fun _ => bd (put s32.1 s32.2.1 x143) (fun xs167 => some (Lp.nx (xs167, (wr (s32.2.1 + 1)), (wr (s32.2.2 + 1)))))) else some (Lp.nx (s32.1, s32.2.1, (wr (s32.2.2 + 1))))))) else some (Lp.bk (s32.1, s32.2.1, s32.2.2)))) (s, (i : Int), (j : Int)) =
   some (.go (s', ((i' : Nat) : Int), (n : Int))) ∧ i' ≤ n ∧ s'.length = n ∧ s'.take i' = c.filter (fun y => !g y) := by
 intro m
 induction m with
 | zero =>
  intro j i s hj hi hs ht _
  have : j = n := by omega
  subst this
  refine ⟨s, i, iter_bk ?_, hi, hs, by rw [ht, List.take_of_length_le (by omega)]⟩
  have hd : decide (((j : Nat) : Int) < len s) = false := by rw [len_eq, hs]; simp
  simp only [hd, cond_false]
 | succ m ih =>
  intro j i s hj hi hs ht hd
  have hjn : j < n := by omega
  have hx : s[j]? = some c[j] := by
   have := congrArg (·[0]?) hd
   simp only [List.getElem?_drop, Nat.add_zero] at this
   rw [this]; exact List.getElem?_eq_getElem (by omega)
  have hlt : decide (((j : Nat) : Int) < len s) = true := by rw [len_eq, hs]; simp; omega
  have hg := h c[j] (List.getElem_mem _)
  have e1 : wr ((j : Int) + 1) = ((j + 1 : Nat) : Int) := by rw [wr_of _ (by omega) (by omega)]; simp
  have e2 : wr ((i : Int) + 1) = ((i + 1 : Nat) : Int) := by rw [wr_of _ (by omega) (by omega)]; simp
  cases hgc : g c[j] with
  | true =>
   obtain ⟨s', i', q1, q2⟩ := ih (j + 1) i s (by omega) (by omega) hs (by
    rw [ht, filterS_take (List.getElem?_eq_getElem (by omega)), hgc]; simp) (by
    have := congrArg (List.drop 1) hd
    rwa [List.drop_drop, List.drop_drop] at this)
   refine ⟨s', i', ?_, q2⟩
   rw [← q1]
   refine iter_nx ?_
   simp only [hlt, cond_true, ix_get, hx, bd_some, hg, hgc, Bool.not_true, cond_false, e1]
  | false =>
   obtain ⟨s', i', q1, q2⟩ := ih (j + 1) (i + 1) (s.set i c[j]) (by omega) (by omega) (by simpa using hs) (by
    rw [List.take_add_one, List.getElem?_set_self (by omega), List.take_set_of_le (Nat.le_refl _), ht, filterS_take (List.getElem?_eq_getElem (show j < c.length by omega)), hgc]; rfl) (by
    rw [List.drop_set_of_lt (by omega)]
    have := congrArg (List.drop 1) hd
    rwa [List.drop_drop, List.drop_drop] at this)
   refine ⟨s', i', ?_, q2⟩
   rw [← q1]
   refine iter_nx ?_
   simp only [hlt, cond_true, ix_get, hx, bd_some, hg, hgc, Bool.not_false, e1, e2]
   rw [List.getElem?_eq_getElem (show i < s.length by omega), bd_some, put_ok (by omega), bd_some]
theorem indexS {c : List ByteArray} {f : ByteArray → Option Bool} {g : ByteArray → Bool} (h : ∀ y ∈ c, f y = some (g y)) :
 ∃ r, slices_IndexFunc_string_string c f = some r ∧ ((r = -1 ∧ ∀ y ∈ c, g y = false) ∨ ∃ (z : Nat) (x : ByteArray), r = (z : Int) ∧ c[z]? = some x ∧ g x = true ∧ ∀ y ∈ c.take z, g y = false) := by
 unfold slices_IndexFunc_string_string
 rw [forL_find (p := fun _ y => g y) (v := fun i _ => (i : Int)) (fun i y hy => by rw [h y (List.mem_of_getElem? hy), bd_some])]
 have key : ∀ (m : List ByteArray) (k : Nat), match findI (fun _ y => g y) m k with
  | none => ∀ y ∈ m, g y = false
  | some z => ∃ j, z.1 = k + j ∧ m[j]? = some z.2 ∧ g z.2 = true ∧ ∀ y ∈ m.take j, g y = false := by
  intro m
  induction m with
  | nil => intro k; simp [findI]
  | cons x m ih =>
   intro k
   cases hg : g x with
   | true => simp only [findI, hg, cond_true]; exact ⟨0, rfl, rfl, trivial, by simp⟩
   | false =>
    simp only [findI, hg, cond_false]
    have := ih (k + 1)
    cases hf : findI (fun _ y => g y) m (k + 1) with
    | none =>
     rw [hf] at this
     intro y hy
     rcases List.mem_cons.1 hy with rfl | hy
     · exact hg
     · exact this y hy
    | some z =>
     rw [hf] at this
     obtain ⟨j, e1, e2, e3, e4⟩ := this
     refine ⟨j + 1, by omega, e2, e3, fun y hy => ?_⟩
     rw [List.take_succ_cons] at hy
     rcases List.mem_cons.1 hy with rfl | hy
     · exact hg
     · exact e4 y hy
 have := key c 0
 cases hf : findI (fun _ y => g y) c 0 with
 | none => rw [hf] at this; exact ⟨_, rfl, .inl ⟨rfl, this⟩⟩
 | some z =>
  rw [hf] at this
  obtain ⟨j, e1, e2, e3, e4⟩ := this
  rw [Nat.zero_add] at e1
  exact ⟨_, rfl, .inr ⟨j, z.2, by rw [e1], e2, e3, e4⟩⟩
theorem containsFuncS {c : List ByteArray} {f : ByteArray → Option Bool} {g : ByteArray → Bool} (h : ∀ y ∈ c, f y = some (g y)) : slices_ContainsFunc_string_string c f = some (c.any g) := by
 unfold slices_ContainsFunc_string_string
 obtain ⟨r, e, hr⟩ := indexS h
 rw [e, bd_some]
 congr 1
 rcases hr with ⟨rfl, hr⟩ | ⟨z, x, rfl, hx, hg, hr⟩
 · symm; simp; exact fun y hy => hr y hy
 · rw [decide_eq_true (by omega)]; symm
   exact List.any_eq_true.2 ⟨x, List.mem_of_getElem? hx, hg⟩
theorem slices_Index_string_eq (c : List ByteArray) (s : ByteArray) : ∃ r, slices_Index_string_string c s = some r ∧ (0 ≤ r ↔ s ∈ c) := by
 unfold slices_Index_string_string
 rw [forL_find (p := fun _ y => s.toList == y.toList) (v := fun i _ => (i : Int)) (fun i y hy => rfl)]
 have key : ∀ (m : List ByteArray) (k : Nat), (findI (fun _ y => s.toList == y.toList) m k).isSome = true ↔ s ∈ m := by
  intro m
  induction m with
  | nil => intro k; simp [findI]
  | cons x m ih =>
   intro k
   cases hg : (s.toList == x.toList) with
   | true => rw [eqS] at hg; simp only [findI, eqS]; rw [hg]; simp [of_decide_eq_true hg]
   | false =>
    simp only [findI]; rw [hg, cond_false, ih]
    rw [eqS] at hg
    simp [of_decide_eq_false hg]
 have := key c 0
 cases hf : findI (fun _ y => s.toList == y.toList) c 0 with
 | none =>
  rw [hf] at this
  refine ⟨-1, rfl, ⟨fun g => by omega, fun g => ?_⟩⟩
  have := this.2 g; cases this
 | some z =>
  rw [hf] at this
  exact ⟨(z.1 : Int), rfl, ⟨fun _ => this.1 rfl, fun _ => by omega⟩⟩
theorem slices_Contains_string_eq (c : List ByteArray) (s : ByteArray) : slices_Contains_string_string c s = some (decide (s ∈ c)) := by
 unfold slices_Contains_string_string
 obtain ⟨r, e, hr⟩ := slices_Index_string_eq c s
 rw [e, bd_some]
 congr 1
 exact decide_eq_decide.2 hr
theorem spec_l23Has_eq (c : List ByteArray) (s : ByteArray) : spec_l23Has c s = some (decide (s ∈ c)) := by
 unfold spec_l23Has
 rw [forL_any (p := fun _ y => y.toList == s.toList) (fun i y _ => rfl), anyI_any]
 have : (c.any fun y => y.toList == s.toList) = decide (s ∈ c) := by
  rw [Bool.eq_iff_iff, List.any_eq_true, decide_eq_true_iff]
  constructor
  · rintro ⟨x, hx, h⟩
    rw [eqS, decide_eq_true_iff] at h
    exact h ▸ hx
  · intro h; exact ⟨s, h, by rw [eqS]; simp⟩
 rw [this]
 cases decide (s ∈ c) <;> rfl
theorem slices_Clone_string_eq {l : List ByteArray} (h : l.length ≤ lim) : slices_Clone_string_string l = some l := by
 unfold slices_Clone_string_string
 rw [app_ok (by simpa using h)]; rfl
theorem deleteS {c : List ByteArray} {f : ByteArray → Option Bool} {g : ByteArray → Bool} (h : ∀ y ∈ c, f y = some (g y)) (hl : c.length ≤ 1000000) : slices_DeleteFunc_string_string c f = some (c.filter fun y => !g y) := by
 unfold slices_DeleteFunc_string_string
 obtain ⟨r, e, hr⟩ := indexS h
 rw [e, bd_some]
 rcases hr with ⟨rfl, hr⟩ | ⟨z, x, rfl, hx, hg, hr⟩
 · rw [show ((-1 : Int) == -1) = true by rfl, cond_true, List.filter_eq_self.2]
   intro y hy; rw [hr y hy]; rfl
 · have hzl := lt_of_get hx
   have hne : (((z : Nat) : Int) == -1) = false := by simp
   rw [hne, cond_false, show wr (((z : Nat) : Int) + 1) = ((z + 1 : Nat) : Int) by rw [wr_of _ (by omega) (by omega)]; simp]
   obtain ⟨s', i', q1, q2, q3, q4⟩ := delS_loop (n := c.length) (by omega) rfl h (c.length - (z + 1)) (z + 1) z c (by omega) (by omega) rfl (by
    rw [List.take_add_one, hx, List.filter_append, List.filter_eq_self.2 (fun y hy => by rw [hr y hy]; rfl)]
    simp [hg]) rfl
   rw [q1, bdR_go]
   simp only
   rw [show len s' = ((s'.length : Nat) : Int) from rfl, cut_ok (by omega) (Nat.le_refl _), bd_some]
   have hcl : clearL ByteArray.empty s' (i' : Int) = s'.take i' ++ List.replicate (s'.length - i') ByteArray.empty := by unfold clearL; simp
   rw [hcl, show (0 : Int) = ((0 : Nat) : Int) from rfl, cut_ok (Nat.zero_le _) (by simp; omega), bd_some, List.drop_zero, List.take_left' (by simp; omega), q4]
def lackS (l : List ByteArray) (s : ByteArray) : List ByteArray := l.filter fun y => !decide (y = s)
theorem impl_lacking_eq {l : List ByteArray} (h : l.length ≤ 1000000) (s : ByteArray) : impl_lacking l s = some (lackS l s) := by
 unfold impl_lacking lackS
 rw [slices_Clone_string_eq (by unfold lim; omega), bd_some, deleteS (g := fun y => decide (y = s)) (fun y _ => by
  unfold impl_lacking_1; rw [eqS]; congr 1; exact decide_eq_decide.2 ⟨Eq.symm, Eq.symm⟩) h]; rfl
theorem spec_l23Without_eq {l : List ByteArray} (h : l.length ≤ 1000000) (s : ByteArray) : spec_l23Without l s = some (lackS l s) := by
 unfold spec_l23Without lackS
 have key : ∀ (m : List ByteArray) (k : Nat) (t : List ByteArray), t.length + m.length ≤ 1000000 → forLFrom (fun i27 y26 s27 => (bif (!(y26.toList == s.toList)) then bd (app s27 [y26]) (fun xs97 => some (Lp.nx xs97)) else some (Lp.nx s27) : Option (Lp (List ByteArray) Empty))) m k t = some (.go (t ++ m.filter fun y => !decide (y = s))) := by
  intro m
  induction m with
  | nil => intro k t _; rw [forLFrom_nil]; simp
  | cons x m ih =>
   intro k t hl
   rw [List.length_cons] at hl
   by_cases e : x = s
   · rw [forLFrom_nx (s' := t) (by rw [eqS, decide_eq_true e]; rfl), ih _ _ (by omega)]
     simp [e]
   · rw [forLFrom_nx (s' := t ++ [x]) (by rw [eqS, decide_eq_false e, Bool.not_false, cond_true, app_ok (by simp; unfold lim; omega)]; rfl), ih _ _ (by simp; omega)]
     simp [e]
 unfold forL
 rw [key l 0 [] (by simpa using h)]; rfl
theorem concatS {a b : List ByteArray} (hl : a.length + b.length ≤ 1000000) : slices_Concat_string_string [a, b] = some (a ++ b) := by
 have e1 : wr (0 + len a) = (a.length : Int) := by rw [wr_of _ (by rw [len_eq]; omega) (by rw [len_eq]; omega), len_eq]; omega
 have e2 : wr ((a.length : Int) + len b) = ((a.length + b.length : Nat) : Int) := by rw [wr_of _ (by rw [len_eq]; omega) (by rw [len_eq]; omega), len_eq]; omega
 have d1 : decide ((a.length : Int) < 0) = false := by rw [decide_eq_false_iff_not]; omega
 have d2 : decide (((a.length + b.length : Nat) : Int) < 0) = false := by rw [decide_eq_false_iff_not]; omega
 unfold slices_Concat_string_string forL
 rw [forLFrom_nx (s' := (a.length : Int)) (by rw [e1, d1]; rfl), forLFrom_nx (s' := ((a.length + b.length : Nat) : Int)) (by rw [e2, d2]; rfl), forLFrom_nil, bdR_go]
 unfold slices_Grow_string_string
 rw [if_pos (by unfold lim; omega), bd_some]
 rw [forLFrom_nx (s' := a) (by rw [app_ok (by simp; unfold lim; omega), bd_some]; rfl), forLFrom_nx (s' := a ++ b) (by rw [app_ok (by unfold lim; omega), bd_some]), forLFrom_nil, bdR_go]
theorem leF_F (a b : ByteArray) : leF (fun x0 x1 => PF.impl_compareFormulas x0 x1) a b = !ltF b a := by
 unfold leF
 simp only [impl_compareFormulas_eq]
 rw [cmpF_neg]
theorem sortS {xs : List ByteArray} (hl : xs.length < lim) : ∃ r, slices_SortFunc_string_string xs (fun x0 x1 => PF.impl_compareFormulas x0 x1) = some r ∧ (∀ x, x ∈ r ↔ x ∈ xs) ∧ r.Pairwise (fun a b => ltF b a = false) ∧ r.length = xs.length := by
 unfold slices_SortFunc_string_string sortF
 have neg : ∀ a b, (cmpF a b < 0) ↔ ltF a b = true := fun a b => by rw [← cmpF_neg, decide_eq_true_iff]
 rw [if_pos]
 · refine ⟨_, rfl, fun x => List.mem_mergeSort, ?_, List.length_mergeSort ..⟩
   have := List.pairwise_mergeSort (le := leF fun x0 x1 => PF.impl_compareFormulas x0 x1) (fun a b c h1 h2 => by
    rw [leF_F, Bool.not_eq_true'] at *
    cases q : ltF c a with
    | false => rfl
    | true =>
     have : ltF b a = false := h1
     cases q2 : ltF c b with
     | true => rw [h2] at q2; cases q2
     | false =>
      by_cases e : b = c
      · subst e; rw [h1] at q; cases q
      · have : ltF b c = true := by
         cases q3 : ltF b c with
         | true => rfl
         | false => exact absurd (STO_F.tot _ _ q3 q2) e
        have := STO_F.tr _ _ _ this q
        rw [h1] at this; cases this) (fun a b => by
    rw [leF_F, leF_F, Bool.or_eq_true, Bool.not_eq_true', Bool.not_eq_true']
    cases q : ltF b a with
    | false => exact .inl rfl
    | true => exact .inr (STO_F.asym q)) xs
   exact this.imp fun h => by rw [leF_F, Bool.not_eq_true'] at h; exact h
 · refine ⟨cmpF, hl, fun x _ y _ => impl_compareFormulas_eq x y, fun x _ => ?_, fun x _ y _ z _ h1 h2 => ?_, fun x _ y _ z _ h1 h2 => ?_, fun x _ y _ h1 h2 => ?_⟩
   · rw [neg, STO_F.irr]; simp
   · rw [neg] at *; exact STO_F.tr _ _ _ h1 h2
   · rw [neg, Bool.not_eq_true] at *
     cases q : ltF x z with
     | false => rfl
     | true =>
      by_cases e : x = y
      · subst e; rw [h2] at q; cases q
      · have : ltF y x = true := by
         cases q3 : ltF y x with
         | true => rfl
         | false => exact absurd (STO_F.tot _ _ h1 q3) e
        have := STO_F.tr _ _ _ this q
        rw [h2] at this; cases this
   · rw [neg, Bool.not_eq_true] at *
     exact STO_F.tot _ _ h1 h2
theorem impl_with_eq {l m : List ByteArray} (hl : l.length + m.length ≤ 1000000) : impl_with l m = some (setO ltF (l ++ m)) := by
 unfold impl_with
 rw [concatS hl, bd_some]
 obtain ⟨r, e, h1, h2, _⟩ := sortS (xs := l ++ m) (by simp; unfold lim; omega)
 rw [e, bd_some]
 unfold slices_Compact_string_string
 rw [bd_some]
 congr 1
 exact compact_set STO_F h2 h1
theorem spec_l23With_eq {l : List ByteArray} {s : ByteArray} (hs : SS ltF l) (hl : l.length ≤ 1000000) : spec_l23With l s = some (setO ltF (l ++ [s])) := by
 unfold spec_l23With
 rw [app_ok (by simp; unfold lim; omega), bd_some, List.nil_append, spec_l22Put_eq hs hl, bd_some]
 congr 1
 rw [insO_eq STO_F hs]
 exact setO_ext STO_F fun x => by simp [or_comm]
def axB (s : Sequent) : Bool := decide (ByteArray.mk #[48] ∈ s.left) || decide (ByteArray.mk #[49] ∈ s.right) || s.left.any fun t => decide (t ∈ s.right)
theorem impl_isSeqAxiom_eq (s : Sequent) : impl_isSeqAxiom s = some (axB s) := by
 unfold impl_isSeqAxiom axB
 rw [slices_Contains_string_eq, bd_some]
 cases decide (ByteArray.mk #[48] ∈ s.left) with
 | true => rfl
 | false =>
  rw [cond_false, slices_Contains_string_eq, bd_some, bd_some]
  cases decide (ByteArray.mk #[49] ∈ s.right) with
  | true => rfl
  | false =>
   rw [cond_false, containsFuncS (g := fun t => decide (t ∈ s.right)) (fun y _ => by unfold impl_isSeqAxiom_1; rw [slices_Contains_string_eq]; rfl)]; rfl
theorem spec_l23Axiom_eq {s : Sequent} (hl : s.left.length ≤ 1000000) : spec_l23Axiom s = some (axB s) := by
 unfold spec_l23Axiom
 rw [iter_any (xs := s.left) (p := fun _ x => decide (x = ByteArray.mk #[48]) || decide (x ∈ s.right)) (v := true) (fun i y hy => by
  have hi := lt_of_get hy
  rw [bifT (decide_eq_true (by rw [len_eq]; omega)), ix_get, hy, bd_some, bd_some, eqS]
  by_cases e : y = ByteArray.mk #[48]
  · rw [decide_eq_true e]; rfl
  · rw [decide_eq_false e, cond_false, spec_l23Has_eq, bd_some, bd_some, Bool.false_or, show wr ((i : Int) + 1) = (i : Int) + 1 from wr_of _ (by omega) (by omega)]) (by
  rw [bifF (decide_eq_false (by rw [len_eq]; omega))])]
 have e : anyI (fun _ x => decide (x = ByteArray.mk #[48]) || decide (x ∈ s.right)) s.left 0 = s.left.any fun x => decide (x = ByteArray.mk #[48]) || decide (x ∈ s.right) := anyI_any ..
 rw [e]
 have hb : (s.left.any fun x => decide (x = ByteArray.mk #[48]) || decide (x ∈ s.right)) = (decide (ByteArray.mk #[48] ∈ s.left) || s.left.any fun t => decide (t ∈ s.right)) := by
  rw [Bool.eq_iff_iff]
  simp only [List.any_eq_true, Bool.or_eq_true, decide_eq_true_eq]
  constructor
  · rintro ⟨x, hx, rfl | h⟩
    · exact .inl hx
    · exact .inr ⟨x, hx, h⟩
  · rintro (h | ⟨x, hx, h⟩)
    · exact ⟨_, h, .inl rfl⟩
    · exact ⟨x, hx, .inr h⟩
 unfold axB
 rw [hb]
 cases hc : (decide (ByteArray.mk #[48] ∈ s.left) || s.left.any fun t => decide (t ∈ s.right)) with
 | true =>
  rw [cond_true, bdR_rt]
  congr 1
  rw [Bool.or_eq_true] at hc
  rcases hc with h | h <;> simp [h]
 | false =>
  rw [cond_false, bdR_go, spec_l23Has_eq, bd_some]
  congr 1
  rw [Bool.or_eq_false_iff] at hc
  rw [hc.1, hc.2]; simp
end Go.PF
namespace Go.PF
open Go.Pu
def Ft.opI : Ft → Int
 | .leaf c => c.toNat
 | .neg _ => 126
 | .bin op _ _ => op.toNat
def Ft.tA : Ft → ByteArray
 | .leaf _ => tx []
 | .neg a => tx a.txt
 | .bin _ a _ => tx a.txt
def Ft.tB : Ft → ByteArray
 | .leaf _ => tx []
 | .neg _ => tx []
 | .bin _ _ b => tx b.txt
theorem ft_of {s : ByteArray} {t : Ft} (h : F? (bs s) = some t) : s = tx t.txt ∧ t.wf = true := by
 have := F?_some.1 h
 exact ⟨by rw [← this.1, tx_bs], this.2⟩
theorem F?_tx {t : Ft} (h : t.wf = true) : F? (bs (tx t.txt)) = some t := by rw [bs_tx]; exact F?_some.2 ⟨rfl, h⟩
theorem spec_l22Parts_eq {s : ByteArray} {t : Ft} (h : F? (bs s) = some t) (hs : s.size ≤ 1000) : spec_l22Parts s = some (t.opI, t.tA, t.tB) := by
 obtain ⟨e, hw⟩ := ft_of h
 unfold spec_l22Parts
 have hb : bs s = t.txt := by rw [e, bs_tx]
 have hz := bs_len s
 rw [hb] at hz
 cases t with
 | leaf c =>
  have hi : ixS s 0 = some (c.toNat : Int) := ixS_at (k := 0) (by rw [hb]; rfl)
  have hl := isLf_not (show isLf c = true from hw)
  simp only [hi, bd_some, c126, c40]
  rw [beq_eq_false_iff_ne.2 hl.1, cond_false, beq_eq_false_iff_ne.2 hl.2]; rfl
 | neg a =>
  have hi : ixS s 0 = some (((126 : UInt8).toNat : Nat) : Int) := ixS_at (k := 0) (by rw [hb]; rfl)
  simp only [hi, bd_some, c126, c40, beq_self_eq_true, cond_true]
  simp only [Ft.txt, List.length_cons] at hz
  have := cutS_ok (s := s) (a := 1) (b := s.size) (by omega) (by omega)
  rw [show ((1 : Nat) : Int) = 1 from rfl] at this
  rw [this, bd_some, hb, ← hz]
  simp [Ft.opI, Ft.tA, Ft.tB, Ft.txt, tx]
 | bin op a b =>
  have hi : ixS s 0 = some (((40 : UInt8).toNat : Nat) : Int) := ixS_at (k := 0) (by rw [hb]; rfl)
  simp only [Ft.wf, Bool.and_eq_true] at hw
  simp only [Ft.txt, List.length_cons, List.length_append, List.length_nil] at hz
  simp only [hi, bd_some, c126, c40, beq_self_eq_true, Bool.not_true, cond_false]
  rw [show ((40 : UInt8) == 126) = false from rfl, cond_false]
  have he : endV s 1 = ((1 + a.txt.length : Nat) : Int) := by
   unfold endV
   rw [hb]
   have : P (List.drop 1 (Ft.bin op a b).txt) = some (a, op :: (b.txt ++ [41])) := P_some.2 ⟨by simp [Ft.txt], hw.1.2⟩
   rw [this]
  have h1 := spec_l22End_eq hs 1
  rw [show ((1 : Nat) : Int) = 1 from rfl] at h1
  rw [h1, bd_some, he]
  have ho : ixS s ((1 + a.txt.length : Nat) : Int) = some (op.toNat : Int) := ixS_at (by
   rw [hb]; simp only [Ft.txt]
   rw [show 1 + a.txt.length = a.txt.length + 1 by omega, List.getElem?_cons_succ, List.getElem?_append_right (by omega)]; simp)
  have c1 := cutS_ok (s := s) (a := 1) (b := 1 + a.txt.length) (by omega) (by omega)
  rw [show ((1 : Nat) : Int) = 1 from rfl] at c1
  have c2 := cutS_ok (s := s) (a := 1 + a.txt.length + 1) (b := s.size - 1) (by omega) (by omega)
  rw [ho, bd_some, c1, bd_some, wr_k (by omega), show wr ((s.size : Int) - 1) = ((s.size - 1 : Nat) : Int) by rw [wr_of _ (by omega) (by omega)]; omega, c2, bd_some, hb]
  have e1 : ((Ft.bin op a b).txt.take (1 + a.txt.length)).drop 1 = a.txt := by
   simp only [Ft.txt]
   rw [show 1 + a.txt.length = a.txt.length + 1 by omega, List.take_succ_cons]
   simp
  have e2 : ((Ft.bin op a b).txt.take (s.size - 1)).drop (1 + a.txt.length + 1) = b.txt := by
   simp only [Ft.txt]
   rw [show s.size - 1 = (a.txt.length + (1 + b.txt.length)) + 1 by omega, List.take_succ_cons, show 1 + a.txt.length + 1 = (a.txt.length + 1) + 1 by omega, List.drop_succ_cons, List.take_length_add_append,
    show a.txt.length + 1 = a.txt.length + 1 from rfl, List.drop_length_add_append]
   rw [show 1 + b.txt.length = b.txt.length + 1 by omega, List.take_succ_cons]
   simp
  rw [e1, e2]; rfl
theorem Ft.get_eq (t : Ft) : ∃ n, t.fo.get = some n ∧ n.op = t.opI ∧ n.text = tx t.txt := by
 cases t with
 | leaf c => exact ⟨_, rfl, rfl, rfl⟩
 | neg a => exact ⟨_, rfl, rfl, rfl⟩
 | bin op a b => exact ⟨_, rfl, rfl, rfl⟩
def ruleV (t : Ft) (l : Bool) : Int := match t with
 | .leaf _ => 0
 | .neg _ => bif l then 2 else 3
 | .bin op _ _ => if op = 38 then (bif l then 4 else 5) else if op = 124 then (bif l then 6 else 7) else (bif l then 8 else 9)
theorem leaf_ne {c : UInt8} (h : isLf c = true) : c ≠ 126 ∧ c ≠ 38 ∧ c ≠ 124 ∧ c ≠ 62 := by
 refine ⟨?_, ?_, ?_, ?_⟩ <;> (rintro rfl; revert h; decide)
theorem op_ne {c : UInt8} (h : isOp c = true) : c ≠ 126 ∧ (c = 38 ∨ c = 124 ∨ c = 62) := by
 refine ⟨by rintro rfl; revert h; decide, ?_⟩
 unfold isOp at h
 simp only [Bool.or_eq_true, beq_iff_eq] at h
 rcases h with (h | h) | h
 · exact .inl h
 · exact .inr (.inl h)
 · exact .inr (.inr h)
theorem spec_l23Rule_eq {s : ByteArray} {t : Ft} (h : F? (bs s) = some t) (hs : s.size ≤ 1000) (l : Bool) : spec_l23Rule s l = some (ruleV t l) := by
 obtain ⟨_, hw⟩ := ft_of h
 unfold spec_l23Rule
 rw [spec_l22Parts_eq h hs, bd_some]
 cases t with
 | leaf c =>
  obtain ⟨h1, h2, h3, h4⟩ := leaf_ne (show isLf c = true from hw)
  simp only [Ft.opI, c126, c38, c124, c62]
  rw [beq_eq_false_iff_ne.2 h1, beq_eq_false_iff_ne.2 h2, beq_eq_false_iff_ne.2 h3, beq_eq_false_iff_ne.2 h4]; rfl
 | neg a => cases l <;> rfl
 | bin op a b =>
  simp only [Ft.wf, Bool.and_eq_true] at hw
  obtain ⟨h1, h2⟩ := op_ne hw.1.1
  rcases h2 with rfl | rfl | rfl <;> cases l <;> rfl
theorem impl_ruleFor_eq {t : Ft} (hw : t.wf = true) (l : Bool) : impl_ruleFor t.opI l = ruleV t l := by
 have hm : (mput (mput (mput (mput ([] : List (Int × Int)) 126 2) 38 4) 124 6) 62 8) = [(126, 2), (38, 4), (124, 6), (62, 8)] := by decide
 unfold impl_ruleFor
 rw [hm]
 cases t with
 | leaf c =>
  obtain ⟨h1, h2, h3, h4⟩ := leaf_ne (show isLf c = true from hw)
  simp only [Ft.opI, mget, c126, c38, c124, c62]
  rw [beq_eq_false_iff_ne.2 h1, beq_eq_false_iff_ne.2 h2, beq_eq_false_iff_ne.2 h3, beq_eq_false_iff_ne.2 h4]; rfl
 | neg a => cases l <;> rfl
 | bin op a b =>
  simp only [Ft.wf, Bool.and_eq_true] at hw
  obtain ⟨h1, h2⟩ := op_ne hw.1.1
  rcases h2 with rfl | rfl | rfl <;> cases l <;> rfl
def wS (l m : List ByteArray) : List ByteArray := setO ltF (l ++ m)
theorem spec_with {l : List ByteArray} {s : ByteArray} (hs : SS ltF l) (hl : l.length ≤ 1000000) : spec_l23With l s = some (wS l [s]) := spec_l23With_eq hs hl
theorem impl_wS {l m : List ByteArray} (hl : l.length + m.length ≤ 1000000) : impl_with l m = some (wS l m) := impl_with_eq hl
theorem SS_wS (l m : List ByteArray) : SS ltF (wS l m) := SS_setO STO_F
def premV (s : Sequent) (r : Int) (t : Ft) : List Sequent :=
 let l := lackS s.left (tx t.txt); let q := lackS s.right (tx t.txt)
 if r = 2 then [⟨l, wS s.right [t.tA]⟩]
 else if r = 3 then [⟨wS s.left [t.tA], q⟩]
 else if r = 4 then [⟨wS l [t.tA, t.tB], s.right⟩]
 else if r = 5 then [⟨s.left, wS q [t.tA]⟩, ⟨s.left, wS q [t.tB]⟩]
 else if r = 6 then [⟨wS l [t.tA], s.right⟩, ⟨wS l [t.tB], s.right⟩]
 else if r = 7 then [⟨s.left, wS q [t.tA, t.tB]⟩]
 else if r = 8 then [⟨l, wS s.right [t.tA]⟩, ⟨wS l [t.tB], s.right⟩]
 else [⟨wS s.left [t.tA], wS q [t.tB]⟩]
theorem SS_lack {l : List ByteArray} (h : SS ltF l) (s : ByteArray) : SS ltF (lackS l s) := SS.filter h _
theorem lack_len (l : List ByteArray) (s : ByteArray) : (lackS l s).length ≤ l.length := List.length_filter_le _ _
theorem insO_len {x : ByteArray} : ∀ {l : List ByteArray}, (insO ltF x l).length ≤ l.length + 1
 | [] => by simp [insO]
 | y :: l => by
  have := insO_len (x := x) (l := l)
  unfold insO
  split
  · simp only [List.length_cons]; omega
  · split
    · simp only [List.length_cons]; omega
    · simp only [List.length_cons]; omega
theorem setO_len : ∀ {l : List ByteArray}, (setO ltF l).length ≤ l.length
 | [] => by simp [setO]
 | x :: l => by
  have h1 := setO_len (l := l)
  have h2 := insO_len (x := x) (l := setO ltF l)
  unfold setO at *
  rw [List.foldr_cons, List.length_cons]; omega
theorem wS_two (l : List ByteArray) (a b : ByteArray) : wS (wS l [a]) [b] = wS l [a, b] := setO_ext STO_F fun x => by
 simp only [wS]
 simp only [List.mem_append, mem_setO STO_F, List.mem_cons, List.not_mem_nil, or_false]
 constructor
 · rintro ((h | h) | h)
   · exact .inl h
   · exact .inr (.inl h)
   · exact .inr (.inr h)
 · rintro (h | h | h)
   · exact .inl (.inl h)
   · exact .inl (.inr h)
   · exact .inr h
theorem app_put {l : List ByteArray} {s : ByteArray} (hs : SS ltF l) (hl : l.length ≤ 100000) : (bd (app [] l) (fun xs => bd (spec_l22Put xs s) (fun r => some r)) : Option (List ByteArray)) = some (wS l [s]) := spec_with hs (by omega)
theorem spec_l23Premises_eq {s : Sequent} {m : ByteArray} {t : Ft} (h : F? (bs m) = some t) (hs : m.size ≤ 1000) (h1 : SS ltF s.left) (h2 : SS ltF s.right) (l1 : s.left.length ≤ 1000) (l2 : s.right.length ≤ 1000)
 {r : Int} (hr : 2 ≤ r) (hr' : r ≤ 9) : spec_l23Premises s r m = some (premV s r t) := by
 obtain ⟨e, hw⟩ := ft_of h
 have g1 := SS_lack h1 m
 have g2 := SS_lack h2 m
 have k1 := lack_len s.left m
 have k2 := lack_len s.right m
 have w1 : ∀ (l : List ByteArray) a, (wS l [a]).length ≤ l.length + 1 := fun l a => by
  have := setO_len (l := l ++ [a]); unfold wS; simpa using this
 unfold spec_l23Premises premV
 rw [spec_l22Parts_eq h hs, bd_some, spec_l23Without_eq (by omega), bd_some, spec_l23Without_eq (by omega), bd_some, ← e]
 dsimp only
 have hc : r = 2 ∨ r = 3 ∨ r = 4 ∨ r = 5 ∨ r = 6 ∨ r = 7 ∨ r = 8 ∨ r = 9 := by omega
 rcases hc with rfl | rfl | rfl | rfl | rfl | rfl | rfl | rfl
 · rw [show ((2 : Int) == 2) = true from rfl, cond_true, spec_with h2 (by omega)]; rfl
 · rw [show ((3 : Int) == 2) = false from rfl, show ((3 : Int) == 3) = true from rfl, cond_false, cond_true, spec_with h1 (by omega)]; rfl
 · rw [show ((4 : Int) == 2) = false from rfl, show ((4 : Int) == 3) = false from rfl, show ((4 : Int) == 4) = true from rfl, cond_false, cond_false, cond_true, app_put g1 (by omega), bd_some,
    spec_with (SS_wS _ _) (by have := w1 (lackS s.left m) t.tA; omega), bd_some, wS_two]; rfl
 · rw [show ((5 : Int) == 2) = false from rfl, show ((5 : Int) == 3) = false from rfl, show ((5 : Int) == 4) = false from rfl, show ((5 : Int) == 5) = true from rfl, cond_false, cond_false, cond_false, cond_true, app_put g2 (by omega), bd_some, app_put g2 (by omega), bd_some]; rfl
 · rw [show ((6 : Int) == 2) = false from rfl, show ((6 : Int) == 3) = false from rfl, show ((6 : Int) == 4) = false from rfl, show ((6 : Int) == 5) = false from rfl, show ((6 : Int) == 6) = true from rfl, cond_false, cond_false, cond_false, cond_false, cond_true, app_put g1 (by omega), bd_some, app_put g1 (by omega), bd_some]; rfl
 · rw [show ((7 : Int) == 2) = false from rfl, show ((7 : Int) == 3) = false from rfl, show ((7 : Int) == 4) = false from rfl, show ((7 : Int) == 5) = false from rfl, show ((7 : Int) == 6) = false from rfl, show ((7 : Int) == 7) = true from rfl, cond_false, cond_false, cond_false, cond_false, cond_false, cond_true, app_put g2 (by omega), bd_some,
    spec_with (SS_wS _ _) (by have := w1 (lackS s.right m) t.tA; omega), bd_some, wS_two]; rfl
 · rw [show ((8 : Int) == 2) = false from rfl, show ((8 : Int) == 3) = false from rfl, show ((8 : Int) == 4) = false from rfl, show ((8 : Int) == 5) = false from rfl, show ((8 : Int) == 6) = false from rfl, show ((8 : Int) == 7) = false from rfl, show ((8 : Int) == 8) = true from rfl, cond_false, cond_false, cond_false, cond_false, cond_false, cond_false, cond_true,
    spec_with h2 (by omega), bd_some, spec_with g1 (by omega), bd_some]; rfl
 · rw [show ((9 : Int) == 2) = false from rfl, show ((9 : Int) == 3) = false from rfl, show ((9 : Int) == 4) = false from rfl, show ((9 : Int) == 5) = false from rfl, show ((9 : Int) == 6) = false from rfl, show ((9 : Int) == 7) = false from rfl, show ((9 : Int) == 8) = false from rfl, show ((9 : Int) == 9) = true from rfl, cond_false, cond_false, cond_false, cond_false, cond_false, cond_false, cond_false, cond_true,
    spec_with h1 (by omega), bd_some, app_put g2 (by omega), bd_some]; rfl
theorem impl_premisesOf_eq {s : Sequent} {t : Ft} (l1 : s.left.length ≤ 1000) (l2 : s.right.length ≤ 1000) {r : Int} (hr : ∃ l, r = ruleV t l) (hr0 : r ≠ 0) (hw : t.wf = true) : impl_premisesOf s r t.fo = some (premV s r t) := by
 have k1 := lack_len s.left (tx t.txt)
 have k2 := lack_len s.right (tx t.txt)
 obtain ⟨l, hl⟩ := hr
 unfold impl_premisesOf premV
 cases t with
 | leaf c => exact absurd hl hr0
 | neg a =>
  have hg : (Ft.neg a).fo.get = some ⟨126, a.fo, Fo.nil, tx (Ft.neg a).txt⟩ := rfl
  obtain ⟨n, hn1, _, hn2⟩ := Ft.get_eq a
  rw [hg, bd_some, impl_lacking_eq (by omega), bd_some, impl_lacking_eq (by omega), bd_some, bd_some]
  dsimp only
  cases l with
  | true =>
   obtain rfl : r = 2 := hl
   rw [show ((2 : Int) == 2) = true from rfl, cond_true, hn1, bd_some, hn2, impl_wS (by simp; omega)]; rfl
  | false =>
   obtain rfl : r = 3 := hl
   rw [show ((3 : Int) == 2) = false from rfl, show ((3 : Int) == 3) = true from rfl, cond_false, cond_true, hn1, bd_some, hn2, impl_wS (by simp; omega)]; rfl
 | bin op a b =>
  have hg : (Ft.bin op a b).fo.get = some ⟨op.toNat, a.fo, b.fo, tx (Ft.bin op a b).txt⟩ := rfl
  obtain ⟨n, hn1, _, hn2⟩ := Ft.get_eq a
  obtain ⟨n', hn1', _, hn2'⟩ := Ft.get_eq b
  simp only [Ft.wf, Bool.and_eq_true] at hw
  obtain ⟨_, h2⟩ := op_ne hw.1.1
  rw [hg, bd_some, impl_lacking_eq (by omega), bd_some, impl_lacking_eq (by omega), bd_some, bd_some]
  dsimp only
  rcases h2 with rfl | rfl | rfl <;> cases l
  · obtain rfl : r = 5 := hl
    rw [show ((5 : Int) == 2) = false from rfl, show ((5 : Int) == 3) = false from rfl, show ((5 : Int) == 4) = false from rfl, show ((5 : Int) == 5) = true from rfl, cond_false, cond_false, cond_false, cond_true,
     hn1, bd_some, hn2, impl_wS (by simp; omega), bd_some, hn1', bd_some, hn2', impl_wS (by simp; omega)]; rfl
  · obtain rfl : r = 4 := hl
    rw [show ((4 : Int) == 2) = false from rfl, show ((4 : Int) == 3) = false from rfl, show ((4 : Int) == 4) = true from rfl, cond_false, cond_false, cond_true,
     hn1, bd_some, hn1', bd_some, hn2, hn2', impl_wS (by simp; omega)]; rfl
  · obtain rfl : r = 7 := hl
    rw [show ((7 : Int) == 2) = false from rfl, show ((7 : Int) == 3) = false from rfl, show ((7 : Int) == 4) = false from rfl, show ((7 : Int) == 5) = false from rfl, show ((7 : Int) == 6) = false from rfl, show ((7 : Int) == 7) = true from rfl, cond_false, cond_false, cond_false, cond_false, cond_false, cond_true,
     hn1, bd_some, hn1', bd_some, hn2, hn2', impl_wS (by simp; omega)]; rfl
  · obtain rfl : r = 6 := hl
    rw [show ((6 : Int) == 2) = false from rfl, show ((6 : Int) == 3) = false from rfl, show ((6 : Int) == 4) = false from rfl, show ((6 : Int) == 5) = false from rfl, show ((6 : Int) == 6) = true from rfl, cond_false, cond_false, cond_false, cond_false, cond_true,
     hn1, bd_some, hn2, impl_wS (by simp; omega), bd_some, hn1', bd_some, hn2', impl_wS (by simp; omega)]; rfl
  · obtain rfl : r = 9 := hl
    rw [show ((9 : Int) == 2) = false from rfl, show ((9 : Int) == 3) = false from rfl, show ((9 : Int) == 4) = false from rfl, show ((9 : Int) == 5) = false from rfl, show ((9 : Int) == 6) = false from rfl, show ((9 : Int) == 7) = false from rfl, show ((9 : Int) == 8) = false from rfl, cond_false, cond_false, cond_false, cond_false, cond_false, cond_false, cond_false,
     hn1, bd_some, hn2, impl_wS (by simp; omega), bd_some, hn1', bd_some, hn2', impl_wS (by simp; omega)]; rfl
  · obtain rfl : r = 8 := hl
    rw [show ((8 : Int) == 2) = false from rfl, show ((8 : Int) == 3) = false from rfl, show ((8 : Int) == 4) = false from rfl, show ((8 : Int) == 5) = false from rfl, show ((8 : Int) == 6) = false from rfl, show ((8 : Int) == 7) = false from rfl, show ((8 : Int) == 8) = true from rfl, cond_false, cond_false, cond_false, cond_false, cond_false, cond_false, cond_true,
     hn1, bd_some, hn2, impl_wS (by simp; omega), bd_some, hn1', bd_some, hn2', impl_wS (by simp; omega)]; rfl
end Go.PF
namespace Go.PF
open Go.Pu
theorem good_ft {s : ByteArray} (h : goodB s = true) : ∃ t : Ft, F? (bs s) = some t ∧ t.wf = true ∧ s = tx t.txt ∧ s.size ≤ 80 ∧ s.size = t.txt.length := by
 obtain ⟨t, h1, h2⟩ := good_iff.1 h
 obtain ⟨e, hw⟩ := ft_of h1
 exact ⟨t, h1, hw, e, h2, by rw [e, tx_size]⟩
def bigS (l : List ByteArray) : Option ByteArray := l.find? fun x => decide (1 < x.size)
def mainV (s : Sequent) : Option (ByteArray × Bool) := match bigS s.left with
 | some m => some (m, true)
 | none => match bigS s.right with
  | some m => some (m, false)
  | none => none
theorem find_loop {l : List ByteArray} (hl : l.length ≤ 1000000) {X : Type} (v : ByteArray → X) {body : Int → Option (Lp Int X)}
 (hb : ∀ (i : Nat) y, l[i]? = some y → body (i : Int) = bif decide (1 < y.size) then some (.rt (v y)) else some (.nx ((i : Int) + 1))) (he : body (l.length : Int) = some (.bk (l.length : Int))) :
 iter body 0 = some (match bigS l with | some m => .rt (v m) | none => .go (l.length : Int)) := by
 have key : ∀ (m : List ByteArray) (k : Nat), k + m.length = l.length → (∀ i y, m[i]? = some y → l[k + i]? = some y) → iter body (k : Int) = some (match bigS m with | some m => .rt (v m) | none => .go (l.length : Int)) := by
  intro m
  induction m with
  | nil =>
   intro k hk _
   simp only [List.length_nil, Nat.add_zero] at hk
   subst hk
   rw [iter_bk he]; rfl
  | cons y m ih =>
   intro k hk hm
   have h0 := hb k y (by have := hm 0 y rfl; simpa using this)
   cases hp : decide (1 < y.size) with
   | true => rw [hp] at h0; rw [iter_rt h0]; simp only [bigS, List.find?_cons, hp]
   | false =>
    rw [hp] at h0
    rw [iter_nx h0]
    have : bigS (y :: m) = bigS m := by simp only [bigS, List.find?_cons, hp]
    rw [this]
    exact ih (k + 1) (by simp at hk; omega) fun i z hz => by have := hm (i + 1) z (by simpa using hz); rwa [show k + (i + 1) = k + 1 + i by omega] at this
 have := key l 0 (by simp) (by simp)
 simpa using this
theorem spec_l23Main_eq {s : Sequent} (l1 : s.left.length ≤ 1000000) (l2 : s.right.length ≤ 1000000) :
 spec_l23Main s = some (match mainV s with | some (m, b) => (m, b, true) | none => (tx [], false, false)) := by
 unfold spec_l23Main mainV
 rw [find_loop (l := s.left) l1 (v := fun m => (m, true, true)) (fun i y hy => by
  have hi := lt_of_get hy
  rw [bifT (decide_eq_true (by rw [len_eq]; omega)), ix_get, hy, bd_some, bd_some, show decide (1 < (y.size : Int)) = decide (1 < y.size) from decide_eq_decide.2 (by omega), show wr ((i : Int) + 1) = (i : Int) + 1 from wr_of _ (by omega) (by omega)]) (by
  rw [bifF (decide_eq_false (by rw [len_eq]; omega))])]
 cases bigS s.left with
 | some m => rfl
 | none =>
  dsimp only
  rw [bdR_go, find_loop (l := s.right) l2 (v := fun m => (m, false, true)) (fun i y hy => by
   have hi := lt_of_get hy
   rw [bifT (decide_eq_true (by rw [len_eq]; omega)), ix_get, hy, bd_some, bd_some, show decide (1 < (y.size : Int)) = decide (1 < y.size) from decide_eq_decide.2 (by omega), show wr ((i : Int) + 1) = (i : Int) + 1 from wr_of _ (by omega) (by omega)]) (by
   rw [bifF (decide_eq_false (by rw [len_eq]; omega))])]
  cases bigS s.right with
  | some m => rfl
  | none => rfl
theorem ruleV_zero {t : Ft} (l : Bool) : (ruleV t l = 0 ↔ t.txt.length ≤ 1) := by
 cases t with
 | leaf c => simp [ruleV, Ft.txt]
 | neg a =>
  have := List.length_pos_iff.2 a.txt_ne
  simp only [ruleV, Ft.txt, List.length_cons]
  constructor
  · intro h; cases l <;> simp at h
  · intro h; omega
 | bin op a b =>
  simp only [ruleV, Ft.txt, List.length_cons, List.length_append]
  constructor
  · intro h
    split at h
    · cases l <;> simp at h
    · split at h
      · cases l <;> simp at h
      · cases l <;> simp at h
  · intro h; omega
theorem ruleV_bd (t : Ft) (l : Bool) : 0 ≤ ruleV t l ∧ ruleV t l ≤ 9 ∧ ruleV t l ≠ 1 := by
 cases t with
 | leaf c => simp [ruleV]
 | neg a => cases l <;> simp [ruleV]
 | bin op a b =>
  simp only [ruleV]
  split
  · cases l <;> simp
  · split
    · cases l <;> simp
    · cases l <;> simp
theorem side_loop {l : List ByteArray} (hg : ∀ x ∈ l, goodB x = true) (b : Bool) {X : Type} (v : Fo → Int → X) {body : Nat → ByteArray → Unit → Option (Lp Unit X)}
 (hb : ∀ i y u, body i y u = bd (impl_parse y) fun r => bd r.1.get fun n => bif !(impl_ruleFor n.op b == 0) then some (.rt (v r.1 (impl_ruleFor n.op b))) else some (.nx ())) :
 ∃ q, forL l body () = some q ∧ ((bigS l = none ∧ q = .go ()) ∨ ∃ m t, bigS l = some m ∧ m ∈ l ∧ F? (bs m) = some t ∧ q = .rt (v t.fo (ruleV t b))) := by
 have key : ∀ (m : List ByteArray) (k : Nat), (∀ x ∈ m, goodB x = true) → ∃ q, forLFrom body m k () = some q ∧ ((bigS m = none ∧ q = .go ()) ∨ ∃ z t, bigS m = some z ∧ z ∈ m ∧ F? (bs z) = some t ∧ q = .rt (v t.fo (ruleV t b))) := by
  intro m
  induction m with
  | nil => intro k _; exact ⟨_, rfl, .inl ⟨rfl, rfl⟩⟩
  | cons y m ih =>
   intro k hm
   obtain ⟨t, h1, h2, h3, h4, h5⟩ := good_ft (hm y (List.mem_cons_self ..))
   obtain ⟨n, g1, g2, _⟩ := Ft.get_eq t
   have e : body k y () = bif !(ruleV t b == 0) then some (.rt (v t.fo (ruleV t b))) else some (.nx ()) := by
    rw [hb, impl_parse_good h1 h4, bd_some, g1, bd_some, g2, impl_ruleFor_eq h2]
   by_cases hz : 1 < y.size
   · have : ruleV t b ≠ 0 := fun g => by have := (ruleV_zero b).1 g; omega
     rw [beq_eq_false_iff_ne.2 this, Bool.not_false, cond_true] at e
     refine ⟨.rt (v t.fo (ruleV t b)), by rw [forLFrom, e], .inr ⟨y, t, by simp [bigS, hz], List.mem_cons_self .., h1, rfl⟩⟩
   · have : ruleV t b = 0 := (ruleV_zero b).2 (by omega)
     rw [this] at e
     obtain ⟨q, q1, q2⟩ := ih (k + 1) fun x hx => hm x (List.mem_cons_of_mem _ hx)
     have hbig : bigS (y :: m) = bigS m := by simp [bigS, hz]
     refine ⟨q, by rw [forLFrom_nx (s' := ()) (by rw [e]; rfl), q1], ?_⟩
     rw [hbig]
     rcases q2 with q2 | ⟨z, t', r1, r2, r3, r4⟩
     · exact .inl q2
     · exact .inr ⟨z, t', r1, List.mem_cons_of_mem _ r2, r3, r4⟩
 exact key l 0 hg
theorem impl_mainOf_eq {s : Sequent} (h1 : ∀ x ∈ s.left, goodB x = true) (h2 : ∀ x ∈ s.right, goodB x = true) :
 (mainV s = none ∧ impl_mainOf s = some (.nil, 0)) ∨ ∃ m b t, mainV s = some (m, b) ∧ F? (bs m) = some t ∧ m ∈ (bif b then s.left else s.right) ∧ impl_mainOf s = some (t.fo, ruleV t b) := by
 unfold impl_mainOf mainV
 have c2 : chk (len [s.left, s.right]) = some 2 := by unfold chk; rw [if_pos (by rw [len_eq]; simp)]; rfl
 rw [c2, bd_some]
 unfold forR
 obtain ⟨q, e1, hq⟩ := side_loop h1 true (v := fun f r => (Lp.rt (f, r) : Lp Unit (Fo × Int))) (body := fun i133 y132 s133 => bd (PF.impl_parse y132) (fun r190 => bd (r190.1.get) (fun y198 => (bif (!((PF.impl_ruleFor y198.op true) == 0)) then some (Lp.rt (Lp.rt (r190.1, (PF.impl_ruleFor y198.op true)))) else some (Lp.nx ()))))) (fun _ _ _ => rfl)
 obtain ⟨q', e2, hq'⟩ := side_loop h2 false (v := fun f r => (Lp.rt (f, r) : Lp Unit (Fo × Int))) (body := fun i133 y132 s133 => bd (PF.impl_parse y132) (fun r190 => bd (r190.1.get) (fun y198 => (bif (!((PF.impl_ruleFor y198.op false) == 0)) then some (Lp.rt (Lp.rt (r190.1, (PF.impl_ruleFor y198.op false)))) else some (Lp.nx ()))))) (fun _ _ _ => rfl)
 show (_ ∧ bdR (forFrom _ 2 0 ()) _ _ = _) ∨ _
 rw [show (2 : Nat) - 0 = 2 from rfl]
 have z0 : ((((0 : Nat) : Int)) == 0) = true := rfl
 have z1 : ((((0 + 1 : Nat) : Int)) == 0) = false := rfl
 rcases hq with ⟨b1, rfl⟩ | ⟨m, t, b1, b2, b3, rfl⟩
 · rw [b1]
   dsimp only
   rcases hq' with ⟨b1', rfl⟩ | ⟨m, t, b1', b2, b3, rfl⟩
   · rw [b1']
     refine .inl ⟨rfl, ?_⟩
     simp only [forFrom, z0, z1, show ix [s.left, s.right] ((0 : Nat) : Int) = some s.left from rfl, show ix [s.left, s.right] ((0 + 1 : Nat) : Int) = some s.right from rfl, bd_some]
     rw [e1, bdR_go, e2, bdR_go]; rfl
   · rw [b1']
     refine .inr ⟨m, false, t, rfl, b3, b2, ?_⟩
     simp only [forFrom, z0, z1, show ix [s.left, s.right] ((0 : Nat) : Int) = some s.left from rfl, show ix [s.left, s.right] ((0 + 1 : Nat) : Int) = some s.right from rfl, bd_some]
     rw [e1, bdR_go, e2, bdR_rt]; rfl
 · rw [b1]
   refine .inr ⟨m, true, t, rfl, b3, b2, ?_⟩
   simp only [forFrom, z0, z1, show ix [s.left, s.right] ((0 : Nat) : Int) = some s.left from rfl, bd_some]
   rw [e1, bdR_rt]; rfl
def szL (l : List ByteArray) : Nat := (l.map (·.size)).sum
def szQ (s : Sequent) : Nat := szL s.left + szL s.right
theorem szL_ins {x : ByteArray} : ∀ {l : List ByteArray}, szL (insO ltF x l) ≤ x.size + szL l
 | [] => by simp [insO, szL]
 | y :: l => by
  have := szL_ins (x := x) (l := l)
  unfold szL at *
  unfold insO
  split
  · simp only [List.map_cons, List.sum_cons]; omega
  · split
    · simp only [List.map_cons, List.sum_cons]; omega
    · simp only [List.map_cons, List.sum_cons]; omega
theorem szL_set : ∀ {l : List ByteArray}, szL (setO ltF l) ≤ szL l
 | [] => by simp [setO]
 | x :: l => by
  have h1 := szL_set (l := l)
  have h2 := szL_ins (x := x) (l := setO ltF l)
  unfold setO at *
  rw [List.foldr_cons]
  have : szL (x :: l) = x.size + szL l := by simp [szL]
  omega
theorem szL_w (l m : List ByteArray) : szL (wS l m) ≤ szL l + szL m := by
 have := szL_set (l := l ++ m)
 unfold wS
 have e : szL (l ++ m) = szL l + szL m := by simp [szL]
 omega
theorem szL_lack {m : ByteArray} : ∀ {l : List ByteArray}, szL (lackS l m) + (if m ∈ l then m.size else 0) ≤ szL l
 | [] => by simp [lackS, szL]
 | x :: l => by
  have ih := szL_lack (m := m) (l := l)
  have hx : szL (x :: l) = x.size + szL l := by simp [szL]
  by_cases e : x = m
  · subst e
    have h1 : lackS (x :: l) x = lackS l x := by simp [lackS]
    rw [h1, hx, if_pos (List.mem_cons_self ..)]
    split at ih <;> omega
  · have h1 : lackS (x :: l) m = x :: lackS l m := by simp [lackS, e]
    have h2 : szL (x :: lackS l m) = x.size + szL (lackS l m) := by simp [szL]
    have h3 : (m ∈ x :: l) ↔ m ∈ l := by simp [Ne.symm (show x ≠ m from e)]
    rw [h1, h2, hx]
    by_cases g : m ∈ l
    · rw [if_pos g] at ih; rw [if_pos (h3.2 g)]; omega
    · rw [if_neg g] at ih; rw [if_neg fun q => g (h3.1 q)]; omega
theorem szL_one (a : ByteArray) : szL [a] = a.size := by simp [szL]
theorem szL_two (a b : ByteArray) : szL [a, b] = a.size + b.size := by simp [szL]
theorem prem_sz {s : Sequent} {t : Ft} {b : Bool} (hm : tx t.txt ∈ (bif b then s.left else s.right)) (h0 : ruleV t b ≠ 0) : ∀ p ∈ premV s (ruleV t b) t, szQ p < szQ s ∧ p.left.length ≤ s.left.length + 2 ∧ p.right.length ≤ s.right.length + 2 := by
 have wl : ∀ l m, (wS l m).length ≤ l.length + m.length := fun l m => by
  have := setO_len (l := l ++ m)
  unfold wS; rw [List.length_append] at this; exact this
 have hL := szL_lack (m := tx t.txt) (l := s.left)
 have hR := szL_lack (m := tx t.txt) (l := s.right)
 have nL := lack_len s.left (tx t.txt)
 have nR := lack_len s.right (tx t.txt)
 have hsz : (tx t.txt).size = t.txt.length := tx_size _
 have hp : 0 < t.txt.length := List.length_pos_iff.2 t.txt_ne
 unfold szQ
 cases t with
 | leaf c => exact absurd rfl h0
 | neg a =>
  have ea : (Ft.neg a).tA.size + 1 = (Ft.neg a).txt.length := by
   show (tx a.txt).size + 1 = (126 :: a.txt).length
   rw [tx_size, List.length_cons]
  cases b with
  | true =>
   have hm : tx (Ft.neg a).txt ∈ s.left := hm
   rw [if_pos hm] at hL
   have w := szL_w s.right [(Ft.neg a).tA]
   have w' := wl s.right [(Ft.neg a).tA]
   rw [szL_one] at w
   intro p hp
   have hp : p ∈ [(⟨lackS s.left (tx (Ft.neg a).txt), wS s.right [(Ft.neg a).tA]⟩ : Sequent)] := hp
   rw [List.mem_singleton.1 hp]
   simp only [List.length_cons, List.length_nil] at w'
   exact ⟨by dsimp only; omega, by dsimp only; omega, by dsimp only; omega⟩
  | false =>
   have hm : tx (Ft.neg a).txt ∈ s.right := hm
   rw [if_pos hm] at hR
   have w := szL_w s.left [(Ft.neg a).tA]
   have w' := wl s.left [(Ft.neg a).tA]
   rw [szL_one] at w
   intro p hp
   have hp : p ∈ [(⟨wS s.left [(Ft.neg a).tA], lackS s.right (tx (Ft.neg a).txt)⟩ : Sequent)] := hp
   rw [List.mem_singleton.1 hp]
   simp only [List.length_cons, List.length_nil] at w'
   exact ⟨by dsimp only; omega, by dsimp only; omega, by dsimp only; omega⟩
 | bin op a b' =>
  have ea : (Ft.bin op a b').tA.size + (Ft.bin op a b').tB.size + 3 = (Ft.bin op a b').txt.length := by
   show (tx a.txt).size + (tx b'.txt).size + 3 = (40 :: (a.txt ++ op :: (b'.txt ++ [41]))).length
   rw [tx_size, tx_size]; simp only [List.length_cons, List.length_append, List.length_nil]; omega
  generalize hA : (Ft.bin op a b').tA = A at *
  generalize hB : (Ft.bin op a b').tB = B at *
  have q : ∀ (l m : List ByteArray), szL (wS l m) ≤ szL l + szL m := szL_w
  have q1 := q s.left [A]
  have q2 := q s.right [A]
  have q3 := q (lackS s.left (tx (Ft.bin op a b').txt)) [A]
  have q4 := q (lackS s.left (tx (Ft.bin op a b').txt)) [B]
  have q5 := q (lackS s.right (tx (Ft.bin op a b').txt)) [A]
  have q6 := q (lackS s.right (tx (Ft.bin op a b').txt)) [B]
  have q7 := q (lackS s.left (tx (Ft.bin op a b').txt)) [A, B]
  have q8 := q (lackS s.right (tx (Ft.bin op a b').txt)) [A, B]
  have p1 := wl s.left [A]
  have p2 := wl s.right [A]
  have p3 := wl (lackS s.left (tx (Ft.bin op a b').txt)) [A]
  have p4 := wl (lackS s.left (tx (Ft.bin op a b').txt)) [B]
  have p5 := wl (lackS s.right (tx (Ft.bin op a b').txt)) [A]
  have p6 := wl (lackS s.right (tx (Ft.bin op a b').txt)) [B]
  have p7 := wl (lackS s.left (tx (Ft.bin op a b').txt)) [A, B]
  have p8 := wl (lackS s.right (tx (Ft.bin op a b').txt)) [A, B]
  simp only [szL_one, szL_two] at q1 q2 q3 q4 q5 q6 q7 q8
  simp only [List.length_cons, List.length_nil] at p1 p2 p3 p4 p5 p6 p7 p8
  generalize hm0 : tx (Ft.bin op a b').txt = m at *
  have fin1 : ∀ p ∈ [(⟨wS (lackS s.left m) [A, B], s.right⟩ : Sequent)], m ∈ s.left → szL p.left + szL p.right < szL s.left + szL s.right ∧ p.left.length ≤ s.left.length + 2 ∧ p.right.length ≤ s.right.length + 2 := by
   intro p hp hm; rw [if_pos hm] at hL; rw [List.mem_singleton.1 hp]; exact ⟨by dsimp only; omega, by dsimp only; omega, by dsimp only; omega⟩
  have fin2 : ∀ p ∈ [(⟨s.left, wS (lackS s.right m) [A]⟩ : Sequent), ⟨s.left, wS (lackS s.right m) [B]⟩], m ∈ s.right → szL p.left + szL p.right < szL s.left + szL s.right ∧ p.left.length ≤ s.left.length + 2 ∧ p.right.length ≤ s.right.length + 2 := by
   intro p hp hm; rw [if_pos hm] at hR
   rcases List.mem_cons.1 hp with rfl | hp
   · exact ⟨by dsimp only; omega, by dsimp only; omega, by dsimp only; omega⟩
   · rw [List.mem_singleton.1 hp]; exact ⟨by dsimp only; omega, by dsimp only; omega, by dsimp only; omega⟩
  have fin3 : ∀ p ∈ [(⟨wS (lackS s.left m) [A], s.right⟩ : Sequent), ⟨wS (lackS s.left m) [B], s.right⟩], m ∈ s.left → szL p.left + szL p.right < szL s.left + szL s.right ∧ p.left.length ≤ s.left.length + 2 ∧ p.right.length ≤ s.right.length + 2 := by
   intro p hp hm; rw [if_pos hm] at hL
   rcases List.mem_cons.1 hp with rfl | hp
   · exact ⟨by dsimp only; omega, by dsimp only; omega, by dsimp only; omega⟩
   · rw [List.mem_singleton.1 hp]; exact ⟨by dsimp only; omega, by dsimp only; omega, by dsimp only; omega⟩
  have fin4 : ∀ p ∈ [(⟨s.left, wS (lackS s.right m) [A, B]⟩ : Sequent)], m ∈ s.right → szL p.left + szL p.right < szL s.left + szL s.right ∧ p.left.length ≤ s.left.length + 2 ∧ p.right.length ≤ s.right.length + 2 := by
   intro p hp hm; rw [if_pos hm] at hR; rw [List.mem_singleton.1 hp]; exact ⟨by dsimp only; omega, by dsimp only; omega, by dsimp only; omega⟩
  have fin5 : ∀ p ∈ [(⟨lackS s.left m, wS s.right [A]⟩ : Sequent), ⟨wS (lackS s.left m) [B], s.right⟩], m ∈ s.left → szL p.left + szL p.right < szL s.left + szL s.right ∧ p.left.length ≤ s.left.length + 2 ∧ p.right.length ≤ s.right.length + 2 := by
   intro p hp hm; rw [if_pos hm] at hL
   rcases List.mem_cons.1 hp with rfl | hp
   · exact ⟨by dsimp only; omega, by dsimp only; omega, by dsimp only; omega⟩
   · rw [List.mem_singleton.1 hp]; exact ⟨by dsimp only; omega, by dsimp only; omega, by dsimp only; omega⟩
  have fin6 : ∀ p ∈ [(⟨wS s.left [A], wS (lackS s.right m) [B]⟩ : Sequent)], m ∈ s.right → szL p.left + szL p.right < szL s.left + szL s.right ∧ p.left.length ≤ s.left.length + 2 ∧ p.right.length ≤ s.right.length + 2 := by
   intro p hp hm; rw [if_pos hm] at hR; rw [List.mem_singleton.1 hp]; exact ⟨by dsimp only; omega, by dsimp only; omega, by dsimp only; omega⟩
  intro p hp
  unfold ruleV at hp
  dsimp only at hp
  by_cases o1 : op = 38
  · rw [if_pos o1] at hp
    cases b with
    | true => exact fin1 p (by rw [← hA, ← hB, ← hm0]; exact hp) hm
    | false => exact fin2 p (by rw [← hA, ← hB, ← hm0]; exact hp) hm
  · rw [if_neg o1] at hp
    by_cases o2 : op = 124
    · rw [if_pos o2] at hp
      cases b with
      | true => exact fin3 p (by rw [← hA, ← hB, ← hm0]; exact hp) hm
      | false => exact fin4 p (by rw [← hA, ← hB, ← hm0]; exact hp) hm
    · rw [if_neg o2] at hp
      cases b with
      | true => exact fin5 p (by rw [← hA, ← hB, ← hm0]; exact hp) hm
      | false => exact fin6 p (by rw [← hA, ← hB, ← hm0]; exact hp) hm
end Go.PF
namespace Go.PF
open Go.Pu
theorem big_none {l : List ByteArray} (h : bigS l = none) : ∀ x ∈ l, x.size ≤ 1 := by
 intro x hx
 have := List.find?_eq_none.1 h x hx
 simp at this; omega
theorem spec_l22Letter_eq {y : ByteArray} {c : UInt8} (h : bs y = [c]) : spec_l22Letter y = some (decide (97 ≤ c) && decide (c ≤ 102)) := by
 unfold spec_l22Letter
 have hz := bs_len y
 rw [h] at hz
 have hi : ixS y 0 = some (c.toNat : Int) := ixS_at (k := 0) (by rw [h]; rfl)
 rw [show ((y.size : Int) == 1) = true by rw [beq_iff_eq, ← hz]; rfl, cond_true, hi, bd_some, bd_some, cge]
 cases decide (97 ≤ c) with
 | false => rfl
 | true => rw [cond_true, bd_some, cle]; rfl
def bitT (s : Int) (y : ByteArray) : Int := match bs y with
 | c :: _ => bif decide (97 ≤ c) && decide (c ≤ 102) then orK true 64 s (shlK true 64 1 (wrk false 8 ((c.toNat : Int) - 97))) else s
 | [] => s
theorem one_byte {y : ByteArray} (hg : goodB y = true) (h1 : y.size ≤ 1) : ∃ c, bs y = [c] := by
 obtain ⟨t, g1, g2, g3, g4, g5⟩ := good_ft hg
 have hp : 0 < t.txt.length := List.length_pos_iff.2 t.txt_ne
 have : (bs y).length = 1 := by rw [bs_len]; omega
 exact List.length_eq_one_iff.1 this
theorem nn_ok {c : UInt8} : nn (wrk false 8 ((c.toNat : Int) - 97)) = some () := by
 unfold nn wrk
 rw [if_neg]
 simp only [Bool.false_and]
 simp
 omega
theorem spec_l23Open_eq {l : List ByteArray} (hg : ∀ x ∈ l, goodB x = true) (h1 : ∀ x ∈ l, x.size ≤ 1) : spec_l23Open l = some (l.foldl bitT 0) := by
 unfold spec_l23Open
 rw [forL_fold bitT (fun i y t hy => by
  obtain ⟨c, hc⟩ := one_byte (hg y (List.mem_of_getElem? hy)) (h1 y (List.mem_of_getElem? hy))
  have hi : ixS y 0 = some (c.toNat : Int) := ixS_at (k := 0) (by rw [hc]; rfl)
  rw [spec_l22Letter_eq hc, bd_some]
  unfold bitT
  rw [hc]
  dsimp only
  cases decide (97 ≤ c) && decide (c ≤ 102) with
  | false => rfl
  | true => rw [cond_true, cond_true, hi, bd_some, nn_ok, bd_some])]
 rfl
structure OkS (st : List SeqStep) : Prop where
 len : st.length ≤ 200
 seq : ∀ y ∈ st, seqB y.seq = true
def Ends (o : l23Search) (ok : Bool) (x : seqSearch) : Prop :=
 (ok = true ∧ o = ⟨x.steps, false, 0, false⟩ ∧ x.open_ = none ∧ OkS x.steps) ∨
 (ok = false ∧ ((o.bad = true ∧ o.open_ = false ∧ x.open_ = none) ∨ ∃ q, o.open_ = true ∧ x.open_ = some q ∧ seqB q = true ∧ bigS q.left = none ∧ o.bits = q.left.foldl bitT 0))
def Both (r1 : Sequent → l23Search → Option l23Search) (r2 : seqSearch → Sequent → Option (Bool × seqSearch)) (s : Sequent) : Prop :=
 ∀ st : List SeqStep, OkS st → ∃ o ok x, r1 s ⟨st, false, 0, false⟩ = some o ∧ r2 ⟨st, none⟩ s = some (ok, x) ∧ Ends o ok x
theorem spec_put {st : List SeqStep} (h : st.length ≤ 200) (p : SeqStep) : spec_l23Put ⟨st, false, 0, false⟩ p = some ⟨st ++ [p], false, 0, decide (200 < st.length + 1)⟩ := by
 unfold spec_l23Put
 dsimp only
 rw [app_ok (by simp; unfold lim; omega), bd_some]
 congr 2
 exact decide_eq_decide.2 (by rw [len_eq, List.length_append]; simp only [List.length_cons, List.length_nil]; omega)
theorem prem_loop {ps : List Sequent} (hp : ps.length ≤ 2) {r1 : Sequent → l23Search → Option l23Search} {r2 : seqSearch → Sequent → Option (Bool × seqSearch)} (hr : ∀ p ∈ ps, Both r1 r2 p) {ZS ZI : Type} (zi : seqSearch → ZI)
 {fb : (List SeqStep) × Bool × Int × Bool × Int × Int × Int → Option (Lp ((List SeqStep) × Bool × Int × Bool × Int × Int × Int) l23Search)}
 (hf : ∀ s, fb s = (bif (decide (s.2.2.2.2.2.2 < (len ps))) then bd (ix ps s.2.2.2.2.2.2) (fun x120307 => bd (r1 x120307 (l23Search.mk s.1 s.2.1 s.2.2.1 s.2.2.2.1)) (fun r129301 => (bif (bif r129301.open_ then true else r129301.bad) then some (Lp.rt r129301) else (bif (s.2.2.2.2.2.2 == 0) then some (Lp.nx (r129301.steps, r129301.open_, r129301.bits, r129301.bad, (wr ((len r129301.steps) - 1)), s.2.2.2.2.2.1, (wr (s.2.2.2.2.2.2 + 1)))) else some (Lp.nx (r129301.steps, r129301.open_, r129301.bits, r129301.bad, s.2.2.2.2.1, (wr ((len r129301.steps) - 1)), (wr (s.2.2.2.2.2.2 + 1)))))))) else some (Lp.bk (s.1, s.2.1, s.2.2.1, s.2.2.2.1, s.2.2.2.2.1, s.2.2.2.2.2.1, s.2.2.2.2.2.2))))
 {gb : Nat → (List SeqStep) × Int × Int × (Option Sequent) → Option (Lp ((List SeqStep) × Int × Int × (Option Sequent)) ZI)}
 (hg : ∀ i s, gb i s = bd (ix ps ((i : Nat) : Int)) (fun x556 => bd (r2 (seqSearch.mk s.1 s.2.2.2) x556) (fun r573 => (bif (!r573.1) then some (Lp.rt (zi r573.2)) else (bif (((i : Nat) : Int) == 0) then some (Lp.nx (r573.2.steps, (wr ((len r573.2.steps) - 1)), s.2.2.1, r573.2.open_)) else some (Lp.nx (r573.2.steps, s.2.1, (wr ((len r573.2.steps) - 1)), r573.2.open_))))))) :
 ∀ (rest : List Sequent) (k : Nat) (st : List SeqStep) (a b : Int), ps.drop k = rest → k ≤ ps.length → OkS st →
  (∃ st' a' b' i, iter fb (st, false, 0, false, a, b, (k : Int)) = some (.go (st', false, 0, false, a', b', i)) ∧ forFrom gb rest.length k (st, a, b, none) = some (.go (st', a', b', none)) ∧ OkS st') ∨
  (∃ o x, iter fb (st, false, 0, false, a, b, (k : Int)) = some (.rt o) ∧ forFrom gb rest.length k (st, a, b, none) = some (.rt (zi x)) ∧ Ends o false x) := by
 intro rest
 induction rest with
 | nil =>
  intro k st a b hk hle hst
  have e : ps.length ≤ k := by
   have := congrArg List.length hk
   rw [List.length_drop, List.length_nil] at this; omega
  refine .inl ⟨st, a, b, (k : Int), iter_bk ?_, rfl, hst⟩
  rw [hf, bifF (decide_eq_false (by rw [len_eq]; show ¬ ((k : Int) < _); omega))]
 | cons p rest ih =>
  intro k st a b hk hle hst
  have hkl : k < ps.length := by
   have := congrArg List.length hk
   rw [List.length_drop, List.length_cons] at this; omega
  have hx : ps[k]? = some p := by
   have : (ps.drop k)[0]? = some p := by rw [hk]; rfl
   rwa [List.getElem?_drop, Nat.add_zero] at this
  have hk' : ps.drop (k + 1) = rest := by rw [← List.tail_drop, hk]; rfl
  obtain ⟨o, ok, x, e1, e2, hE⟩ := hr p (List.mem_of_getElem? hx) st hst
  have f1 : fb (st, false, 0, false, a, b, (k : Int)) = (bif (bif o.open_ then true else o.bad) then some (Lp.rt o) else (bif ((k : Int) == 0) then some (Lp.nx (o.steps, o.open_, o.bits, o.bad, (wr ((len o.steps) - 1)), b, (wr ((k : Int) + 1)))) else some (Lp.nx (o.steps, o.open_, o.bits, o.bad, a, (wr ((len o.steps) - 1)), (wr ((k : Int) + 1)))))) := by
   rw [hf, bifT (decide_eq_true (by rw [len_eq]; show (k : Int) < _; omega))]
   dsimp only
   rw [ix_get, hx, bd_some, e1, bd_some]
  have g1 : gb k (st, a, b, none) = (bif (!ok) then some (Lp.rt (zi x)) else (bif (((k : Nat) : Int) == 0) then some (Lp.nx (x.steps, (wr ((len x.steps) - 1)), b, x.open_)) else some (Lp.nx (x.steps, a, (wr ((len x.steps) - 1)), x.open_)))) := by
   rw [hg]
   dsimp only
   rw [ix_get, hx, bd_some, e2, bd_some]
  rw [List.length_cons]
  unfold forFrom
  rw [g1]
  rcases hE with ⟨rfl, rfl, ho, hl⟩ | ⟨rfl, hE⟩
  · rw [Bool.not_true, cond_false]
    dsimp only at f1
    rw [cond_false, cond_false, wr_k (by omega)] at f1
    rw [ho]
    cases hz : ((k : Int) == 0) with
    | true =>
     rw [hz, cond_true] at f1
     rw [iter_nx f1, cond_true]
     exact ih (k + 1) x.steps _ b hk' (by omega) hl
    | false =>
     rw [hz, cond_false] at f1
     rw [iter_nx f1, cond_false]
     exact ih (k + 1) x.steps a _ hk' (by omega) hl
  · refine .inr ⟨o, x, iter_rt ?_, rfl, .inr ⟨rfl, hE⟩⟩
    rw [f1]
    rcases hE with ⟨h1, h2, _⟩ | ⟨q, h1, _⟩
    · rw [h2, cond_false, h1]; rfl
    · rw [h1]; rfl
theorem premV_len (s : Sequent) (r : Int) (t : Ft) : (premV s r t).length ≤ 2 := by
 unfold premV
 dsimp only
 split
 · simp
 split
 · simp
 split
 · simp
 split
 · simp
 split
 · simp
 split
 · simp
 split <;> simp
theorem mainV_mem {s : Sequent} {m : ByteArray} {b : Bool} (h : mainV s = some (m, b)) : m ∈ (bif b then s.left else s.right) ∧ 1 < m.size := by
 unfold mainV at h
 cases h1 : bigS s.left with
 | some x =>
  rw [h1] at h
  cases h
  have := List.find?_some h1
  exact ⟨List.mem_of_find?_eq_some h1, by simpa using this⟩
 | none =>
  rw [h1] at h
  dsimp only at h
  cases h2 : bigS s.right with
  | some x =>
   rw [h2] at h
   cases h
   have := List.find?_some h2
   exact ⟨List.mem_of_find?_eq_some h2, by simpa using this⟩
  | none => rw [h2] at h; cases h
theorem search_eq : ∀ (n : Nat) (s : Sequent), szQ s < n → s.left.length ≤ 1000 → s.right.length ≤ 1000 → Both (spec_l23Go_F n) (impl_seqSearch_search_F n) s
 | 0, _, h, _, _ => by omega
 | n + 1, s, hn, hl, hr => by
  intro st hst
  show ∃ o ok x, spec_l23Go_B (spec_l23Go_F n) s ⟨st, false, 0, false⟩ = some o ∧ impl_seqSearch_search_B (impl_seqSearch_search_F n) ⟨st, none⟩ s = some (ok, x) ∧ Ends o ok x
  unfold spec_l23Go_B impl_seqSearch_search_B
  dsimp only
  rw [spec_l23Good_eq, bd_some, impl_IsSequent_eq (by unfold lim; omega) (by unfold lim; omega), bd_some, cond_false, cond_false]
  cases hs : seqB s with
  | false => exact ⟨_, _, _, rfl, rfl, .inr ⟨rfl, .inl ⟨rfl, rfl, rfl⟩⟩⟩
  | true =>
   have hS := hs
   unfold seqB at hS
   rw [Bool.and_eq_true, sideB_iff, sideB_iff] at hS
   have sL := hS.1
   have sR := hS.2
   have hc : impl_Sequent_clone s = some s := by
    unfold impl_Sequent_clone
    rw [slices_Clone_string_eq (by unfold lim; omega), bd_some, slices_Clone_string_eq (by unfold lim; omega)]; rfl
   rw [Bool.not_true, cond_false, cond_false, spec_l23Axiom_eq (by omega), bd_some, hc, bd_some, impl_isSeqAxiom_eq, bd_some]
   have endp : ∀ (t : List SeqStep) (ht : OkS t) (p : SeqStep) (hp : seqB p.seq = true) (o2 : Option Sequent), o2 = none →
    ∃ o ok x, (bd (spec_l23Put ⟨t, false, 0, false⟩ p) fun r70 => some r70) = some o ∧ (bd (app t [p]) fun xs => some (decide (len xs ≤ 200), seqSearch.mk xs o2)) = some (ok, x) ∧ Ends o ok x := by
    rintro t ⟨ht, hts⟩ p hp _ rfl
    rw [spec_put ht, bd_some, app_ok (by simp; unfold lim; omega), bd_some]
    refine ⟨_, _, _, rfl, rfl, ?_⟩
    have e : len (t ++ [p]) = ((t.length + 1 : Nat) : Int) := by rw [len_eq, List.length_append]; rfl
    rw [e]
    by_cases h : t.length + 1 ≤ 200
    · refine .inl ⟨decide_eq_true (by omega), ?_, rfl, by simp; omega, fun y hy => ?_⟩
      · rw [decide_eq_false (by omega)]
      · rcases List.mem_append.1 hy with hy | hy
        · exact hts y hy
        · rw [List.mem_singleton.1 hy]; exact hp
    · refine .inr ⟨decide_eq_false (by omega), .inl ⟨?_, rfl, rfl⟩⟩
      exact decide_eq_true (by omega)
   cases ha : axB s with
   | true =>
    rw [cond_true, Bool.not_true, cond_false, bdR_go]
    exact endp st hst _ hs none rfl
   | false =>
    rw [cond_false, Bool.not_false, cond_true, spec_l23Main_eq (by omega) (by omega), bd_some]
    rcases impl_mainOf_eq (s := s) sL.good sR.good with ⟨m1, m2⟩ | ⟨m, b, t, m1, m2, m3, m4⟩
    · rw [m1, m2, bd_some]
      have hb : bigS s.left = none := by
       unfold mainV at m1
       cases hq : bigS s.left with
       | none => rfl
       | some x => rw [hq] at m1; cases m1
      dsimp only
      rw [Bool.not_false, cond_true, spec_l23Open_eq sL.good (big_none hb)]
      exact ⟨_, _, _, rfl, rfl, .inr ⟨rfl, .inr ⟨s, rfl, rfl, hs, hb, rfl⟩⟩⟩
    · rw [m1, m4, bd_some]
      obtain ⟨mm, mz⟩ := mainV_mem m1
      obtain ⟨em, hw⟩ := ft_of m2
      have gm : goodB m = true := by
       cases b with
       | true => exact sL.good m mm
       | false => exact sR.good m mm
      have m80 : m.size ≤ 80 := (good_iff.1 gm).choose_spec.2
      have rbd := ruleV_bd t b
      have r0 : ruleV t b ≠ 0 := fun g => by
       have := (ruleV_zero b).1 g
       rw [em, tx_size] at mz; omega
      obtain ⟨nd, n1, _, n3⟩ := Ft.get_eq t
      have hnil : t.fo.isNil = false := by cases t <;> rfl
      dsimp only
      rw [Bool.not_true, cond_false, spec_l23Rule_eq m2 (by omega), bd_some, spec_l23Premises_eq m2 (by omega) sL.ord sR.ord hl hr (by omega) rbd.2.1, bd_some,
       hnil, cond_false, n1, bd_some, impl_premisesOf_eq hl hr ⟨b, rfl⟩ r0 hw, bd_some]
      have pl := premV_len s (ruleV t b) t
      rw [show chk (len (premV s (ruleV t b) t)) = some (premV s (ruleV t b) t).length by unfold chk; rw [if_pos (by rw [len_eq]; omega), len_eq]; simp, bd_some]
      have hprem : ∀ p ∈ premV s (ruleV t b) t, Both (spec_l23Go_F n) (impl_seqSearch_search_F n) p := by
       intro p hp
       obtain ⟨z1, z2, z3⟩ := prem_sz (s := s) (t := t) (b := b) (em ▸ mm) r0 p hp
       have := sL.len; have := sR.len
       exact search_eq n p (by omega) (by omega) (by omega)
      have hloop := prem_loop pl hprem (ZS := Unit) (zi := fun x => (Rs.rt (false, x) : Rs ((List SeqStep) × Int × ByteArray × Int × Int × (Option Sequent)) (Bool × seqSearch))) (fun _ => by rfl) (fun _ _ => by rfl) (premV s (ruleV t b) t) 0 st 0 0 rfl (Nat.zero_le _) hst
      unfold forR
      rw [show ((0 : Nat) : Int) = 0 from rfl] at hloop
      rcases hloop with ⟨st', a', b', i, l1, l2, l3⟩ | ⟨o, x, l1, l2, l3⟩
      · erw [l1, l2]
        rw [bdR_go, bdR_go, bdR_go, n3, ← em]
        exact endp st' l3 _ hs none rfl
      · erw [l1, l2]
        rw [bdR_rt, bdR_rt, bdR_rt]
        exact ⟨_, _, _, rfl, rfl, l3⟩
end Go.PF
namespace Go.PF
open Go.Pu
theorem eq_StringS (a : List ByteArray) : laws_eqStringS a a = some true := by
 unfold laws_eqStringS
 exact eq_list (eq := fun x y => some (x.toList == y.toList)) (fun _ _ _ => rfl) (fun y _ => by rw [eqS]; simp)
theorem eq_Sequent (a : Sequent) : laws_eqSequent a a = some true := by
 unfold laws_eqSequent
 rw [eq_StringS, bd_some, Bool.not_true, cond_false, eq_StringS]; rfl
theorem search_bad {x : seqSearch} {s : Sequent} (h1 : s.left.length ≤ lim) (h2 : s.right.length ≤ lim) (h : seqB s = false) : impl_seqSearch_search x s = some (false, x) := by
 unfold impl_seqSearch_search
 have e : ∃ n, deep = n + 1 := ⟨1099511627775, deep_eq⟩
 obtain ⟨n, e⟩ := e
 rw [e]
 show impl_seqSearch_search_B (impl_seqSearch_search_F n) x s = _
 unfold impl_seqSearch_search_B
 rw [impl_IsSequent_eq h1 h2, bd_some, h]; rfl
theorem szL_le {l : List ByteArray} (h : ∀ x ∈ l, x.size ≤ 80) : szL l ≤ 80 * l.length := by
 induction l with
 | nil => simp [szL]
 | cons x l ih =>
  have h1 := h x (List.mem_cons_self ..)
  have h2 := ih fun y hy => h y (List.mem_cons_of_mem _ hy)
  have : szL (x :: l) = x.size + szL l := by simp [szL]
  rw [List.length_cons]; omega
theorem search_good {s : Sequent} (h : seqB s = true) : ∃ o ok x, spec_l23Go s ⟨[], false, 0, false⟩ = some o ∧ impl_seqSearch_search ⟨[], none⟩ s = some (ok, x) ∧ Ends o ok x := by
 have hS := h
 unfold seqB at hS
 rw [Bool.and_eq_true, sideB_iff, sideB_iff] at hS
 have l1 := hS.1.len
 have l2 := hS.2.len
 have g : ∀ x, goodB x = true → x.size ≤ 80 := fun x hx => (good_iff.1 hx).choose_spec.2
 have z1 := szL_le fun x hx => g x (hS.1.good x hx)
 have z2 := szL_le fun x hx => g x (hS.2.good x hx)
 unfold spec_l23Go impl_seqSearch_search
 exact search_eq deep s (by rw [deep_eq]; unfold szQ; omega) (by omega) (by omega) [] ⟨by simp, by simp⟩
end Go.PF
namespace Go.PF
open Go.Pu
theorem eq_SeqStep (a : SeqStep) : laws_eqSeqStep a a = some true := by
 unfold laws_eqSeqStep
 rw [eq_Sequent, bd_some, eqS]
 simp
theorem eq_SeqStepS (a : List SeqStep) : laws_eqSeqStepS a a = some true := by
 unfold laws_eqSeqStepS
 exact eq_list (eq := laws_eqSeqStep) (f := fun i23 y22 s23 => bd (ix a ((i23 : Nat) : Int)) (fun x86 => bd (PF.laws_eqSeqStep y22 x86) (fun r92 => (bif (!r92) then some (Lp.rt false) else some (Lp.nx ()))))) (fun _ _ _ => rfl) (fun y _ => eq_SeqStep y)
theorem tot_one {A : Type} (l : List A) : tot (fun _ => 1) l = l.length := by
 induction l with
 | nil => rfl
 | cons x l ih => simp only [tot, ih, List.length_cons]; omega
theorem mark_StringS (a : List ByteArray) {k : Int} (h0 : 0 ≤ k) (h1 : k + a.length ≤ 9223372036854775807) : (laws_markStringS a k).2 = k + a.length := by
 unfold laws_markStringS
 have := mark_end (F := fun (y : ByteArray) m => ((PF.laws_markText m), (wr (m + 1)))) (wt := fun _ => 1) (l := a) (k := k) (fun y _ k h0 h1 => wr_of _ (by omega) (by omega)) h0 (by rw [tot_one]; omega)
 rw [tot_one] at this; exact this
theorem held_StringS (a : List ByteArray) {k : Int} (h0 : 0 ≤ k) (h1 : k + a.length ≤ 9223372036854775807) : laws_heldStringS (laws_markStringS a k).1 k = some (laws_markStringS a k).2 := by
 unfold laws_heldStringS laws_markStringS forL
 rw [held_list (F := fun (y : ByteArray) m => ((PF.laws_markText m), (wr (m + 1)))) (wt := fun _ => 1) (l := a) (k := k) (fun y _ k h0 h1 => ⟨wr_of _ (by omega) (by omega), fun i => by
  show (bif !((laws_markText k).toList == (laws_markText k).toList) then _ else _) = _
  rw [eqS, decide_eq_true rfl]; rfl⟩) h0 (by rw [tot_one]; omega)]
 rfl
def wtStep (y : SeqStep) : Nat := y.seq.left.length + y.seq.right.length + 4
noncomputable def mkStep (y : SeqStep) (m : Int) : SeqStep × Int := ((SeqStep.mk (Sequent.mk ((PF.laws_markStringS y.seq.left m).1) ((PF.laws_markStringS y.seq.right ((PF.laws_markStringS y.seq.left m).2)).1)) ((PF.laws_markStringS y.seq.right ((PF.laws_markStringS y.seq.left m).2)).2) (PF.laws_markText (wr ((PF.laws_markStringS y.seq.right ((PF.laws_markStringS y.seq.left m).2)).2 + 1))) (wr ((wr ((PF.laws_markStringS y.seq.right ((PF.laws_markStringS y.seq.left m).2)).2 + 1)) + 1)) (wr ((wr ((wr ((PF.laws_markStringS y.seq.right ((PF.laws_markStringS y.seq.left m).2)).2 + 1)) + 1)) + 1))), (wr ((wr ((wr ((wr ((PF.laws_markStringS y.seq.right ((PF.laws_markStringS y.seq.left m).2)).2 + 1)) + 1)) + 1)) + 1)))
noncomputable def heldB (i22 : Nat) (y21 : SeqStep) (s22 : Int) : Option (Lp Int Int) := bd (PF.laws_heldStringS y21.seq.left s22) (fun r129 => (bif (decide (r129 < 0)) then some (Lp.rt (-1)) else bd (PF.laws_heldStringS y21.seq.right r129) (fun r145 => (bif (decide (r145 < 0)) then some (Lp.rt (-1)) else (bif (!(y21.rule == r145)) then some (Lp.rt (-1)) else (bif (!(y21.main.toList == (PF.laws_markText (wr (r145 + 1))).toList)) then some (Lp.rt (-1)) else (bif (!(y21.a == (wr ((wr (r145 + 1)) + 1)))) then some (Lp.rt (-1)) else (bif (!(y21.b == (wr ((wr ((wr (r145 + 1)) + 1)) + 1)))) then some (Lp.rt (-1)) else some (Lp.nx (wr ((wr ((wr ((wr (r145 + 1)) + 1)) + 1)) + 1)))))))))))
theorem mkStep_ok (y : SeqStep) {k : Int} (h0 : 0 ≤ k) (h1 : k + wtStep y ≤ 9223372036854775807) : (mkStep y k).2 = k + wtStep y ∧ ∀ i, heldB i (mkStep y k).1 k = some (.nx (mkStep y k).2) := by
 unfold wtStep at *
 have m1 := mark_StringS y.seq.left h0 (by omega)
 have m2 := mark_StringS y.seq.right (k := (laws_markStringS y.seq.left k).2) (by omega) (by omega)
 have e1 := held_StringS y.seq.left h0 (by omega)
 have e2 := held_StringS y.seq.right (k := (laws_markStringS y.seq.left k).2) (by omega) (by omega)
 generalize hL : laws_markStringS y.seq.left k = L at *
 generalize hR : laws_markStringS y.seq.right L.2 = R at *
 have hr : R.2 = k + y.seq.left.length + y.seq.right.length := by omega
 have w1 : wr (R.2 + 1) = R.2 + 1 := wr_of _ (by omega) (by omega)
 have w2 : wr (R.2 + 1 + 1) = R.2 + 1 + 1 := wr_of _ (by omega) (by omega)
 have w3 : wr (R.2 + 1 + 1 + 1) = R.2 + 1 + 1 + 1 := wr_of _ (by omega) (by omega)
 have w4 : wr (R.2 + 1 + 1 + 1 + 1) = R.2 + 1 + 1 + 1 + 1 := wr_of _ (by omega) (by omega)
 refine ⟨?_, fun i => ?_⟩
 · unfold mkStep
   rw [hL]
   dsimp only
   rw [hR, w1, w2, w3, w4]; omega
 · unfold heldB mkStep
   rw [hL, hR]
   rw [e1, bd_some, decide_eq_false (by omega), cond_false, e2, bd_some, decide_eq_false (by omega), cond_false, eqS]
   simp
theorem mark_SeqStepS {a : List SeqStep} {k : Int} (h0 : 0 ≤ k) (h1 : k + tot wtStep a ≤ 9223372036854775807) : (laws_markSeqStepS a k).2 = k + tot wtStep a := by
 unfold laws_markSeqStepS
 exact mark_end (F := mkStep) (fun y _ k h0 h1 => (mkStep_ok y h0 h1).1) h0 h1
theorem held_SeqStepS {a : List SeqStep} {k : Int} (h0 : 0 ≤ k) (h1 : k + tot wtStep a ≤ 9223372036854775807) : laws_heldSeqStepS (laws_markSeqStepS a k).1 k = some (laws_markSeqStepS a k).2 := by
 unfold laws_heldSeqStepS laws_markSeqStepS forL
 have := held_list (F := mkStep) (wt := wtStep) (f := heldB) (l := a) (k := k) (i := 0) (fun y _ k h0 h1 => mkStep_ok y h0 h1) h0 h1
 have e : forLFrom heldB (markFrom mkStep a k).1 0 k = some (.go (markFrom mkStep a k).2) := this
 show bdR (forLFrom heldB (markFrom mkStep a k).1 0 k) _ _ = _
 rw [e]; rfl
structure Few (a : List SeqStep) : Prop where
 len : a.length ≤ 1000
 sides : ∀ y ∈ a, y.seq.left.length ≤ 1000 ∧ y.seq.right.length ≤ 1000
theorem Few.tot {a : List SeqStep} (h : Few a) : tot wtStep a ≤ 2004 * a.length := by
 obtain ⟨h0, h⟩ := h
 clear h0
 induction a with
 | nil => simp [Pu.tot]
 | cons y a ih =>
  have h1 := h y (List.mem_cons_self ..)
  have h2 := ih fun z hz => h z (List.mem_cons_of_mem _ hz)
  simp only [Pu.tot, List.length_cons, wtStep]; omega
theorem Few.marks {a : List SeqStep} (h : Few a) : ∃ m, (laws_markSeqStepS a 1).2 = m ∧ laws_heldSeqStepS (laws_markSeqStepS a 1).1 1 = some m ∧ 0 ≤ m := by
 have := h.tot
 have := h.len
 have h1 := mark_SeqStepS (a := a) (k := 1) (by omega) (by omega)
 exact ⟨_, rfl, held_SeqStepS (by omega) (by omega), by omega⟩
end Go.PF
namespace Go.PF
open Go.Pu
theorem own_eq {s : Sequent} (h1 : s.left.length ≤ lim) (h2 : s.right.length ≤ lim) : spec_l23Own s = some s := by
 unfold spec_l23Own
 rw [app_ok (by simpa using h1), bd_some, app_ok (by simpa using h2), bd_some]; rfl
theorem own_loop {l : List SeqStep} (hl : l.length ≤ 1000000) (hs : ∀ y ∈ l, y.seq.left.length ≤ lim ∧ y.seq.right.length ≤ lim)
 {body : List SeqStep × Int → Option (Lp (List SeqStep × Int) Empty)} (hb : ∀ s74, body s74 = (bif (decide (s74.2 < (len s74.1))) then bd (ix s74.1 s74.2) (fun x156154 => bd (PF.spec_l23Own x156154.seq) (fun r165148 => bd (ix s74.1 s74.2) (fun x168154 => bd (put s74.1 s74.2 (SeqStep.mk r165148 x168154.rule x168154.main x168154.a x168154.b)) (fun xs174151 => some (Lp.nx (xs174151, (wr (s74.2 + 1)))))))) else some (Lp.bk (s74.1, s74.2)))) :
 ∃ i, iter body (l, 0) = some (.go (l, i)) := by
 have key : ∀ (n k : Nat), k + n = l.length → ∃ i, iter body (l, (k : Int)) = some (.go (l, i)) := by
  intro n
  induction n with
  | zero =>
   intro k hk
   refine ⟨(k : Int), iter_bk ?_⟩
   rw [hb, bifF (decide_eq_false (by rw [len_eq]; show ¬ ((k : Int) < ((l.length : Nat) : Int)); omega))]
  | succ n ih =>
   intro k hk
   obtain ⟨y, hy⟩ : ∃ y, l[k]? = some y := ⟨_, List.getElem?_eq_getElem (by omega)⟩
   obtain ⟨s1, s2⟩ := hs y (List.mem_of_getElem? hy)
   obtain ⟨i, hi⟩ := ih (k + 1) (by omega)
   refine ⟨i, ?_⟩
   rw [← hi]
   refine iter_nx ?_
   rw [hb, bifT (decide_eq_true (by rw [len_eq]; show (k : Int) < ((l.length : Nat) : Int); omega))]
   dsimp only
   rw [ix_get, hy, bd_some, own_eq s1 s2, bd_some, bd_some, put_ok (by omega), bd_some, wr_k (by omega)]
   have : l.set k (SeqStep.mk y.seq y.rule y.main y.a y.b) = l := by
    apply List.ext_getElem?
    intro j
    by_cases e : k = j
    · subst e; rw [List.getElem?_set_self (by omega), hy]
    · rw [List.getElem?_set_ne e]
   rw [this]
 exact key l.length 0 (by omega)
theorem search_spec {s : Sequent} (h1 : s.left.length ≤ lim) (h2 : s.right.length ≤ lim) : ∃ r, spec_SearchSequent s = some r ∧ impl_SearchSequent s = some r ∧ Few r.1 := by
 unfold spec_SearchSequent impl_SearchSequent
 rw [spec_l23Good_eq, bd_some]
 cases hs : seqB s with
 | false =>
  rw [search_bad h1 h2 hs]
  exact ⟨_, rfl, rfl, ⟨by simp, by simp⟩⟩
 | true =>
  obtain ⟨o, ok, x, e1, e2, hE⟩ := search_good hs
  rw [Bool.not_true, cond_false, e1, bd_some, e2, bd_some]
  rcases hE with ⟨rfl, rfl, ho, hl⟩ | ⟨rfl, ⟨b1, b2, b3⟩ | ⟨q, b1, b2, b3, b4, b5⟩⟩
  · dsimp only
    have sd : ∀ y ∈ x.steps, y.seq.left.length ≤ 12 ∧ y.seq.right.length ≤ 12 := fun y hy => by
     have := hl.seq y hy
     unfold seqB at this
     rw [Bool.and_eq_true, sideB_iff, sideB_iff] at this
     exact ⟨this.1.len, this.2.len⟩
    have hlen := hl.len
    rw [cond_false, cond_false]
    obtain ⟨i, hi⟩ := own_loop (l := x.steps) (by omega) (fun y hy => by have := sd y hy; unfold lim; omega) (body := fun s74 => (bif (decide (s74.2 < (len s74.1))) then bd (ix s74.1 s74.2) (fun x156154 => bd (PF.spec_l23Own x156154.seq) (fun r165148 => bd (ix s74.1 s74.2) (fun x168154 => bd (put s74.1 s74.2 (SeqStep.mk r165148 x168154.rule x168154.main x168154.a x168154.b)) (fun xs174151 => some (Lp.nx (xs174151, (wr (s74.2 + 1)))))))) else some (Lp.bk (s74.1, s74.2)))) (fun _ => rfl)
    refine ⟨(x.steps, true), ?_, rfl, ⟨by dsimp only; omega, fun y hy => by have := sd y hy; omega⟩⟩
    rw [hi]; rfl
  · rw [b2, b1]; exact ⟨_, rfl, rfl, ⟨by simp, by simp⟩⟩
  · rw [b1]; exact ⟨_, rfl, rfl, ⟨by simp, by simp⟩⟩
end Go.PF
namespace Go.PF
open Go.Pu
def subF (a b c : Ft) : Ft → Ft
 | .leaf h => if h = 97 then a else if h = 98 then b else if h = 99 then c else .leaf h
 | .neg t => .neg (subF a b c t)
 | .bin o s t => .bin o (subF a b c s) (subF a b c t)
def letB : Ft → Bool
 | .leaf h => h == 97 || h == 98 || h == 99 || h == 48 || h == 49
 | .neg t => letB t
 | .bin _ s t => letB s && letB t
def subL (a b c : Ft) (h : UInt8) : List UInt8 := if h = 97 then a.txt else if h = 98 then b.txt else if h = 99 then c.txt else [h]
theorem sub_txt {a b c : Ft} : ∀ {t : Ft}, t.wf = true → (subF a b c t).txt = t.txt.flatMap (subL a b c)
 | .leaf h, _ => by
  unfold subF
  simp only [Ft.txt, List.flatMap_cons, List.flatMap_nil, List.append_nil]
  unfold subL
  split
  · rfl
  split
  · rfl
  split <;> rfl
 | .neg t, hw => by
  have ih := sub_txt (a := a) (b := b) (c := c) (t := t) hw
  simp only [subF, Ft.txt, List.flatMap_cons, ih]
  rfl
 | .bin o s t, hw => by
  simp only [Ft.wf, Bool.and_eq_true] at hw
  have i1 := sub_txt (a := a) (b := b) (c := c) (t := s) hw.1.2
  have i2 := sub_txt (a := a) (b := b) (c := c) (t := t) hw.2
  have ho : subL a b c o = [o] := by
   have := hw.1.1
   unfold isOp at this
   simp only [Bool.or_eq_true, beq_iff_eq] at this
   rcases this with (rfl | rfl) | rfl <;> rfl
  simp only [subF, Ft.txt, List.flatMap_cons, List.flatMap_append, List.flatMap_nil, i1, i2, ho, List.append_nil]
  rfl
theorem subL_le {a b c : Ft} (ha : a.txt.length ≤ 80) (hb : b.txt.length ≤ 80) (hc : c.txt.length ≤ 80) (l : List UInt8) : (l.flatMap (subL a b c)).length ≤ 80 * l.length := by
 induction l with
 | nil => simp
 | cons h l ih =>
  have : (subL a b c h).length ≤ 80 := by
   unfold subL
   split
   · exact ha
   split
   · exact hb
   split
   · exact hc
   · simp
  rw [List.flatMap_cons, List.length_append, List.length_cons]
  omega
theorem fo_isNil (t : Ft) : t.fo.isNil = false := by cases t <;> rfl
theorem put_eq {a b c : Ft} : ∀ {t : Ft} {n : Nat}, t.wf = true → letB t = true → t.dep ≤ n → (subF a b c t).txt.length ≤ 1000000 → impl_formula_put_F n t.fo (a.fo, b.fo, c.fo) = some (subF a b c t).fo
 | t, 0, _, _, hn, _ => by have := t.dep_pos; omega
 | .leaf h, n + 1, _, hl, _, _ => by
  show impl_formula_put_B _ _ _ = _
  unfold impl_formula_put_B
  simp only [letB, Bool.or_eq_true, beq_iff_eq] at hl
  rcases hl with (((rfl | rfl) | rfl) | rfl) | rfl <;> rfl
 | .neg t, n + 1, hw, hl, hn, hs => by
  show impl_formula_put_B _ _ _ = _
  unfold impl_formula_put_B
  simp only [subF, Ft.txt, List.length_cons] at hs
  simp only [Ft.dep] at hn
  show bd (some _) _ = _
  rw [bd_some]
  show (bif PF.impl_isLetter 126 then _ else bif t.fo.isNil then _ else bif Fo.nil.isNil then _ else _) = _
  rw [show PF.impl_isLetter 126 = false from rfl, cond_false, fo_isNil, cond_false, show Fo.nil.isNil = true from rfl, cond_true]
  show bd (impl_formula_put_F n t.fo (a.fo, b.fo, c.fo)) _ = _
  rw [put_eq (t := t) hw hl (by omega) (by omega), bd_some, impl_not_eq (by omega), bd_some]
  rfl
 | .bin o s t, n + 1, hw, hl, hn, hs => by
  show impl_formula_put_B _ _ _ = _
  unfold impl_formula_put_B
  simp only [Ft.dep] at hn
  simp only [letB, Bool.and_eq_true] at hl
  simp only [Ft.wf, Bool.and_eq_true] at hw
  have hs' := hs
  simp only [subF, Ft.txt, List.length_cons, List.length_append, List.length_nil] at hs'
  show bd (some _) _ = _
  rw [bd_some]
  show (bif PF.impl_isLetter (o.toNat : Int) then _ else bif s.fo.isNil then _ else bif t.fo.isNil then _ else _) = _
  have ho : PF.impl_isLetter (o.toNat : Int) = false := by
   have := hw.1.1
   unfold isOp at this
   simp only [Bool.or_eq_true, beq_iff_eq] at this
   rcases this with (rfl | rfl) | rfl <;> rfl
  rw [ho, cond_false, fo_isNil, cond_false, fo_isNil, cond_false]
  show bd (impl_formula_put_F n s.fo (a.fo, b.fo, c.fo)) (fun r => bd (impl_formula_put_F n t.fo (a.fo, b.fo, c.fo)) (fun q => bd (PF.impl_join (o.toNat : Int) r q) _)) = _
  rw [put_eq hw.1.2 hl.1 (by omega) (by omega), bd_some, put_eq hw.2 hl.2 (by omega) (by omega), bd_some, impl_join_eq hw.1.1 hs, bd_some]
  rfl
def sch : List Ft :=
 let A := Ft.leaf 97; let B := Ft.leaf 98; let C := Ft.leaf 99
 let I := Ft.bin 62; let K := Ft.bin 38; let O := Ft.bin 124
 [I A (I B A), I (I A (I B C)) (I (I A B) (I A C)), I (I (.neg A) (.neg B)) (I B A), I (K A B) A, I (K A B) B, I A (I B (K A B)), I A (O A B), I B (O A B), I (I A C) (I (I B C) (I (O A B) C)), .leaf 49]
theorem glob_sch : glob0 = sch.map fun t => tx t.txt := rfl
theorem spec_sch : spec_l24Schemes = glob0 := rfl
theorem sch_ok : (sch.all fun t => t.wf && letB t && decide (t.txt.length ≤ 25)) = true := by decide
theorem sch_at {k : Int} (h1 : 1 ≤ k) (h2 : k ≤ 10) : ∃ t, ix glob0 (wr (k - 1)) = some (tx t.txt) ∧ t.wf = true ∧ letB t = true ∧ t.txt.length ≤ 25 := by
 rw [wr_of _ (by omega) (by omega)]
 have hl : sch.length = 10 := rfl
 have hk : (k - 1).toNat < sch.length := by omega
 have hm := List.all_eq_true.1 sch_ok (sch[(k - 1).toNat]) (List.getElem_mem hk)
 rw [Bool.and_eq_true, Bool.and_eq_true, decide_eq_true_iff] at hm
 refine ⟨sch[(k - 1).toNat], ?_, hm.1.1, hm.1.2, hm.2⟩
 rw [glob_sch, ix, if_pos (by omega), List.getElem?_map, List.getElem?_eq_getElem hk]
 rfl
theorem case_loop {a b c : Ft} (ha : a.txt.length ≤ 80) (hb : b.txt.length ≤ 80) (hc : c.txt.length ≤ 80) (s : ByteArray) (hs : s.size ≤ 1000) :
 ∀ (n k : Nat) (o : List UInt8), k + n = s.size → o.length ≤ 80 * k →
  forFrom (X := Empty) (fun i38 s38 => bd (ixS s ((i38 : Nat) : Int)) (fun z76 => (bif (z76 == 97) then bd (catS s38 (tx a.txt)) (fun z79 => some (Lp.nx z79)) else (bif (z76 == 98) then bd (catS s38 (tx b.txt)) (fun z82 => some (Lp.nx z82)) else (bif (z76 == 99) then bd (catS s38 (tx c.txt)) (fun z85 => some (Lp.nx z85)) else bd (cutS s ((i38 : Nat) : Int) (wr (((i38 : Nat) : Int) + 1))) (fun z87 => bd (catS s38 z87) (fun z89 => some (Lp.nx z89)))))))) n k (tx o)
   = some (.go (tx (o ++ ((bs s).drop k).flatMap (subL a b c)))) := by
 intro n
 induction n with
 | zero =>
  intro k o hk _
  rw [List.drop_eq_nil_of_le (by rw [bs_len]; omega)]
  simp [forFrom]
 | succ n ih =>
  intro k o hk ho
  have hlt : k < (bs s).length := by rw [bs_len]; omega
  have hd : (bs s).drop k = (bs s)[k] :: (bs s).drop (k + 1) := List.drop_eq_getElem_cons hlt
  have hat : (bs s)[k]? = some (bs s)[k] := List.getElem?_eq_getElem hlt
  generalize (bs s)[k] = h at hd hat
  have step : ∀ l : List UInt8, l.length ≤ 80 → catS (tx o) (tx l) = some (tx (o ++ l)) := fun l hl => by
   rw [catS_ok (by rw [tx_size, tx_size]; omega), ← tx_app]
  have fin : ∀ l : List UInt8, l.length ≤ 80 → subL a b c h = l → forFrom (X := Empty) (fun i38 s38 => bd (ixS s ((i38 : Nat) : Int)) (fun z76 => (bif (z76 == 97) then bd (catS s38 (tx a.txt)) (fun z79 => some (Lp.nx z79)) else (bif (z76 == 98) then bd (catS s38 (tx b.txt)) (fun z82 => some (Lp.nx z82)) else (bif (z76 == 99) then bd (catS s38 (tx c.txt)) (fun z85 => some (Lp.nx z85)) else bd (cutS s ((i38 : Nat) : Int) (wr (((i38 : Nat) : Int) + 1))) (fun z87 => bd (catS s38 z87) (fun z89 => some (Lp.nx z89)))))))) n (k + 1) (tx (o ++ l)) = some (.go (tx (o ++ ((bs s).drop k).flatMap (subL a b c)))) := fun l hl e => by
   rw [ih (k + 1) (o ++ l) (by omega) (by rw [List.length_append]; omega), hd, List.flatMap_cons, e, List.append_assoc]
  have e97 : ((h.toNat : Int) == 97) = (h == 97) := u8i (d := 97)
  have e98 : ((h.toNat : Int) == 98) = (h == 98) := u8i (d := 98)
  have e99 : ((h.toNat : Int) == 99) = (h == 99) := u8i (d := 99)
  rw [forFrom]
  rw [ixS_at hat, bd_some, e97, e98, e99]
  by_cases c1 : h = 97
  · rw [bifT (beq_iff_eq.2 c1), step _ ha, bd_some]
    exact fin _ ha (by unfold subL; rw [if_pos c1])
  rw [bifF (beq_eq_false_iff_ne.2 c1)]
  by_cases c2 : h = 98
  · rw [bifT (beq_iff_eq.2 c2), step _ hb, bd_some]
    exact fin _ hb (by unfold subL; rw [if_neg c1, if_pos c2])
  rw [bifF (beq_eq_false_iff_ne.2 c2)]
  by_cases c3 : h = 99
  · rw [bifT (beq_iff_eq.2 c3), step _ hc, bd_some]
    exact fin _ hc (by unfold subL; rw [if_neg c1, if_neg c2, if_pos c3])
  rw [bifF (beq_eq_false_iff_ne.2 c3), wr_k (by omega), cutS_ok (by omega) (by omega), bd_some]
  have e1 : ((bs s).take (k + 1)).drop k = [h] := by
   rw [List.drop_take, hd]; simp
  rw [e1, step _ (by simp), bd_some]
  exact fin _ (by simp) (by unfold subL; rw [if_neg c1, if_neg c2, if_neg c3])
theorem spec_case {k : Int} {t a b c : Ft} (ht : ix glob0 (wr (k - 1)) = some (tx t.txt)) (hw : t.wf = true) (h25 : t.txt.length ≤ 25) (ha : a.txt.length ≤ 80) (hb : b.txt.length ≤ 80) (hc : c.txt.length ≤ 80) :
 spec_l24Case k (tx a.txt) (tx b.txt) (tx c.txt) = some (tx (subF a b c t).txt) := by
 unfold spec_l24Case
 rw [spec_sch, ht, bd_some]
 have hz : (tx t.txt).size = t.txt.length := tx_size _
 rw [show chk ((tx t.txt).size : Int) = some (tx t.txt).size by unfold chk; rw [if_pos (by omega)]; rfl, bd_some]
 unfold forR
 have := case_loop ha hb hc (tx t.txt) (by omega) ((tx t.txt).size - 0) 0 [] (by omega) (by simp)
 rw [emp_tx, this, bdR_go, List.drop_zero, bs_tx, List.nil_append, ← sub_txt hw]
theorem impl_case {k : Int} {t a b c : Ft} (ht : ix glob0 (wr (k - 1)) = some (tx t.txt)) (hw : t.wf = true) (hl : letB t = true) (h25 : t.txt.length ≤ 25) (ha : a.txt.length ≤ 80) (hb : b.txt.length ≤ 80) (hc : c.txt.length ≤ 80) :
 impl_caseOf k a.fo b.fo c.fo = some (subF a b c t).fo := by
 unfold impl_caseOf
 have h1 := subL_le ha hb hc t.txt
 rw [← sub_txt hw] at h1
 rw [ht, bd_some, impl_parse_good (F?_tx hw) (by rw [tx_size]; omega), bd_some]
 unfold impl_formula_put
 rw [put_eq hw hl (by have := t.dep_le; rw [deep_eq]; omega) (by omega), bd_some]
theorem case_eq (k : Int) (a b c : ByteArray) : ∃ r, spec_CaseOf k a b c = some r ∧ impl_CaseOf k a b c = some r := by
 unfold spec_CaseOf impl_CaseOf
 have hk : impl_within k 1 10 = spec_l24Scheme k := rfl
 cases h1 : goodB a with
 | false => exact ⟨(ByteArray.mk #[], false), by rw [spec_l22Good_eq, h1]; cases spec_l24Scheme k <;> rfl, by
  obtain ⟨q, hq⟩ : ∃ q, impl_parse b = some q := ⟨_, impl_parse_eq b⟩
  obtain ⟨z, hz⟩ : ∃ z, impl_parse c = some z := ⟨_, impl_parse_eq c⟩
  rw [impl_parse_bad h1, hq, hz, hk]; cases spec_l24Scheme k <;> rfl⟩
 | true =>
  obtain ⟨ta, a1, a2⟩ := good_iff.1 h1
  cases h2 : goodB b with
  | false => exact ⟨(ByteArray.mk #[], false), by rw [spec_l22Good_eq, spec_l22Good_eq, h1, h2]; cases spec_l24Scheme k <;> rfl, by
   obtain ⟨z, hz⟩ : ∃ z, impl_parse c = some z := ⟨_, impl_parse_eq c⟩
   rw [impl_parse_good a1 a2, impl_parse_bad h2, hz, hk]; cases spec_l24Scheme k <;> rfl⟩
  | true =>
   obtain ⟨tb, b1, b2⟩ := good_iff.1 h2
   cases h3 : goodB c with
   | false => exact ⟨(ByteArray.mk #[], false), by rw [spec_l22Good_eq, spec_l22Good_eq, spec_l22Good_eq, h1, h2, h3]; cases spec_l24Scheme k <;> rfl, by
    rw [impl_parse_good a1 a2, impl_parse_good b1 b2, impl_parse_bad h3, hk]; cases spec_l24Scheme k <;> rfl⟩
   | true =>
    obtain ⟨tc, c1, c2⟩ := good_iff.1 h3
    rw [spec_l22Good_eq, spec_l22Good_eq, spec_l22Good_eq, h1, h2, h3, impl_parse_good a1 a2, impl_parse_good b1 b2, impl_parse_good c1 c2, hk]
    cases h4 : spec_l24Scheme k with
    | false => exact ⟨(ByteArray.mk #[], false), rfl, rfl⟩
    | true =>
     have hr : 1 ≤ k ∧ k ≤ 10 := by
      unfold spec_l24Scheme spec_l1In at h4
      by_cases e : 1 ≤ k
      · rw [decide_eq_true e, cond_true, decide_eq_true_iff] at h4; exact ⟨e, h4⟩
      · rw [decide_eq_false e] at h4; cases h4
     obtain ⟨t, t1, t2, t3, t4⟩ := sch_at hr.1 hr.2
     have ea : a = tx ta.txt := by rw [← tx_bs a, (F?_some.1 a1).1]
     have eb : b = tx tb.txt := by rw [← tx_bs b, (F?_some.1 b1).1]
     have ec : c = tx tc.txt := by rw [← tx_bs c, (F?_some.1 c1).1]
     have la : ta.txt.length ≤ 80 := by rw [ea, tx_size] at a2; exact a2
     have lb : tb.txt.length ≤ 80 := by rw [eb, tx_size] at b2; exact b2
     have lc : tc.txt.length ≤ 80 := by rw [ec, tx_size] at c2; exact c2
     obtain ⟨n, n1, n2, _⟩ := fo_get (subF ta tb tc t)
     simp only [bd_some, Bool.not_true, cond_false]
     rw [ea, eb, ec, spec_case t1 t2 t4 la lb lc, impl_case t1 t2 t3 t4 la lb lc, bd_some, bd_some]
     unfold impl_formula_shown
     rw [n1, bd_some, n2]
     cases decide (80 < ((tx (subF ta tb tc t).txt).size : Int)) <;> exact ⟨_, rfl, rfl⟩
theorem scheme_eq (k : Int) (a b c : ByteArray) : ∃ r, spec_SchemeSequents k a b c = some r ∧ impl_SchemeSequents k a b c = some r ∧ Few r.1 := by
 unfold spec_SchemeSequents impl_SchemeSequents
 obtain ⟨⟨s, ok⟩, q1, q2⟩ := case_eq k a b c
 rw [q1, q2, bd_some, bd_some]
 cases ok with
 | false => exact ⟨_, rfl, rfl, ⟨by simp, by simp⟩⟩
 | true =>
  unfold impl_givenSequent spec_l25Of
  dsimp only
  rw [Bool.not_true, cond_false, cond_false, app_ok (by simp [lim]), bd_some, bd_some, impl_wS (by simp), bd_some, bd_some, show wS [] [] = [] from rfl]
  obtain ⟨r, r1, r2, r3⟩ := search_spec (s := ⟨[], [s]⟩) (by simp) (by simp [lim])
  show ∃ x, bd (spec_SearchSequent ⟨[], [s]⟩) _ = _ ∧ _
  rw [r1, bd_some, r2, bd_some]
  exact ⟨_, rfl, rfl, r3⟩
theorem plain_SchemeSequents (k : Int) (a b c : ByteArray) (hk : okI k) (ha : okS a) (hb : okS b) (hc : okS c) : laws_FnExactSchemeSequents k a b c = some true := by
 unfold laws_FnExactSchemeSequents
 cases decide (1048576 < (a.size : Int)) with
 | true => rfl
 | false => cases decide (1048576 < (b.size : Int)) with
  | true => rfl
  | false => cases decide (1048576 < (c.size : Int)) with
   | true => rfl
   | false =>
    obtain ⟨q, q1, q2, q3⟩ := scheme_eq k a b c
    obtain ⟨m, m1, m2, m3⟩ := q3.marks
    rw [cond_false, cond_false, cond_false, q1, bd_some, q2, bd_some, eq_SeqStepS, bd_some]
    simp only [beq_self_eq_true, Bool.not_true, cond_false, bd_some, eq_SeqStepS, m1, m2, decide_eq_false (show ¬ m < 0 by omega)]
end Go.PF
