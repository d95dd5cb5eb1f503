/- Helpers of the walks and plain laws. -/
import Derived.Test.YtofdolgiondolaaGreatDoorDiPf
import Derived.Test.YtofdolgiondolaaGreatDoorDiLB
set_option linter.unusedVariables false
namespace Go.PF
open Go.Pu
def inB (a b c : Int) : Bool := decide (b ≤ a) && decide (a ≤ c)
structure IsC (v : Int) (c : List Int) : Prop where
 lo : 0 ≤ v
 hi : v ≤ 12
 lit : ∀ l ∈ c, -v ≤ l ∧ l ≤ v ∧ l ≠ 0
 srt : c.Pairwise fun a b => a.natAbs < b.natAbs
end Go.PF
namespace Go.PF
open Go.Pu
def bs (b : ByteArray) : List UInt8 := b.data.toList
theorem bs_app (a b : ByteArray) : bs (a ++ b) = bs a ++ bs b := by unfold bs; rw [ByteArray.data_append, Array.toList_append]
theorem bs_ext {a b : ByteArray} (h : bs a = bs b) : a = b := by
 apply ByteArray.ext
 exact Array.ext' h
theorem bs_len (a : ByteArray) : (bs a).length = a.size := by unfold bs; rw [Array.length_toList]; rfl
theorem bs_cut (s : ByteArray) (a b : Nat) : bs (s.extract a b) = ((bs s).take b).drop a := by
 unfold bs
 rw [ByteArray.data_extract, Array.toList_extract, List.extract_eq_take_drop, List.drop_take]
def tx (l : List UInt8) : ByteArray := ⟨l.toArray⟩
theorem bs_tx (l : List UInt8) : bs (tx l) = l := by simp [bs, tx]
theorem tx_bs (s : ByteArray) : tx (bs s) = s := bs_ext (bs_tx _)
theorem tx_inj {a b : List UInt8} (h : tx a = tx b) : a = b := by rw [← bs_tx a, h, bs_tx]
theorem tx_size (l : List UInt8) : (tx l).size = l.length := by rw [← bs_len, bs_tx]
theorem tx_app (a b : List UInt8) : tx (a ++ b) = tx a ++ tx b := bs_ext (by rw [bs_app, bs_tx, bs_tx, bs_tx])
inductive Ft where
 | leaf (c : UInt8)
 | neg (a : Ft)
 | bin (op : UInt8) (a b : Ft)
deriving DecidableEq
def isLf (c : UInt8) : Bool := (97 ≤ c && c ≤ 102) || c == 48 || c == 49
def isOp (c : UInt8) : Bool := c == 38 || c == 124 || c == 62
def Ft.txt : Ft → List UInt8
 | .leaf c => [c]
 | .neg a => 126 :: a.txt
 | .bin op a b => 40 :: (a.txt ++ op :: (b.txt ++ [41]))
def Ft.wf : Ft → Bool
 | .leaf c => isLf c
 | .neg a => a.wf
 | .bin op a b => isOp op && a.wf && b.wf
def Ft.dep : Ft → Nat
 | .leaf _ => 1
 | .neg a => a.dep + 1
 | .bin _ a b => max a.dep b.dep + 1
theorem Ft.dep_le (t : Ft) : t.dep ≤ t.txt.length := by
 induction t with
 | leaf c => simp [Ft.dep, Ft.txt]
 | neg a ih => simp [Ft.dep, Ft.txt, ih]
 | bin op a b iha ihb => simp only [Ft.dep, Ft.txt, List.length_cons, List.length_append, List.length_nil]; omega
theorem Ft.dep_pos (t : Ft) : 0 < t.dep := by cases t <;> simp [Ft.dep]
theorem Ft.txt_ne (t : Ft) : t.txt ≠ [] := by cases t <;> simp [Ft.txt]
def pf : Nat → List UInt8 → Option (Ft × List UInt8)
 | 0, _ => none
 | _ + 1, [] => none
 | n + 1, c :: r =>
  if isLf c then some (.leaf c, r)
  else if c = 126 then (pf n r).map fun z => (.neg z.1, z.2)
  else if c = 40 then
   match pf n r with
   | some (a, o :: r2) => if isOp o then
    match pf n r2 with
    | some (b, d :: r3) => if d = 41 then some (.bin o a b, r3) else none
    | _ => none
    else none
   | _ => none
  else none
theorem pf_some : ∀ {n : Nat} {s : List UInt8} {t : Ft} {r : List UInt8}, pf n s = some (t, r) → s = t.txt ++ r ∧ t.wf = true
 | 0, _, _, _, h => by cases h
 | _ + 1, [], _, _, h => by cases h
 | n + 1, c :: s, t, r, h => by
  simp only [pf] at h
  split at h
  · rename_i hc; cases h; exact ⟨rfl, hc⟩
  split at h
  · rename_i hc
    cases hp : pf n s with
    | none => rw [hp] at h; cases h
    | some z =>
     rw [hp] at h; cases h
     obtain ⟨h1, h2⟩ := pf_some (t := z.1) (r := z.2) hp
     subst hc
     exact ⟨by rw [Ft.txt, List.cons_append, ← h1], h2⟩
  split at h
  · rename_i hc; subst hc
    split at h
    · rename_i a o r2 hp
      split at h
      · rename_i ho
        split at h
        · rename_i b d r3 hq
          split at h
          · rename_i hd; cases h; subst hd
            obtain ⟨h1, h2⟩ := pf_some hp
            obtain ⟨h3, h4⟩ := pf_some hq
            exact ⟨by rw [h1, h3]; simp [Ft.txt], by simp [Ft.wf, ho, h2, h4]⟩
          · cases h
        · cases h
      · cases h
    · cases h
  · cases h
theorem isLf_not {c : UInt8} (h : isLf c = true) : c ≠ 126 ∧ c ≠ 40 := by
 constructor <;> (rintro rfl; revert h; decide)
theorem pf_txt {t : Ft} (h : t.wf = true) : ∀ {n : Nat} (r : List UInt8), t.dep ≤ n → pf n (t.txt ++ r) = some (t, r) := by
 induction t with
 | leaf c => intro n r hn; cases n with
  | zero => simp [Ft.dep] at hn
  | succ n => simp only [Ft.txt, List.cons_append, List.nil_append, pf]; rw [if_pos (show isLf c = true from h)]
 | neg a ih => intro n r hn; cases n with
  | zero => simp [Ft.dep] at hn
  | succ n =>
   simp only [Ft.dep] at hn
   rw [Ft.txt, List.cons_append, pf, if_neg (by decide), if_pos rfl, ih h r (by omega)]; rfl
 | bin op a b iha ihb => intro n r hn; cases n with
  | zero => simp [Ft.dep] at hn
  | succ n =>
   simp only [Ft.dep] at hn
   simp only [Ft.wf, Bool.and_eq_true] at h
   rw [Ft.txt, List.cons_append, List.append_assoc, pf, if_neg (by decide), if_neg (by decide), if_pos rfl, iha h.1.2 _ (by omega)]
   simp only [h.1.1, if_true, List.cons_append, List.append_assoc]
   rw [ihb h.2 _ (by omega)]
   simp
def P (s : List UInt8) : Option (Ft × List UInt8) := pf s.length s
theorem P_some {s : List UInt8} {t : Ft} {r : List UInt8} : P s = some (t, r) ↔ s = t.txt ++ r ∧ t.wf = true := by
 constructor
 · exact pf_some
 · rintro ⟨rfl, h⟩
   exact pf_txt h r (by have := t.dep_le; rw [List.length_append]; omega)
theorem pf_P {n : Nat} {s : List UInt8} (h : s.length ≤ n) : pf n s = P s := by
 cases hp : pf n s with
 | some z => exact (P_some.2 (pf_some (t := z.1) (r := z.2) hp)).symm
 | none =>
  cases hq : P s with
  | none => rfl
  | some z =>
   obtain ⟨h1, h2⟩ := P_some.1 (show P s = some (z.1, z.2) from hq)
   have := pf_txt h2 (n := n) z.2 (by have := z.1.dep_le; rw [h1, List.length_append] at h; omega)
   rw [← h1, hp] at this; cases this
def F? (s : List UInt8) : Option Ft := match P s with | some (t, []) => some t | _ => none
theorem F?_some {s : List UInt8} {t : Ft} : F? s = some t ↔ s = t.txt ∧ t.wf = true := by
 unfold F?
 constructor
 · intro h
   split at h
   · rename_i t' hp; cases h
     have := P_some.1 hp
     exact ⟨by simpa using this.1, this.2⟩
   · cases h
 · rintro ⟨rfl, h⟩
   rw [P_some (t := t) (r := []) |>.2 ⟨by simp, h⟩]
theorem txt_inj {s t : Ft} (hs : s.wf = true) (ht : t.wf = true) {r q : List UInt8} (h : s.txt ++ r = t.txt ++ q) : s = t ∧ r = q := by
 have h1 := (P_some (s := s.txt ++ r) (t := s) (r := r)).2 ⟨rfl, hs⟩
 rw [h, (P_some (s := t.txt ++ q) (t := t) (r := q)).2 ⟨rfl, ht⟩] at h1
 cases h1; exact ⟨rfl, rfl⟩
theorem P_cons (c : UInt8) (r : List UInt8) : P (c :: r) = if isLf c then some (.leaf c, r)
 else if c = 126 then (P r).map fun z => (.neg z.1, z.2)
 else if c = 40 then
  match P r with
  | some (a, o :: r2) => if isOp o then
   match P r2 with
   | some (b, d :: r3) => if d = 41 then some (.bin o a b, r3) else none
   | _ => none
   else none
  | _ => none
 else none := by
 unfold P
 simp only [List.length_cons, pf]
 split
 · rfl
 split
 · rfl
 split
 · split
   · rename_i a o r2 hp
     split
     · have hl : r2.length ≤ r.length := by
        have := (pf_some hp).1; rw [this]; simp; omega
       rw [pf_P hl]; rfl
     · rfl
   · rfl
 · rfl
theorem P_nil : P [] = none := rfl
def Ft.fo : Ft → Fo
 | .leaf c => .node (c.toNat : Int) .nil .nil (tx [c])
 | .neg a => .node 126 a.fo .nil (tx (Ft.neg a).txt)
 | .bin op a b => .node (op.toNat : Int) a.fo b.fo (tx (Ft.bin op a b).txt)
end Go.PF
namespace Go.PF
open Go.Pu
section
variable {α : Type}
structure STO (lt : α → α → Bool) : Prop where
 irr : ∀ a, lt a a = false
 tr : ∀ a b c, lt a b = true → lt b c = true → lt a c = true
 tot : ∀ a b, lt a b = false → lt b a = false → a = b
variable {lt : α → α → Bool}
theorem mem_compactL [DecidableEq α] {z : α} : ∀ {l : List α}, z ∈ compactL l ↔ z ∈ l
 | [] => by simp [compactL]
 | [x] => by simp [compactL]
 | x :: y :: l => by
  have ih := mem_compactL (z := z) (l := y :: l)
  by_cases h : x = y
  · simp only [compactL, h, if_true, ih, List.mem_cons]
    constructor
    · rintro (h | h) <;> simp [h]
    · rintro (h | h | h) <;> simp [h]
  · simp only [compactL, h, if_false, List.mem_cons]
    rw [ih]; simp
end
end Go.PF
namespace Go.PF
open Go.Pu
theorem bs_at {s : ByteArray} {k : Nat} : (bs s)[k]? = s.data[k]? := by unfold bs; rw [Array.getElem?_toList]
theorem ixS_at {s : ByteArray} {k : Nat} {c : UInt8} (h : (bs s)[k]? = some c) : ixS s (k : Int) = some (c.toNat : Int) := by
 unfold ixS; rw [if_pos (by omega), ← bs_at]; simp [h]
theorem toList_bs (s : ByteArray) : s.toList = bs s := by
 have key : ∀ (n i : Nat) (r : List UInt8), s.size - i = n → ByteArray.toList.loop s i r = r.reverse ++ (bs s).drop i := by
  intro n
  induction n with
  | zero =>
   intro i r h
   unfold ByteArray.toList.loop
   rw [if_neg (by omega), List.drop_eq_nil_of_le (by rw [bs_len]; omega), List.append_nil]
  | succ n ih =>
   intro i r h
   unfold ByteArray.toList.loop
   rw [if_pos (by omega), ih (i + 1) _ (by omega)]
   have hi : i < (bs s).length := by rw [bs_len]; omega
   rw [List.drop_eq_getElem_cons hi, List.reverse_cons, List.append_assoc]
   congr 1
   have : s.get! i = (bs s)[i] := by
    unfold bs ByteArray.get!
    simp
    have hs : i < s.data.size := by have := bs_len s; rw [bs_len] at hi; exact hi
    rw [getElem!_pos s.data i hs]
    exact (Array.getElem_toList _).symm
   rw [this]; rfl
 unfold ByteArray.toList
 rw [key _ 0 [] rfl]; simp
theorem eqS (a b : ByteArray) : (a.toList == b.toList) = decide (a = b) := by
 rw [toList_bs, toList_bs]
 by_cases h : a = b
 · subst h; simp
 · have : bs a ≠ bs b := fun e => h (bs_ext e)
   simp [h, this]
theorem u8i {c d : UInt8} : ((c.toNat : Int) == (d.toNat : Int)) = (c == d) := by
 by_cases h : c = d
 · subst h; simp
 · have : c.toNat ≠ d.toNat := fun e => h (UInt8.toNat_inj.1 e)
   rw [beq_eq_false_iff_ne.2 h, beq_eq_false_iff_ne.2 (by omega)]
theorem c48 (c : UInt8) : ((c.toNat : Int) == 48) = (c == 48) := u8i (d := 48)
theorem c49 (c : UInt8) : ((c.toNat : Int) == 49) = (c == 49) := u8i (d := 49)
theorem c126 (c : UInt8) : ((c.toNat : Int) == 126) = (c == 126) := u8i (d := 126)
theorem c40 (c : UInt8) : ((c.toNat : Int) == 40) = (c == 40) := u8i (d := 40)
theorem c41 (c : UInt8) : ((c.toNat : Int) == 41) = (c == 41) := u8i (d := 41)
theorem c38 (c : UInt8) : ((c.toNat : Int) == 38) = (c == 38) := u8i (d := 38)
theorem c124 (c : UInt8) : ((c.toNat : Int) == 124) = (c == 124) := u8i (d := 124)
theorem c62 (c : UInt8) : ((c.toNat : Int) == 62) = (c == 62) := u8i (d := 62)
theorem cge (c : UInt8) : decide (97 ≤ (c.toNat : Int)) = decide (97 ≤ c) := by
 have : (97 ≤ c) ↔ 97 ≤ c.toNat := UInt8.le_iff_toNat_le
 simp only [this]; exact decide_eq_decide.2 (by omega)
theorem cle (c : UInt8) : decide ((c.toNat : Int) ≤ 102) = decide (c ≤ 102) := by
 have : (c ≤ 102) ↔ c.toNat ≤ 102 := UInt8.le_iff_toNat_le
 simp only [this]; exact decide_eq_decide.2 (by omega)
theorem clt (c : UInt8) : decide ((c.toNat : Int) < 103) = decide (c ≤ 102) := by
 have : (c ≤ 102) ↔ c.toNat ≤ 102 := UInt8.le_iff_toNat_le
 simp only [this]; exact decide_eq_decide.2 (by omega)
theorem isLf_spec (c : UInt8) : isLf c = ((c == 48) || (c == 49) || (decide (97 ≤ c) && decide (c ≤ 102))) := by
 unfold isLf
 cases decide (97 ≤ c) <;> cases decide (c ≤ 102) <;> cases (c == 48) <;> cases (c == 49) <;> rfl
def endV (s : ByteArray) (k : Nat) : Int := match P ((bs s).drop k) with
 | some (t, _) => ((k + t.txt.length : Nat) : Int)
 | none => -1
theorem P_rest {l : List UInt8} {t : Ft} {r : List UInt8} (h : P l = some (t, r)) : r = l.drop t.txt.length := by
 rw [(P_some.1 h).1]; simp
theorem P_drop {s : ByteArray} {k : Nat} {t : Ft} {r : List UInt8} (h : P ((bs s).drop k) = some (t, r)) : r = (bs s).drop (k + t.txt.length) ∧ k + t.txt.length ≤ s.size := by
 have h1 := P_rest h
 have h2 := congrArg List.length (P_some.1 h).1
 have h3 := List.length_pos_iff.2 t.txt_ne
 rw [List.length_drop, List.length_append, bs_len] at h2
 rw [List.drop_drop] at h1
 exact ⟨h1, by omega⟩
theorem wr_k {k : Nat} (h : k ≤ 1000000) : wr ((k : Int) + 1) = ((k + 1 : Nat) : Int) := by rw [wr_of _ (by omega) (by omega)]; rfl
theorem spec_l22End_F_eq (s : ByteArray) (hs : s.size ≤ 1000) : ∀ (n k : Nat), s.size - k < n → spec_l22End_F n s (k : Int) = some (endV s k)
 | 0, _, h => by omega
 | n + 1, k, h => by
  show spec_l22End_B (spec_l22End_F n) s (k : Int) = _
  unfold spec_l22End_B
  by_cases hk : s.size ≤ k
  · rw [bifT (by simp; omega)]
    unfold endV
    rw [List.drop_eq_nil_of_le (by rw [bs_len]; exact hk), P_nil]
  · rw [bifF (by simp; omega)]
    have hkl : k < (bs s).length := by rw [bs_len]; omega
    obtain ⟨c, hc⟩ : ∃ c, (bs s)[k]? = some c := ⟨_, List.getElem?_eq_getElem hkl⟩
    have hd : (bs s).drop k = c :: (bs s).drop (k + 1) := by
     rw [List.drop_eq_getElem_cons hkl]; congr 1
     rw [List.getElem?_eq_getElem hkl] at hc; exact Option.some.inj hc
    have hi := ixS_at hc
    simp only [hi, bd_some, c48, c49, c126, c40, cge, cle]
    have hP : endV s k = match P (c :: (bs s).drop (k + 1)) with | some (t, _) => ((k + t.txt.length : Nat) : Int) | none => -1 := by unfold endV; rw [hd]
    rw [hP, P_cons]
    have e1 : (bd (bif c == 48 then some true else some (c == 49)) fun t26 => bd (bif t26 then some true else bd (bif decide (97 ≤ c) then some (decide (c ≤ 102)) else some false) fun t66 => some t66) fun t55 => (some t55 : Option Bool)) = some (isLf c) := by
     rw [isLf_spec]
     cases decide (97 ≤ c) <;> cases decide (c ≤ 102) <;> cases (c == 48) <;> cases (c == 49) <;> rfl
    have step : ∀ {B : Type} (K : Bool → Option B), (bd (bif c == 48 then some true else some (c == 49)) fun t26 => bd (bif t26 then some true else bd (bif decide (97 ≤ c) then some (decide (c ≤ 102)) else some false) fun t66 => some t66) K) = K (isLf c) := by
     intro B K
     rw [isLf_spec]
     cases decide (97 ≤ c) <;> cases decide (c ≤ 102) <;> cases (c == 48) <;> cases (c == 49) <;> rfl
    rw [step]
    by_cases hl : isLf c = true
    · rw [hl, cond_true, if_pos rfl, wr_k (by omega)]; rfl
    · rw [Bool.not_eq_true] at hl
      rw [hl, cond_false, if_neg (by simp)]
      by_cases h126 : c = 126
      · subst h126
        rw [if_pos rfl]
        simp only [beq_self_eq_true, cond_true]
        rw [wr_k (by omega), spec_l22End_F_eq s hs n (k + 1) (by omega), bd_some]
        unfold endV
        cases P ((bs s).drop (k + 1)) with
        | none => rfl
        | some z =>
         obtain ⟨a, r⟩ := z
         show some ((k + 1 + a.txt.length : Nat) : Int) = some ((k + (126 :: a.txt).length : Nat) : Int)
         rw [List.length_cons, show k + 1 + a.txt.length = k + (a.txt.length + 1) by omega]
      · rw [if_neg h126, beq_eq_false_iff_ne.2 h126, cond_false]
        by_cases h40 : c = 40
        · subst h40
          rw [if_pos rfl]
          simp only [beq_self_eq_true, Bool.not_true, cond_false]
          rw [wr_k (by omega), spec_l22End_F_eq s hs n (k + 1) (by omega), bd_some]
          cases hp : P ((bs s).drop (k + 1)) with
          | none =>
           have : endV s (k + 1) = -1 := by unfold endV; rw [hp]
           rw [this]; rfl
          | some z =>
           obtain ⟨a, r⟩ := z
           have ev : endV s (k + 1) = ((k + 1 + a.txt.length : Nat) : Int) := by unfold endV; rw [hp]
           obtain ⟨hr, hle⟩ := P_drop hp
           rw [ev]
           generalize hm : k + 1 + a.txt.length = m at hr hle
           rw [bifF (show decide ((m : Int) < 0) = false by simp)]
           by_cases hms : s.size ≤ m
           · rw [bifT (show decide ((s.size : Int) ≤ (m : Int)) = true by simp; omega), bd_some, cond_true]
             rw [hr, List.drop_eq_nil_of_le (by rw [bs_len]; exact hms)]
           · rw [bifF (show decide ((s.size : Int) ≤ (m : Int)) = false by simp; omega)]
             have hml : m < (bs s).length := by rw [bs_len]; omega
             obtain ⟨o, ho⟩ : ∃ o, (bs s)[m]? = some o := ⟨_, List.getElem?_eq_getElem hml⟩
             have hdm : (bs s).drop m = o :: (bs s).drop (m + 1) := by
              rw [List.drop_eq_getElem_cons hml]; congr 1
              rw [List.getElem?_eq_getElem hml] at ho; exact Option.some.inj ho
             have him := ixS_at ho
             simp only [him, bd_some, c38, c124, c62]
             rw [hr, hdm]
             have stp : ∀ {B : Type} (K : Bool → Option B), (bd (bif !(o == 38) then some (!(o == 124)) else some false) fun t152 => bd (bif t152 then some (!(o == 62)) else some false) K) = K (!isOp o) := by
              intro B K
              unfold isOp
              cases (o == 38) <;> cases (o == 124) <;> cases (o == 62) <;> rfl
             have stp2 : (bd (bif !(o == 38) then some (!(o == 124)) else some false) fun t152 => bd (bif t152 then some (!(o == 62)) else some false) fun t167 => some t167) = some (!isOp o) := stp _
             rw [stp2, bd_some]
             dsimp only
             by_cases hop : isOp o = true
             · rw [hop, Bool.not_true, cond_false, if_pos rfl, wr_k (by omega), spec_l22End_F_eq s hs n (m + 1) (by omega), bd_some]
               cases hq : P ((bs s).drop (m + 1)) with
               | none =>
                have : endV s (m + 1) = -1 := by unfold endV; rw [hq]
                rw [this]; rfl
               | some z =>
                obtain ⟨b, r3⟩ := z
                have ev2 : endV s (m + 1) = ((m + 1 + b.txt.length : Nat) : Int) := by unfold endV; rw [hq]
                obtain ⟨hr3, hle3⟩ := P_drop hq
                rw [ev2]
                generalize hj : m + 1 + b.txt.length = j at hr3 hle3
                rw [bifF (show decide ((j : Int) < 0) = false by simp)]
                by_cases hjs : s.size ≤ j
                · rw [bifT (show decide ((s.size : Int) ≤ (j : Int)) = true by simp; omega), bd_some, cond_true]
                  rw [hr3, List.drop_eq_nil_of_le (by rw [bs_len]; exact hjs)]
                · rw [bifF (show decide ((s.size : Int) ≤ (j : Int)) = false by simp; omega)]
                  have hjl : j < (bs s).length := by rw [bs_len]; omega
                  obtain ⟨d, hd'⟩ : ∃ d, (bs s)[j]? = some d := ⟨_, List.getElem?_eq_getElem hjl⟩
                  have hdj : (bs s).drop j = d :: (bs s).drop (j + 1) := by
                   rw [List.drop_eq_getElem_cons hjl]; congr 1
                   rw [List.getElem?_eq_getElem hjl] at hd'; exact Option.some.inj hd'
                  have hij := ixS_at hd'
                  simp only [hij, bd_some, c41]
                  rw [hr3, hdj]
                  dsimp only
                  by_cases h41 : d = 41
                  · subst h41
                    rw [if_pos rfl, wr_k (by omega)]
                    show some ((j + 1 : Nat) : Int) = some ((k + (Ft.bin o a b).txt.length : Nat) : Int)
                    have : j + 1 = k + (Ft.bin o a b).txt.length := by
                     simp only [Ft.txt, List.length_cons, List.length_append, List.length_nil]; omega
                    rw [this]
                  · rw [if_neg h41, beq_eq_false_iff_ne.2 h41]; rfl
             · rw [Bool.not_eq_true] at hop
               rw [hop, Bool.not_false, cond_true, if_neg (by simp)]
        · rw [if_neg h40, beq_eq_false_iff_ne.2 h40]; rfl
theorem spec_l22End_eq {s : ByteArray} (hs : s.size ≤ 1000) (k : Nat) : spec_l22End s (k : Int) = some (endV s k) := by
 unfold spec_l22End
 exact spec_l22End_F_eq s hs _ _ (by rw [deep_eq]; omega)
def goodB (s : ByteArray) : Bool := decide (s.size ≤ 80) && (F? (bs s)).isSome
theorem spec_l22Good_eq (s : ByteArray) : spec_l22Good s = some (goodB s) := by
 unfold spec_l22Good goodB
 by_cases h0 : 0 < s.size
 · rw [bifT (decide_eq_true (show 0 < (s.size : Int) by omega))]
   by_cases h80 : s.size ≤ 80
   · rw [bifT (show decide ((s.size : Int) ≤ 80) = true by simp; omega)]
     have := spec_l22End_eq (s := s) (by omega) 0
     rw [show ((0 : Nat) : Int) = 0 from rfl] at this
     rw [this, bd_some, bd_some]
     rw [show decide (s.size ≤ 80) = true by simp [h80], Bool.true_and]
     congr 1
     unfold endV F?
     rw [List.drop_zero]
     cases hp : P (bs s) with
     | none =>
      show ((-1 : Int) == (s.size : Int)) = false
      rw [beq_eq_false_iff_ne]; omega
     | some z =>
      obtain ⟨t, r⟩ := z
      have h1 := congrArg List.length (P_some.1 hp).1
      rw [List.length_append, bs_len] at h1
      cases r with
      | nil =>
       show (((0 + t.txt.length : Nat) : Int) == (s.size : Int)) = true
       rw [List.length_nil] at h1
       rw [beq_iff_eq]; omega
      | cons x r =>
       show (((0 + t.txt.length : Nat) : Int) == (s.size : Int)) = false
       rw [List.length_cons] at h1
       rw [beq_eq_false_iff_ne]; omega
   · rw [bifF (show decide ((s.size : Int) ≤ 80) = false by simp; omega)]
     simp [h80]
 · rw [bifF (decide_eq_false (show ¬ (0 < (s.size : Int)) by omega))]
   have e : bs s = [] := List.eq_nil_of_length_eq_zero (by rw [bs_len]; omega)
   rw [e, show F? [] = none from rfl]
   simp
end Go.PF
namespace Go.PF
open Go.Pu
theorem cutS_ok {s : ByteArray} {a b : Nat} (h1 : a ≤ b) (h2 : b ≤ s.size) : cutS s (a : Int) (b : Int) = some (tx (((bs s).take b).drop a)) := by
 unfold cutS
 rw [if_pos (by omega)]
 congr 1
 apply bs_ext
 rw [bs_tx, bs_cut]; simp
theorem catS_ok {a b : ByteArray} (h : a.size + b.size ≤ 1000000000) : catS a b = some (a ++ b) := by unfold catS; rw [if_pos (by omega)]
theorem emp_tx : (ByteArray.mk #[]) = tx [] := rfl
theorem chrS_ok {c : UInt8} (h : c < 128) : chrS (c.toNat : Int) = some (tx [c]) := by
 have h' : c.toNat < 128 := h
 unfold chrS
 rw [if_pos (by omega)]
 congr 1
 apply bs_ext
 rw [bs_tx]
 show [UInt8.ofNat ((c.toNat : Int)).toNat] = [c]
 simp
theorem isLf_128 {c : UInt8} (h : isLf c = true) : c < 128 := by
 show c.toNat < 128
 rw [isLf_spec] at h
 simp only [Bool.or_eq_true, Bool.and_eq_true, decide_eq_true_eq, beq_iff_eq] at h
 rcases h with (rfl | rfl) | ⟨_, h⟩
 · decide
 · decide
 · have : c.toNat ≤ 102 := UInt8.le_iff_toNat_le.1 h
   omega
theorem isOp_128 {c : UInt8} (h : isOp c = true) : c < 128 := by
 unfold isOp at h
 simp only [Bool.or_eq_true, beq_iff_eq] at h
 rcases h with (rfl | rfl) | rfl <;> decide
theorem fo_get (t : Ft) : ∃ n, t.fo.get = some n ∧ n.text = tx t.txt ∧ n.fo = t.fo := by
 cases t with
 | leaf c => exact ⟨_, rfl, rfl, rfl⟩
 | neg a => exact ⟨_, rfl, rfl, rfl⟩
 | bin op a b => exact ⟨_, rfl, rfl, rfl⟩
theorem impl_leaf_eq {c : UInt8} (h : isLf c = true) : impl_leaf (c.toNat : Int) = some (Ft.leaf c).fo := by
 unfold impl_leaf
 rw [chrS_ok (isLf_128 h)]; rfl
theorem impl_not_eq {a : Ft} (h : a.txt.length ≤ 1000000) : impl_not a.fo = some (Ft.neg a).fo := by
 obtain ⟨n, h1, h2, _⟩ := fo_get a
 unfold impl_not
 rw [h1, bd_some, h2, catS_ok (by rw [tx_size]; show 1 + _ ≤ _; omega), bd_some]
 have e : ByteArray.mk #[126] ++ tx a.txt = tx (126 :: a.txt) := bs_ext (by rw [bs_app, bs_tx, bs_tx]; rfl)
 rw [e]; rfl
theorem impl_join_eq {o : UInt8} {a b : Ft} (ho : isOp o = true) (h : (Ft.bin o a b).txt.length ≤ 1000000) : impl_join (o.toNat : Int) a.fo b.fo = some (Ft.bin o a b).fo := by
 obtain ⟨n, h1, h2, _⟩ := fo_get a
 obtain ⟨m, h3, h4, _⟩ := fo_get b
 simp only [Ft.txt, List.length_cons, List.length_append, List.length_nil] at h
 have s1 : (ByteArray.mk #[40]).size = 1 := rfl
 have s2 : (ByteArray.mk #[41]).size = 1 := rfl
 unfold impl_join
 rw [h1, bd_some, h2, catS_ok (by rw [tx_size, s1]; omega), bd_some, chrS_ok (isOp_128 ho), bd_some, catS_ok (by rw [ByteArray.size_append, tx_size, tx_size, s1]; simp only [List.length_cons, List.length_nil]; omega), bd_some, h3, bd_some, h4,
  catS_ok (by rw [ByteArray.size_append, ByteArray.size_append, tx_size, tx_size, tx_size, s1]; simp only [List.length_cons, List.length_nil]; omega), bd_some,
  catS_ok (by rw [ByteArray.size_append, ByteArray.size_append, ByteArray.size_append, tx_size, tx_size, tx_size, s1, s2]; simp only [List.length_cons, List.length_nil]; omega), bd_some]
 have e : ByteArray.mk #[40] ++ tx a.txt ++ tx [o] ++ tx b.txt ++ ByteArray.mk #[41] = tx (Ft.bin o a b).txt := by
  apply bs_ext
  rw [bs_app, bs_app, bs_app, bs_app, bs_tx, bs_tx, bs_tx, bs_tx]
  simp [Ft.txt, bs]
 rw [e]; rfl
theorem isLetter_eq (c : UInt8) : impl_isLetter (c.toNat : Int) = (decide (97 ≤ c) && decide (c ≤ 102)) := by
 unfold impl_isLetter
 rw [cge, clt]
 cases decide (97 ≤ c) <;> rfl
theorem hasS_op (o : UInt8) : strings_Contains (ByteArray.mk #[38, 124, 62]) (tx [o]) = some (isOp o) := by
 unfold strings_Contains hasS
 have : (tx [o]).data.toList = [o] := bs_tx [o]
 rw [this]
 show some (decide (0 ≤ Go.Lib.indexByte [38, 124, 62] o)) = _
 congr 1
 revert o
 have key : ((List.range 256).all fun n => decide (0 ≤ Go.Lib.indexByte [38, 124, 62] (UInt8.ofNat n)) == isOp (UInt8.ofNat n)) = true := by decide +kernel
 intro o _
 have := List.all_eq_true.1 key o.toNat (List.mem_range.2 o.toNat_lt)
 rw [beq_iff_eq] at this
 simpa using this
def fromV (s : ByteArray) : Fo × ByteArray × Bool := match P (bs s) with
 | some (t, r) => (t.fo, tx r, true)
 | none => (.nil, tx [], false)
theorem isEmp (s : ByteArray) : (s.toList == (ByteArray.mk #[]).toList) = (bs s).isEmpty := by
 rw [toList_bs, toList_bs, show bs (ByteArray.mk #[]) = [] from rfl]
 cases bs s <;> rfl
theorem impl_parseFrom_F_eq : ∀ (n : Nat) (s : ByteArray), s.size < n → s.size ≤ 100000 → impl_parseFrom_F n s = some (fromV s)
 | 0, _, h, _ => by omega
 | n + 1, s, h, hs => by
  show impl_parseFrom_B (impl_parseFrom_F n) s = _
  unfold impl_parseFrom_B fromV
  rw [isEmp]
  cases hb : bs s with
  | nil => rfl
  | cons c r =>
   have hsz := bs_len s
   rw [hb, List.length_cons] at hsz
   have hi : ixS s 0 = some (c.toNat : Int) := ixS_at (k := 0) (by rw [hb]; rfl)
   have hc : cutS s 1 (s.size : Int) = some (tx r) := by
    have := cutS_ok (s := s) (a := 1) (b := s.size) (by omega) (by omega)
    rw [show ((1 : Nat) : Int) = 1 from rfl] at this
    rw [this, hb]
    congr 2
    rw [← hsz]; simp
   have rl : (tx r).size = r.length := tx_size r
   rw [show (c :: r).isEmpty = false from rfl, cond_false, hi, bd_some, hc, bd_some]
   simp only [isLetter_eq, c48, c49, c126, c40]
   rw [P_cons]
   have e1 : (bif (bif (decide (97 ≤ c) && decide (c ≤ 102)) then true else (c == 48)) then true else (c == 49)) = isLf c := by
    rw [isLf_spec]
    cases decide (97 ≤ c) <;> cases decide (c ≤ 102) <;> cases (c == 48) <;> cases (c == 49) <;> rfl
   rw [e1]
   by_cases hl : isLf c = true
   · rw [hl, cond_true, if_pos rfl, impl_leaf_eq hl]; rfl
   · rw [Bool.not_eq_true] at hl
     rw [hl, cond_false, if_neg (by simp)]
     have ih : impl_parseFrom_F n (tx r) = some (fromV (tx r)) := impl_parseFrom_F_eq n (tx r) (by omega) (by omega)
     rw [ih, bd_some]
     by_cases h126 : c = 126
     · subst h126
       rw [if_pos rfl]
       simp only [beq_self_eq_true, cond_true]
       unfold fromV
       rw [bs_tx]
       cases hp : P r with
       | none => rfl
       | some z =>
        obtain ⟨a, r'⟩ := z
        have h1 := congrArg List.length (P_some.1 hp).1
        rw [List.length_append] at h1
        show bd (impl_not a.fo) (fun r72 => some (r72, tx r', true)) = _
        rw [impl_not_eq (by omega)]; rfl
     · rw [if_neg h126, beq_eq_false_iff_ne.2 h126, cond_false]
       by_cases h40 : c = 40
       · subst h40
         rw [if_pos rfl]
         simp only [beq_self_eq_true, Bool.not_true, cond_false]
         unfold fromV
         rw [bs_tx, bd_some]
         cases hp : P r with
         | none => rfl
         | some z =>
          obtain ⟨a, r1⟩ := z
          have l1 := congrArg List.length (P_some.1 hp).1
          rw [List.length_append] at l1
          dsimp only
          rw [Bool.not_true, isEmp, bs_tx]
          cases r1 with
          | nil => rfl
          | cons o r2 =>
           have t1 : (tx (o :: r2)).size = r2.length + 1 := tx_size _
           have c01 : cutS (tx (o :: r2)) 0 1 = some (tx [o]) := by
            have := cutS_ok (s := tx (o :: r2)) (a := 0) (b := 1) (by omega) (by omega)
            rw [show ((0 : Nat) : Int) = 0 from rfl, show ((1 : Nat) : Int) = 1 from rfl] at this
            rw [this, bs_tx]; rfl
           have c1e : cutS (tx (o :: r2)) 1 ((tx (o :: r2)).size : Int) = some (tx r2) := by
            have := cutS_ok (s := tx (o :: r2)) (a := 1) (b := (tx (o :: r2)).size) (by omega) (by omega)
            rw [show ((1 : Nat) : Int) = 1 from rfl] at this
            rw [this, bs_tx, t1]; simp
           have io : ixS (tx (o :: r2)) 0 = some (o.toNat : Int) := ixS_at (k := 0) (by rw [bs_tx]; rfl)
           rw [show (o :: r2).isEmpty = false from rfl, cond_false, cond_false, c01, bd_some, hasS_op, bd_some, bd_some, io, bd_some, c1e, bd_some]
           dsimp only
           by_cases hop : isOp o = true
           · have l2 : r2.length < s.size := by simp only [List.length_cons] at l1; omega
             have ih2 : impl_parseFrom_F n (tx r2) = some (fromV (tx r2)) := impl_parseFrom_F_eq n (tx r2) (by rw [tx_size]; simp only [List.length_cons] at l1; omega) (by rw [tx_size]; omega)
             rw [hop, Bool.not_true, cond_false, if_pos rfl, ih2, bd_some]
             unfold fromV
             rw [bs_tx]
             cases hq : P r2 with
             | none => rfl
             | some z =>
              obtain ⟨b, r3⟩ := z
              have l3 := congrArg List.length (P_some.1 hq).1
              rw [List.length_append] at l3
              dsimp only
              rw [Bool.not_true, isEmp, bs_tx]
              cases r3 with
              | nil => rfl
              | cons d r4 =>
               have t3 : (tx (d :: r4)).size = r4.length + 1 := tx_size _
               have io3 : ixS (tx (d :: r4)) 0 = some (d.toNat : Int) := ixS_at (k := 0) (by rw [bs_tx]; rfl)
               have c3e : cutS (tx (d :: r4)) 1 ((tx (d :: r4)).size : Int) = some (tx r4) := by
                have := cutS_ok (s := tx (d :: r4)) (a := 1) (b := (tx (d :: r4)).size) (by omega) (by omega)
                rw [show ((1 : Nat) : Int) = 1 from rfl] at this
                rw [this, bs_tx, t3]; simp
               rw [show (d :: r4).isEmpty = false from rfl, cond_false, cond_false, io3, bd_some, bd_some, c41]
               dsimp only
               by_cases h41 : d = 41
               · subst h41
                 rw [if_pos rfl]
                 simp only [beq_self_eq_true, Bool.not_true, cond_false]
                 rw [impl_join_eq hop (by simp only [Ft.txt, List.length_cons, List.length_append, List.length_nil] at *; omega), bd_some, c3e]; rfl
               · rw [if_neg h41, beq_eq_false_iff_ne.2 h41]; rfl
           · rw [Bool.not_eq_true] at hop
             rw [hop, Bool.not_false, cond_true, if_neg (by simp)]; rfl
       · rw [if_neg h40, beq_eq_false_iff_ne.2 h40]; rfl
theorem impl_parse_eq (s : ByteArray) : impl_parse s = some (match F? (bs s) with | some t => if s.size ≤ 80 then (t.fo, true) else (.nil, false) | none => (.nil, false)) := by
 unfold impl_parse
 by_cases h80 : s.size ≤ 80
 · rw [bifF (show decide (80 < (s.size : Int)) = false by simp; omega)]
   unfold impl_parseFrom
   rw [impl_parseFrom_F_eq deep s (by rw [deep_eq]; omega) (by omega), bd_some]
   unfold fromV F?
   cases hp : P (bs s) with
   | none => rfl
   | some z =>
    obtain ⟨t, r⟩ := z
    dsimp only
    rw [Bool.not_true, isEmp, bs_tx]
    cases r with
    | nil => simp [h80]
    | cons x r => simp
 · rw [bifT (show decide (80 < (s.size : Int)) = true by simp; omega)]
   cases F? (bs s) <;> simp [h80]
theorem good_iff {s : ByteArray} : goodB s = true ↔ ∃ t, F? (bs s) = some t ∧ s.size ≤ 80 := by
 unfold goodB
 rw [Bool.and_eq_true, decide_eq_true_iff, Option.isSome_iff_exists]
 constructor
 · rintro ⟨h1, t, h2⟩; exact ⟨t, h2, h1⟩
 · rintro ⟨t, h2, h1⟩; exact ⟨h1, t, h2⟩
theorem impl_parse_good {s : ByteArray} {t : Ft} (h : F? (bs s) = some t) (h80 : s.size ≤ 80) : impl_parse s = some (t.fo, true) := by
 rw [impl_parse_eq, h]; simp [h80]
theorem impl_parse_bad {s : ByteArray} (h : goodB s = false) : impl_parse s = some (.nil, false) := by
 rw [impl_parse_eq]
 cases e : F? (bs s) with
 | none => rfl
 | some t =>
  have : ¬ s.size ≤ 80 := fun g => by
   rw [good_iff.2 ⟨t, e, g⟩] at h; cases h
  simp [this]
theorem impl_IsFormula_eq (s : ByteArray) : impl_IsFormula s = some (goodB s) := by
 unfold impl_IsFormula
 cases h : goodB s with
 | true =>
  obtain ⟨t, h1, h2⟩ := good_iff.1 h
  rw [impl_parse_good h1 h2]; rfl
 | false => rw [impl_parse_bad h]; rfl
end Go.PF
namespace Go.PF
open Go.Pu
structure okC (n : Nat) (c : l1Cur) : Prop where
 code : okL okU8 c.code
 lo : 0 ≤ c.at_
 hi : c.at_ + n ≤ 4611686018427387904
theorem okC.le {n m : Nat} {c : l1Cur} (h : okC n c) (hm : m ≤ n := by omega) : okC m c := ⟨h.code, h.lo, by have := h.hi; omega⟩
def Dr {A : Type} (n : Nat) (x : Option (A × l1Cur)) (Q : A → Prop) : Prop := ∃ a c, x = some (a, c) ∧ okC n c ∧ Q a
theorem wrk_nn {n : Int} (h0 : 0 ≤ n) (h1 : n < 9223372036854775808) : wrk true 64 n = n := by
 unfold wrk
 have h2 : (n % (2 ^ 64 : Int)) = n := Int.emod_eq_of_lt h0 (by omega)
 rw [h2]
 simp only [Bool.true_and]
 rw [if_neg]
 simp
 omega
theorem andK_small (x : Int) : 0 ≤ andK false 64 x 255 ∧ andK false 64 x 255 ≤ 255 := by
 unfold andK
 have h : ((BitVec.ofInt 64 x &&& BitVec.ofInt 64 255).toNat : Int) ≤ 255 := by
  rw [BitVec.toNat_and]
  have : (BitVec.ofInt 64 x).toNat &&& (BitVec.ofInt 64 255).toNat ≤ (BitVec.ofInt 64 255).toNat := Nat.and_le_right
  have e : (BitVec.ofInt 64 255).toNat = 255 := by decide
  omega
 generalize hk : ((BitVec.ofInt 64 x &&& BitVec.ofInt 64 255).toNat : Int) = k at *
 have h0 : 0 ≤ k := by rw [← hk]; exact Int.natCast_nonneg _
 unfold wrk
 simp only [Bool.false_and, Bool.false_eq_true, if_false]
 rw [Int.emod_eq_of_lt h0 (by omega)]
 exact ⟨h0, h⟩
theorem dr_next {n : Nat} {c : l1Cur} (h : okC (n + 1) c) : Dr n (spec_l1Cur_next c) fun b => 0 ≤ b ∧ b ≤ 255 := by
 have hl := h.lo; have hh := h.hi
 have hw : wr (c.at_ + 1) = c.at_ + 1 := wr_of _ (by omega) (by omega)
 have tail : ∀ s : Int, 0 ≤ s → s ≤ 255 → Dr n (bif (decide ((wr (c.at_ + 1)) ≤ (len c.code))) then some (s, (l1Cur.mk c.code (wr (c.at_ + 1)) (wrk false 64 ((wrk false 64 ((wrk false 64 (c.seed * 6364136223846793005)) + (wrk false 64 s))) + 337411)))) else some ((wrk true 64 (andK false 64 (shrK 64 (wrk false 64 ((wrk false 64 ((wrk false 64 (c.seed * 6364136223846793005)) + (wrk false 64 s))) + 337411)) 40) 255)), (l1Cur.mk c.code (wr (c.at_ + 1)) (wrk false 64 ((wrk false 64 ((wrk false 64 (c.seed * 6364136223846793005)) + (wrk false 64 s))) + 337411))))) (fun b => 0 ≤ b ∧ b ≤ 255) := by
  intro s h0 h1
  rw [hw]
  cases decide (c.at_ + 1 ≤ len c.code)
  · have := andK_small (shrK 64 (wrk false 64 ((wrk false 64 ((wrk false 64 (c.seed * 6364136223846793005)) + (wrk false 64 s))) + 337411)) 40)
    refine ⟨_, _, rfl, ⟨h.code, by show 0 ≤ c.at_ + 1; omega, by show c.at_ + 1 + _ ≤ _; omega⟩, ?_⟩
    show 0 ≤ wrk true 64 _ ∧ wrk true 64 _ ≤ 255
    rw [wrk_nn this.1 (by omega)]; exact this
  · exact ⟨_, _, rfl, ⟨h.code, by show 0 ≤ c.at_ + 1; omega, by show c.at_ + 1 + _ ≤ _; omega⟩, h0, h1⟩
 unfold spec_l1Cur_next
 cases hd : decide (c.at_ < len c.code) with
 | false => exact tail 0 (by omega) (by omega)
 | true =>
  have h2 : c.at_ < c.code.length := of_decide_eq_true hd
  obtain ⟨x, hx, hg⟩ := ix_of h.lo h2
  have hm := h.code.2 x (List.mem_of_getElem? hg)
  simp only [cond_true]
  rw [hx, bd_some, bdR_go, wrk_nn hm.1 (by have := hm.2; omega)]
  exact tail x hm.1 hm.2
theorem Dr.bind {A B : Type} {n m : Nat} {x : Option (A × l1Cur)} {Q : A → Prop} {k : A × l1Cur → Option (B × l1Cur)} {R : B → Prop} (h : Dr n x Q) (hk : ∀ a c, okC n c → Q a → Dr m (k (a, c)) R) : Dr m (bd x k) R := by
 obtain ⟨a, c, rfl, hc, hq⟩ := h
 exact hk a c hc hq
theorem dr_pick {n : Nat} {c : l1Cur} (h : okC (n + 2) c) (k : Int) : Dr n (spec_l1Cur_pick c k) fun x => 0 ≤ x ∧ x ≤ 65535 ∧ (x = 0 ∨ x < k) := by
 unfold spec_l1Cur_pick
 cases hd : decide (k ≤ 1) with
 | true => exact ⟨_, _, rfl, h.le, by omega, by omega, .inl rfl⟩
 | false =>
  have hk : 1 < k := by have := of_decide_eq_false hd; omega
  have hz : nz k = some () := by unfold nz; rw [if_neg (by omega)]
  simp only [cond_false]
  have small : ∀ x : Int, 0 ≤ x → x ≤ 65535 → 0 ≤ x.tmod k ∧ x.tmod k ≤ 65535 ∧ (x.tmod k = 0 ∨ x.tmod k < k) := fun x h0 h1 => by
   rw [Int.tmod_eq_emod_of_nonneg h0]
   have g1 := Int.emod_nonneg x (show k ≠ 0 by omega)
   have g2 := Int.emod_lt_of_pos x (show 0 < k by omega)
   have g3 : x % k ≤ x := by
    have e := Int.mul_ediv_add_emod x k
    have := Int.mul_nonneg (show 0 ≤ k by omega) (Int.ediv_nonneg h0 (show 0 ≤ k by omega))
    omega
   exact ⟨g1, by omega, .inr g2⟩
  refine (dr_next (n := n + 1) h).bind fun b c1 hc1 hb => ?_
  cases decide (200 < k) with
  | true =>
   simp only [cond_true]
   refine (dr_next (n := n) hc1).bind fun b2 c2 hc2 hb2 => ?_
   rw [hz, bd_some]
   have e1 : wr (b * 256) = b * 256 := wr_of _ (by omega) (by omega)
   have e2 : wr (b * 256 + b2) = b * 256 + b2 := wr_of _ (by omega) (by omega)
   exact ⟨_, _, rfl, hc2, by show 0 ≤ (wr (wr (b * 256) + b2)).tmod k ∧ _; rw [e1, e2]; exact small _ (by omega) (by omega)⟩
  | false =>
   simp only [cond_false]
   rw [hz, bd_some]
   exact ⟨_, _, rfl, hc1.le, small b hb.1 (by omega)⟩
theorem dr_one {n : Nat} {c : l1Cur} (h : okC (n + 2) c) (k : Int) : Dr n (spec_l1Cur_one c k) fun _ => True := by
 unfold spec_l1Cur_one
 exact (dr_pick h k).bind fun a c1 h1 _ => ⟨_, _, rfl, h1, trivial⟩
theorem dr_ix {A : Type} {l : List A} (h : l ≠ []) {x : Int} (h0 : 0 ≤ x) (h1 : x = 0 ∨ x < len l) : ∃ y, ix l x = some y ∧ y ∈ l := by
 have hl : 0 < l.length := List.length_pos_iff.2 h
 rw [len_eq] at h1
 obtain ⟨y, hy, hg⟩ := ix_of (xs := l) h0 (by omega)
 exact ⟨y, hy, List.mem_of_getElem? hg⟩
theorem dr_among {n : Nat} {c : l1Cur} (h : okC (n + 2) c) {l : List Int} (hl : l ≠ []) : Dr n (spec_l1Cur_among c l) fun x => x ∈ l := by
 unfold spec_l1Cur_among
 refine (dr_pick h (len l)).bind fun a c1 h1 hq => ?_
 obtain ⟨y, hy, hm⟩ := dr_ix hl hq.1 hq.2.2
 show Dr n (bd (ix l a) _) _
 rw [hy]
 exact ⟨_, _, rfl, h1, hm⟩
theorem dr_of {n : Nat} {c : l1Cur} (h : okC (n + 2) c) {l : List ByteArray} (hl : l ≠ []) : Dr n (spec_l1Cur_of c l) fun x => x ∈ l := by
 unfold spec_l1Cur_of
 refine (dr_pick h (len l)).bind fun a c1 h1 hq => ?_
 obtain ⟨y, hy, hm⟩ := dr_ix hl hq.1 hq.2.2
 show Dr n (bd (ix l a) _) _
 rw [hy]
 exact ⟨_, _, rfl, h1, hm⟩
theorem iter_near {T X : Type} {body : T → Option (Lp T X)} (m : T → Nat) (I : T → Prop) (P : Rs T X → Prop)
 (h : ∀ s, I s → (∃ s', body s = some (.nx s') ∧ I s' ∧ m s' < m s) ∨ (∃ s', body s = some (.bk s') ∧ P (.go s')) ∨ ∃ x, body s = some (.rt x) ∧ P (.rt x)) : ∀ s, I s → ∃ q, iter body s = some q ∧ P q := by
 have key : ∀ k s, m s < k → I s → ∃ q, iter body s = some q ∧ P q := by
  intro k
  induction k with
  | zero => intro s hk; omega
  | succ k ih =>
   intro s hk hi
   rcases h s hi with ⟨s', hb, hi', hm⟩ | ⟨s', hb, hp⟩ | ⟨x, hb, hp⟩
   · obtain ⟨q, hq, hp⟩ := ih s' (by omega) hi'
     exact ⟨q, (iter_nx hb).trans hq, hp⟩
   · exact ⟨_, iter_bk hb, hp⟩
   · exact ⟨_, iter_rt hb, hp⟩
 intro s hi
 exact key _ s (Nat.lt_succ_self _) hi
theorem dr_loop {T B : Type} {body : T → Option (Lp T Empty)} {s0 : T} {k : T → Option (B × l1Cur)} {lx : Empty → Option (B × l1Cur)} {n : Nat} {R : B → Prop} (m : T → Nat) (I : T → Prop) (J : T → Prop)
 (h0 : I s0) (h : ∀ s, I s → (∃ s', body s = some (.nx s') ∧ I s' ∧ m s' < m s) ∨ (∃ s', body s = some (.bk s') ∧ J s')) (hk : ∀ s, J s → Dr n (k s) R) : Dr n (bdR (iter body s0) k lx) R := by
 obtain ⟨q, hq, hp⟩ := iter_near (body := body) m I (fun q => match q with | .go s => J s | .rt x => x.elim) (fun s hs => by
  rcases h s hs with g | g
  · exact .inl g
  · exact .inr (.inl g)) s0 h0
 rw [hq]
 cases q with
 | go s => exact hk s hp
 | rt x => exact x.elim
theorem loop_ex {T B : Type} {body : T → Option (Lp T Empty)} {s0 : T} {k : T → Option B} {lx : Empty → Option B} {R : B → Prop} (m : T → Nat) (I : T → Prop) (J : T → Prop)
 (h0 : I s0) (h : ∀ s, I s → (∃ s', body s = some (.nx s') ∧ I s' ∧ m s' < m s) ∨ (∃ s', body s = some (.bk s') ∧ J s')) (hk : ∀ s, J s → ∃ r, k s = some r ∧ R r) : ∃ r, bdR (iter body s0) k lx = some r ∧ R r := by
 obtain ⟨q, hq, hp⟩ := iter_near (body := body) m I (fun q => match q with | .go s => J s | .rt x => x.elim) (fun s hs => by
  rcases h s hs with g | g
  · exact .inl g
  · exact .inr (.inl g)) s0 h0
 rw [hq]
 cases q with
 | go s => exact hk s hp
 | rt x => exact x.elim
theorem nx_of {T X : Type} {x : Option (Lp T X)} {P : T → Prop} (h : ∃ r, x = some r ∧ ∃ s', r = .nx s' ∧ P s') : ∃ s', x = some (.nx s') ∧ P s' := by
 obtain ⟨r, e, s', rfl, hp⟩ := h; exact ⟨s', e, hp⟩
end Go.PF
namespace Go.PF
open Go.Pu
theorem join_ok {o a b : ByteArray} (ho : o.size ≤ 10) (ha : a.size ≤ 1000000) (hb : b.size ≤ 1000000) : ∃ t, spec_l22Join o a b = some t ∧ t.size = a.size + b.size + o.size + 2 := by
 have s1 : (ByteArray.mk #[40]).size = 1 := rfl
 have s2 : (ByteArray.mk #[41]).size = 1 := rfl
 unfold spec_l22Join
 rw [catS_ok (by rw [s1]; omega), bd_some, catS_ok (by rw [ByteArray.size_append, s1]; omega), bd_some, catS_ok (by rw [ByteArray.size_append, ByteArray.size_append, s1]; omega), bd_some,
  catS_ok (by rw [ByteArray.size_append, ByteArray.size_append, ByteArray.size_append, s1, s2]; omega), bd_some]
 refine ⟨_, rfl, ?_⟩
 rw [ByteArray.size_append, ByteArray.size_append, ByteArray.size_append, ByteArray.size_append, s1, s2]; omega
def costF : Nat → Nat
 | 0 => 10
 | m + 1 => 2 * costF m + 10
def sizeF : Nat → Nat
 | 0 => 4
 | m + 1 => 2 * sizeF m + 4
theorem size_le : ∀ {m k : Nat}, m ≤ k → sizeF m ≤ sizeF k := by
 intro m k h
 induction h with
 | refl => omega
 | step h ih => rw [sizeF]; omega
theorem cost_pos (m : Nat) : 10 ≤ costF m := by cases m <;> simp [costF]
theorem size_pos (m : Nat) : 4 ≤ sizeF m := by cases m <;> simp [sizeF]
abbrev leafs : List ByteArray := [(ByteArray.mk #[97]), (ByteArray.mk #[98]), (ByteArray.mk #[99]), (ByteArray.mk #[97]), (ByteArray.mk #[98]), (ByteArray.mk #[100]), (ByteArray.mk #[48]), (ByteArray.mk #[49]), (ByteArray.mk #[102]), (ByteArray.mk #[101]), (ByteArray.mk #[99]), (ByteArray.mk #[97])]
theorem leafs_1 : ∀ x ∈ leafs, x.size = 1 := by
 intro x hx
 simp only [leafs, List.mem_cons, List.not_mem_nil, or_false] at hx
 rcases hx with h | h | h | h | h | h | h | h | h | h | h | h <;> rw [h] <;> rfl
abbrev signs : List ByteArray := [(ByteArray.mk #[38]), (ByteArray.mk #[124]), (ByteArray.mk #[62])]
theorem signs_1 : ∀ x ∈ signs, x.size = 1 := by
 intro x hx
 simp only [signs, List.mem_cons, List.not_mem_nil, or_false] at hx
 rcases hx with h | h | h <;> rw [h] <;> rfl
theorem dr_formula22 : ∀ (m fuel n : Nat) (c : l1Cur) (s : Int), m ≤ 12 → m < fuel → s ≤ m → okC (n + costF m) c → Dr n (spec_l1Cur_formula22_F fuel c s) fun t => t.size ≤ sizeF m
  | m, 0, _, _, _, _, hf, _, _ => by omega
  | m, fuel + 1, n, c, s, h12, hf, hs, hc => by
    have hsz := size_pos m
    have hco := cost_pos m
    have hb : sizeF m ≤ 40000 := by have := size_le h12; have e : sizeF 12 = 32764 := by decide
                                    omega
    show Dr n (spec_l1Cur_formula22_B _ _ _) _
    unfold spec_l1Cur_formula22_B
    have leaf : ∀ {c : l1Cur}, okC (n + 2) c → Dr n (bd (PF.spec_l1Cur_of c leafs) (fun r60 => some (r60.1, r60.2))) fun t => t.size ≤ sizeF m := fun hc =>
      (dr_of hc (by simp)).bind fun a c1 h1 ha => ⟨_, _, rfl, h1, by have := leafs_1 a ha; dsimp only; omega⟩
    by_cases h1 : s ≤ 1
    · rw [decide_eq_true h1, cond_true, bd_some]
      exact leaf hc.le
    · rw [decide_eq_false h1, cond_false]
      obtain ⟨k, rfl⟩ : ∃ k, m = k + 1 := ⟨m - 1, by omega⟩
      rw [costF] at hc
      obtain ⟨b1, c1, e1, hc1, _⟩ := dr_one (n := n + (2 * costF k + 8)) (hc.le (by omega)) 6
      rw [e1, bd_some, bd_some]
      cases b1 with
      | true => exact leaf hc1.le
      | false =>
        dsimp only
        rw [cond_false]
        have hw : ∀ x : Int, 1 ≤ x → x ≤ s - 1 → wr x = x := fun x _ _ => wr_of _ (by omega) (by omega)
        refine (dr_one (n := n + (2 * costF k + 6)) (hc1.le (by omega)) 4).bind fun b2 c2 hc2 _ => ?_
        have kco := cost_pos k
        rw [sizeF] at hb ⊢
        cases b2 with
        | true =>
          dsimp only
          rw [cond_true, hw (s - 1) (by omega) (by omega)]
          refine (dr_formula22 k fuel n c2 (s - 1) (by omega) (by omega) (by omega) (hc2.le (by omega))).bind fun t c3 hc3 ht => ?_
          dsimp only
          rw [catS_ok (by show 1 + _ ≤ _; omega), bd_some]
          refine ⟨_, _, rfl, hc3, ?_⟩
          dsimp only
          rw [ByteArray.size_append]; show 1 + _ ≤ _; omega
        | false =>
          dsimp only
          rw [cond_false, hw (s - 1) (by omega) (by omega)]
          refine (dr_pick (n := n + (2 * costF k + 4)) (hc2.le (by omega)) (s - 1)).bind fun x c3 hc3 hx => ?_
          dsimp only
          refine (dr_of (n := n + (2 * costF k + 2)) (hc3.le (by omega)) (by simp)).bind fun o c4 hc4 ho => ?_
          have ho1 := signs_1 o ho
          dsimp only
          have x1 : 1 + x ≤ s - 1 := by rcases hx.2.2 with h | h <;> omega
          rw [hw (1 + x) (by omega) x1, hw (s - (1 + x)) (by omega) (by omega)]
          refine (dr_formula22 k fuel (n + costF k) c4 (1 + x) (by omega) (by omega) (by omega) (hc4.le (by omega))).bind fun a c5 hc5 ha => ?_
          dsimp only
          refine (dr_formula22 k fuel n c5 (s - (1 + x)) (by omega) (by omega) (by omega) hc5).bind fun b c6 hc6 hb' => ?_
          dsimp only
          obtain ⟨t, t1, t2⟩ := join_ok (o := o) (a := a) (b := b) (by omega) (by omega) (by omega)
          rw [t1, bd_some]
          exact ⟨_, _, rfl, hc6, by dsimp only; omega⟩
theorem dr_formula {n : Nat} {c : l1Cur} (h : okC (n + 6000) c) : Dr n (spec_l1Cur_formula c) fun t => t.size ≤ 40000 := by
 unfold spec_l1Cur_formula
 refine (dr_among (n := n + 5998) (h.le (by omega)) (by simp)).bind fun x c1 h1 hx => ?_
 dsimp only
 have hx8 : x ≤ (8 : Nat) := by
  simp only [List.mem_cons, List.not_mem_nil, or_false] at hx
  omega
 have e8 : costF 8 = 5110 := by decide
 have s8 : sizeF 8 = 2044 := by decide
 refine (dr_formula22 8 deep n c1 x (by omega) (by rw [deep_eq]; omega) hx8 (h1.le (by omega))).bind fun t c2 h2 ht => ?_
 dsimp only
 rw [spec_l22Good_eq, bd_some]
 cases goodB t
 · exact ⟨_, _, rfl, h2, by decide⟩
 · exact ⟨_, _, rfl, h2, by dsimp only; omega⟩
theorem cutT_ok {s : ByteArray} {a b : Int} (h0 : 0 ≤ a) (h1 : a ≤ b) (h2 : b ≤ s.size) : ∃ t, cutS s a b = some t ∧ (t.size : Int) = b - a := by
 obtain ⟨x, rfl⟩ := Int.eq_ofNat_of_zero_le h0
 obtain ⟨y, rfl⟩ := Int.eq_ofNat_of_zero_le (show 0 ≤ b by omega)
 refine ⟨_, cutS_ok (by omega) (by omega), ?_⟩
 rw [tx_size, List.length_drop, List.length_take, bs_len]; omega
theorem dr_spoilt {n : Nat} {c : l1Cur} {s u : ByteArray} (h : okC (n + 10) c) (hs : s.size ≤ 1000000) (hu : 1 ≤ u.size) (hu2 : u.size ≤ 1000) : Dr n (spec_l1Cur_spoilt c s u) fun t => t.size ≤ s.size + 1 := by
 unfold spec_l1Cur_spoilt
 rw [eqS]
 by_cases h0 : s = ByteArray.mk #[]
 · rw [decide_eq_true h0, cond_true]
   obtain ⟨t, t1, t2⟩ := cutT_ok (s := u) (a := 0) (b := 1) (by omega) (by omega) (by omega)
   rw [t1, bd_some]
   exact ⟨_, _, rfl, h.le, by dsimp only; omega⟩
 · rw [decide_eq_false h0, cond_false]
   have hp : 0 < s.size := by
    rcases Nat.eq_zero_or_pos s.size with e | e
    · exact absurd (bs_ext (by rw [List.eq_nil_of_length_eq_zero (show (bs s).length = 0 by rw [bs_len]; exact e)]; rfl)) h0
    · exact e
   refine (dr_pick (n := n + 8) (h.le (by omega)) (s.size : Int)).bind fun x c1 h1 hx => ?_
   dsimp only
   refine (dr_pick (n := n + 6) (h1.le (by omega)) (u.size : Int)).bind fun y c2 h2 hy => ?_
   dsimp only
   have x1 : x < s.size := by rcases hx.2.2 with e | e <;> omega
   have y1 : y < u.size := by rcases hy.2.2 with e | e <;> omega
   obtain ⟨p, p1, p2⟩ := cutT_ok (s := u) (a := y) (b := u.size) hy.1 (by omega) (by omega)
   rw [p1, bd_some]
   obtain ⟨q, q1, q2⟩ := cutT_ok (s := p) (a := 0) (b := 1) (by omega) (by omega) (by omega)
   rw [q1, bd_some]
   refine (dr_pick (n := n) (h2.le (by omega)) 3).bind fun z c3 h3 hz => ?_
   dsimp only
   obtain ⟨a, a1, a2⟩ := cutT_ok (s := s) (a := 0) (b := x) (by omega) hx.1 (by omega)
   obtain ⟨b, b1, b2⟩ := cutT_ok (s := s) (a := x) (b := s.size) hx.1 (by omega) (by omega)
   obtain ⟨d, d1, d2⟩ := cutT_ok (s := s) (a := x + 1) (b := s.size) (by omega) (by omega) (by omega)
   have hw : wr (x + 1) = x + 1 := wr_of _ (by omega) (by omega)
   rw [hw, a1, b1, d1]
   simp only [bd_some]
   cases z == 0 with
   | true =>
    rw [cond_true, catS_ok (by omega), bd_some, catS_ok (by rw [ByteArray.size_append]; omega), bd_some]
    exact ⟨_, _, rfl, h3, by dsimp only; rw [ByteArray.size_append, ByteArray.size_append]; omega⟩
   | false =>
    rw [cond_false]
    cases z == 1 with
    | true =>
     rw [cond_true, catS_ok (by omega), bd_some, catS_ok (by rw [ByteArray.size_append]; omega), bd_some]
     exact ⟨_, _, rfl, h3, by dsimp only; rw [ByteArray.size_append, ByteArray.size_append]; omega⟩
    | false =>
     rw [cond_false, catS_ok (by omega), bd_some]
     exact ⟨_, _, rfl, h3, by dsimp only; rw [ByteArray.size_append]; omega⟩
theorem dr_formulaText {n : Nat} {c : l1Cur} (h : okC (n + 6100) c) : Dr n (spec_l1Cur_formulaText c) fun t => t.size ≤ 100000 := by
 unfold spec_l1Cur_formulaText
 refine (dr_formula (n := n + 100) (h.le (by omega))).bind fun t c1 h1 ht => ?_
 dsimp only
 refine (dr_pick (n := n + 98) (h1.le (by omega)) 16).bind fun x c2 h2 hx => ?_
 dsimp only
 cases x == 0 with
 | true =>
  rw [cond_true]
  refine (dr_spoilt (n := n) (h2.le (by omega)) (by omega) (by decide) (by decide)).bind fun y c3 h3 hy => ⟨_, _, rfl, h3, by dsimp only; omega⟩
 | false =>
  rw [cond_false]
  cases x == 1 with
  | true =>
   rw [cond_true]
   refine (dr_pick (n := n) (h2.le (by omega)) 4).bind fun y c3 h3 hy => ?_
   dsimp only
   have y4 : y < 4 := by rcases hy.2.2 with e | e <;> omega
   have hw : wr (78 + y) = 78 + y := wr_of _ (by omega) (by omega)
   rw [hw]
   refine dr_loop (fun s => 100000 - s.size) (fun s => s.size ≤ 50000) (fun s => s.size ≤ 50000) (by omega) (fun s hs => ?_) (fun s hs => ⟨_, _, rfl, h3, by dsimp only; omega⟩)
   by_cases g : (s.size : Int) < 78 + y
   · rw [decide_eq_true g, cond_true, catS_ok (by show 1 + _ ≤ _; omega), bd_some]
     refine .inl ⟨_, rfl, ?_, ?_⟩
     · rw [ByteArray.size_append]; show 1 + _ ≤ _; omega
     · rw [ByteArray.size_append]; show 100000 - (1 + _) < _; omega
   · rw [decide_eq_false g, cond_false]
     exact .inr ⟨_, rfl, hs⟩
  | false =>
   rw [cond_false]
   cases x == 2 with
   | true =>
    rw [cond_true]
    refine (dr_of (n := n) (h2.le (by omega)) (by simp)).bind fun y c3 h3 hy => ⟨_, _, rfl, h3, ?_⟩
    dsimp only
    simp only [List.mem_cons, List.not_mem_nil, or_false] at hy
    rcases hy with e | e | e | e | e | e | e <;> rw [e] <;> decide
   | false => exact ⟨_, _, rfl, h2.le, by dsimp only; omega⟩
end Go.PF
namespace Go.PF
open Go.Pu
def Ft.opI : Ft → Int
 | .leaf c => c.toNat
 | .neg _ => 126
 | .bin op _ _ => op.toNat
def Ft.tA : Ft → ByteArray
 | .leaf _ => tx []
 | .neg a => tx a.txt
 | .bin _ a _ => tx a.txt
def Ft.tB : Ft → ByteArray
 | .leaf _ => tx []
 | .neg _ => tx []
 | .bin _ _ b => tx b.txt
theorem ft_of {s : ByteArray} {t : Ft} (h : F? (bs s) = some t) : s = tx t.txt ∧ t.wf = true := by
 have := F?_some.1 h
 exact ⟨by rw [← this.1, tx_bs], this.2⟩
theorem F?_tx {t : Ft} (h : t.wf = true) : F? (bs (tx t.txt)) = some t := by rw [bs_tx]; exact F?_some.2 ⟨rfl, h⟩
theorem spec_l22Parts_eq {s : ByteArray} {t : Ft} (h : F? (bs s) = some t) (hs : s.size ≤ 1000) : spec_l22Parts s = some (t.opI, t.tA, t.tB) := by
 obtain ⟨e, hw⟩ := ft_of h
 unfold spec_l22Parts
 have hb : bs s = t.txt := by rw [e, bs_tx]
 have hz := bs_len s
 rw [hb] at hz
 cases t with
 | leaf c =>
  have hi : ixS s 0 = some (c.toNat : Int) := ixS_at (k := 0) (by rw [hb]; rfl)
  have hl := isLf_not (show isLf c = true from hw)
  simp only [hi, bd_some, c126, c40]
  rw [beq_eq_false_iff_ne.2 hl.1, cond_false, beq_eq_false_iff_ne.2 hl.2]; rfl
 | neg a =>
  have hi : ixS s 0 = some (((126 : UInt8).toNat : Nat) : Int) := ixS_at (k := 0) (by rw [hb]; rfl)
  simp only [hi, bd_some, c126, c40, beq_self_eq_true, cond_true]
  simp only [Ft.txt, List.length_cons] at hz
  have := cutS_ok (s := s) (a := 1) (b := s.size) (by omega) (by omega)
  rw [show ((1 : Nat) : Int) = 1 from rfl] at this
  rw [this, bd_some, hb, ← hz]
  simp [Ft.opI, Ft.tA, Ft.tB, Ft.txt, tx]
 | bin op a b =>
  have hi : ixS s 0 = some (((40 : UInt8).toNat : Nat) : Int) := ixS_at (k := 0) (by rw [hb]; rfl)
  simp only [Ft.wf, Bool.and_eq_true] at hw
  simp only [Ft.txt, List.length_cons, List.length_append, List.length_nil] at hz
  simp only [hi, bd_some, c126, c40, beq_self_eq_true, Bool.not_true, cond_false]
  rw [show ((40 : UInt8) == 126) = false from rfl, cond_false]
  have he : endV s 1 = ((1 + a.txt.length : Nat) : Int) := by
   unfold endV
   rw [hb]
   have : P (List.drop 1 (Ft.bin op a b).txt) = some (a, op :: (b.txt ++ [41])) := P_some.2 ⟨by simp [Ft.txt], hw.1.2⟩
   rw [this]
  have h1 := spec_l22End_eq hs 1
  rw [show ((1 : Nat) : Int) = 1 from rfl] at h1
  rw [h1, bd_some, he]
  have ho : ixS s ((1 + a.txt.length : Nat) : Int) = some (op.toNat : Int) := ixS_at (by
   rw [hb]; simp only [Ft.txt]
   rw [show 1 + a.txt.length = a.txt.length + 1 by omega, List.getElem?_cons_succ, List.getElem?_append_right (by omega)]; simp)
  have c1 := cutS_ok (s := s) (a := 1) (b := 1 + a.txt.length) (by omega) (by omega)
  rw [show ((1 : Nat) : Int) = 1 from rfl] at c1
  have c2 := cutS_ok (s := s) (a := 1 + a.txt.length + 1) (b := s.size - 1) (by omega) (by omega)
  rw [ho, bd_some, c1, bd_some, wr_k (by omega), show wr ((s.size : Int) - 1) = ((s.size - 1 : Nat) : Int) by rw [wr_of _ (by omega) (by omega)]; omega, c2, bd_some, hb]
  have e1 : ((Ft.bin op a b).txt.take (1 + a.txt.length)).drop 1 = a.txt := by
   simp only [Ft.txt]
   rw [show 1 + a.txt.length = a.txt.length + 1 by omega, List.take_succ_cons]
   simp
  have e2 : ((Ft.bin op a b).txt.take (s.size - 1)).drop (1 + a.txt.length + 1) = b.txt := by
   simp only [Ft.txt]
   rw [show s.size - 1 = (a.txt.length + (1 + b.txt.length)) + 1 by omega, List.take_succ_cons, show 1 + a.txt.length + 1 = (a.txt.length + 1) + 1 by omega, List.drop_succ_cons, List.take_length_add_append,
    show a.txt.length + 1 = a.txt.length + 1 from rfl, List.drop_length_add_append]
   rw [show 1 + b.txt.length = b.txt.length + 1 by omega, List.take_succ_cons]
   simp
  rw [e1, e2]; rfl
def subF (a b c : Ft) : Ft → Ft
 | .leaf h => if h = 97 then a else if h = 98 then b else if h = 99 then c else .leaf h
 | .neg t => .neg (subF a b c t)
 | .bin o s t => .bin o (subF a b c s) (subF a b c t)
def letB : Ft → Bool
 | .leaf h => h == 97 || h == 98 || h == 99 || h == 48 || h == 49
 | .neg t => letB t
 | .bin _ s t => letB s && letB t
def subL (a b c : Ft) (h : UInt8) : List UInt8 := if h = 97 then a.txt else if h = 98 then b.txt else if h = 99 then c.txt else [h]
theorem sub_txt {a b c : Ft} : ∀ {t : Ft}, t.wf = true → (subF a b c t).txt = t.txt.flatMap (subL a b c)
 | .leaf h, _ => by
  unfold subF
  simp only [Ft.txt, List.flatMap_cons, List.flatMap_nil, List.append_nil]
  unfold subL
  split
  · rfl
  split
  · rfl
  split <;> rfl
 | .neg t, hw => by
  have ih := sub_txt (a := a) (b := b) (c := c) (t := t) hw
  simp only [subF, Ft.txt, List.flatMap_cons, ih]
  rfl
 | .bin o s t, hw => by
  simp only [Ft.wf, Bool.and_eq_true] at hw
  have i1 := sub_txt (a := a) (b := b) (c := c) (t := s) hw.1.2
  have i2 := sub_txt (a := a) (b := b) (c := c) (t := t) hw.2
  have ho : subL a b c o = [o] := by
   have := hw.1.1
   unfold isOp at this
   simp only [Bool.or_eq_true, beq_iff_eq] at this
   rcases this with (rfl | rfl) | rfl <;> rfl
  simp only [subF, Ft.txt, List.flatMap_cons, List.flatMap_append, List.flatMap_nil, i1, i2, ho, List.append_nil]
  rfl
theorem fo_isNil (t : Ft) : t.fo.isNil = false := by cases t <;> rfl
theorem put_eq {a b c : Ft} : ∀ {t : Ft} {n : Nat}, t.wf = true → letB t = true → t.dep ≤ n → (subF a b c t).txt.length ≤ 1000000 → impl_formula_put_F n t.fo (a.fo, b.fo, c.fo) = some (subF a b c t).fo
 | t, 0, _, _, hn, _ => by have := t.dep_pos; omega
 | .leaf h, n + 1, _, hl, _, _ => by
  show impl_formula_put_B _ _ _ = _
  unfold impl_formula_put_B
  simp only [letB, Bool.or_eq_true, beq_iff_eq] at hl
  rcases hl with (((rfl | rfl) | rfl) | rfl) | rfl <;> rfl
 | .neg t, n + 1, hw, hl, hn, hs => by
  show impl_formula_put_B _ _ _ = _
  unfold impl_formula_put_B
  simp only [subF, Ft.txt, List.length_cons] at hs
  simp only [Ft.dep] at hn
  show bd (some _) _ = _
  rw [bd_some]
  show (bif PF.impl_isLetter 126 then _ else bif t.fo.isNil then _ else bif Fo.nil.isNil then _ else _) = _
  rw [show PF.impl_isLetter 126 = false from rfl, cond_false, fo_isNil, cond_false, show Fo.nil.isNil = true from rfl, cond_true]
  show bd (impl_formula_put_F n t.fo (a.fo, b.fo, c.fo)) _ = _
  rw [put_eq (t := t) hw hl (by omega) (by omega), bd_some, impl_not_eq (by omega), bd_some]
  rfl
 | .bin o s t, n + 1, hw, hl, hn, hs => by
  show impl_formula_put_B _ _ _ = _
  unfold impl_formula_put_B
  simp only [Ft.dep] at hn
  simp only [letB, Bool.and_eq_true] at hl
  simp only [Ft.wf, Bool.and_eq_true] at hw
  have hs' := hs
  simp only [subF, Ft.txt, List.length_cons, List.length_append, List.length_nil] at hs'
  show bd (some _) _ = _
  rw [bd_some]
  show (bif PF.impl_isLetter (o.toNat : Int) then _ else bif s.fo.isNil then _ else bif t.fo.isNil then _ else _) = _
  have ho : PF.impl_isLetter (o.toNat : Int) = false := by
   have := hw.1.1
   unfold isOp at this
   simp only [Bool.or_eq_true, beq_iff_eq] at this
   rcases this with (rfl | rfl) | rfl <;> rfl
  rw [ho, cond_false, fo_isNil, cond_false, fo_isNil, cond_false]
  show bd (impl_formula_put_F n s.fo (a.fo, b.fo, c.fo)) (fun r => bd (impl_formula_put_F n t.fo (a.fo, b.fo, c.fo)) (fun q => bd (PF.impl_join (o.toNat : Int) r q) _)) = _
  rw [put_eq hw.1.2 hl.1 (by omega) (by omega), bd_some, put_eq hw.2 hl.2 (by omega) (by omega), bd_some, impl_join_eq hw.1.1 hs, bd_some]
  rfl
def sch : List Ft :=
 let A := Ft.leaf 97; let B := Ft.leaf 98; let C := Ft.leaf 99
 let I := Ft.bin 62; let K := Ft.bin 38; let O := Ft.bin 124
 [I A (I B A), I (I A (I B C)) (I (I A B) (I A C)), I (I (.neg A) (.neg B)) (I B A), I (K A B) A, I (K A B) B, I A (I B (K A B)), I A (O A B), I B (O A B), I (I A C) (I (I B C) (I (O A B) C)), .leaf 49]
theorem glob_sch : glob0 = sch.map fun t => tx t.txt := rfl
theorem spec_sch : spec_l24Schemes = glob0 := rfl
theorem sch_ok : (sch.all fun t => t.wf && letB t && decide (t.txt.length ≤ 25)) = true := by decide
theorem sch_at {k : Int} (h1 : 1 ≤ k) (h2 : k ≤ 10) : ∃ t, ix glob0 (wr (k - 1)) = some (tx t.txt) ∧ t.wf = true ∧ letB t = true ∧ t.txt.length ≤ 25 := by
 rw [wr_of _ (by omega) (by omega)]
 have hl : sch.length = 10 := rfl
 have hk : (k - 1).toNat < sch.length := by omega
 have hm := List.all_eq_true.1 sch_ok (sch[(k - 1).toNat]) (List.getElem_mem hk)
 rw [Bool.and_eq_true, Bool.and_eq_true, decide_eq_true_iff] at hm
 refine ⟨sch[(k - 1).toNat], ?_, hm.1.1, hm.1.2, hm.2⟩
 rw [glob_sch, ix, if_pos (by omega), List.getElem?_map, List.getElem?_eq_getElem hk]
 rfl
theorem case_loop {a b c : Ft} (ha : a.txt.length ≤ 1000) (hb : b.txt.length ≤ 1000) (hc : c.txt.length ≤ 1000) (s : ByteArray) (hs : s.size ≤ 1000) :
 ∀ (n k : Nat) (o : List UInt8), k + n = s.size → o.length ≤ 1000 * k →
  forFrom (X := Empty) (fun i38 s38 => bd (ixS s ((i38 : Nat) : Int)) (fun z76 => (bif (z76 == 97) then bd (catS s38 (tx a.txt)) (fun z79 => some (Lp.nx z79)) else (bif (z76 == 98) then bd (catS s38 (tx b.txt)) (fun z82 => some (Lp.nx z82)) else (bif (z76 == 99) then bd (catS s38 (tx c.txt)) (fun z85 => some (Lp.nx z85)) else bd (cutS s ((i38 : Nat) : Int) (wr (((i38 : Nat) : Int) + 1))) (fun z87 => bd (catS s38 z87) (fun z89 => some (Lp.nx z89)))))))) n k (tx o)
   = some (.go (tx (o ++ ((bs s).drop k).flatMap (subL a b c)))) := by
 intro n
 induction n with
 | zero =>
  intro k o hk _
  rw [List.drop_eq_nil_of_le (by rw [bs_len]; omega)]
  simp [forFrom]
 | succ n ih =>
  intro k o hk ho
  have hlt : k < (bs s).length := by rw [bs_len]; omega
  have hd : (bs s).drop k = (bs s)[k] :: (bs s).drop (k + 1) := List.drop_eq_getElem_cons hlt
  have hat : (bs s)[k]? = some (bs s)[k] := List.getElem?_eq_getElem hlt
  generalize (bs s)[k] = h at hd hat
  have step : ∀ l : List UInt8, l.length ≤ 1000 → catS (tx o) (tx l) = some (tx (o ++ l)) := fun l hl => by
   rw [catS_ok (by rw [tx_size, tx_size]; omega), ← tx_app]
  have fin : ∀ l : List UInt8, l.length ≤ 1000 → subL a b c h = l → forFrom (X := Empty) (fun i38 s38 => bd (ixS s ((i38 : Nat) : Int)) (fun z76 => (bif (z76 == 97) then bd (catS s38 (tx a.txt)) (fun z79 => some (Lp.nx z79)) else (bif (z76 == 98) then bd (catS s38 (tx b.txt)) (fun z82 => some (Lp.nx z82)) else (bif (z76 == 99) then bd (catS s38 (tx c.txt)) (fun z85 => some (Lp.nx z85)) else bd (cutS s ((i38 : Nat) : Int) (wr (((i38 : Nat) : Int) + 1))) (fun z87 => bd (catS s38 z87) (fun z89 => some (Lp.nx z89)))))))) n (k + 1) (tx (o ++ l)) = some (.go (tx (o ++ ((bs s).drop k).flatMap (subL a b c)))) := fun l hl e => by
   rw [ih (k + 1) (o ++ l) (by omega) (by rw [List.length_append]; omega), hd, List.flatMap_cons, e, List.append_assoc]
  have e97 : ((h.toNat : Int) == 97) = (h == 97) := u8i (d := 97)
  have e98 : ((h.toNat : Int) == 98) = (h == 98) := u8i (d := 98)
  have e99 : ((h.toNat : Int) == 99) = (h == 99) := u8i (d := 99)
  rw [forFrom]
  rw [ixS_at hat, bd_some, e97, e98, e99]
  by_cases c1 : h = 97
  · rw [bifT (beq_iff_eq.2 c1), step _ ha, bd_some]
    exact fin _ ha (by unfold subL; rw [if_pos c1])
  rw [bifF (beq_eq_false_iff_ne.2 c1)]
  by_cases c2 : h = 98
  · rw [bifT (beq_iff_eq.2 c2), step _ hb, bd_some]
    exact fin _ hb (by unfold subL; rw [if_neg c1, if_pos c2])
  rw [bifF (beq_eq_false_iff_ne.2 c2)]
  by_cases c3 : h = 99
  · rw [bifT (beq_iff_eq.2 c3), step _ hc, bd_some]
    exact fin _ hc (by unfold subL; rw [if_neg c1, if_neg c2, if_pos c3])
  rw [bifF (beq_eq_false_iff_ne.2 c3), wr_k (by omega), cutS_ok (by omega) (by omega), bd_some]
  have e1 : ((bs s).take (k + 1)).drop k = [h] := by
   rw [List.drop_take, hd]; simp
  rw [e1, step _ (by simp), bd_some]
  exact fin _ (by simp) (by unfold subL; rw [if_neg c1, if_neg c2, if_neg c3])
theorem spec_case {k : Int} {t a b c : Ft} (ht : ix glob0 (wr (k - 1)) = some (tx t.txt)) (hw : t.wf = true) (h25 : t.txt.length ≤ 25) (ha : a.txt.length ≤ 1000) (hb : b.txt.length ≤ 1000) (hc : c.txt.length ≤ 1000) :
 spec_l24Case k (tx a.txt) (tx b.txt) (tx c.txt) = some (tx (subF a b c t).txt) := by
 unfold spec_l24Case
 rw [spec_sch, ht, bd_some]
 have hz : (tx t.txt).size = t.txt.length := tx_size _
 rw [show chk ((tx t.txt).size : Int) = some (tx t.txt).size by unfold chk; rw [if_pos (by omega)]; rfl, bd_some]
 unfold forR
 have := case_loop ha hb hc (tx t.txt) (by omega) ((tx t.txt).size - 0) 0 [] (by omega) (by simp)
 rw [emp_tx, this, bdR_go, List.drop_zero, bs_tx, List.nil_append, ← sub_txt hw]
def letN : Ft → Bool
 | .leaf h => h == 97 || h == 98 || h == 48 || h == 49
 | .neg t => letN t
 | .bin _ s t => letN s && letN t
theorem putN_eq {a b c : Ft} {z : Fo} : ∀ {t : Ft} {n : Nat}, t.wf = true → letN t = true → t.dep ≤ n → (subF a b c t).txt.length ≤ 1000000 → impl_formula_put_F n t.fo (a.fo, b.fo, z) = some (subF a b c t).fo
 | t, 0, _, _, hn, _ => by have := t.dep_pos; omega
 | .leaf h, n + 1, _, hl, _, _ => by
  show impl_formula_put_B _ _ _ = _
  unfold impl_formula_put_B
  simp only [letN, Bool.or_eq_true, beq_iff_eq] at hl
  rcases hl with ((rfl | rfl) | rfl) | rfl <;> rfl
 | .neg t, n + 1, hw, hl, hn, hs => by
  show impl_formula_put_B _ _ _ = _
  unfold impl_formula_put_B
  simp only [subF, Ft.txt, List.length_cons] at hs
  simp only [Ft.dep] at hn
  show bd (some _) _ = _
  rw [bd_some]
  show (bif PF.impl_isLetter 126 then _ else bif t.fo.isNil then _ else bif Fo.nil.isNil then _ else _) = _
  rw [show PF.impl_isLetter 126 = false from rfl, cond_false, fo_isNil, cond_false, show Fo.nil.isNil = true from rfl, cond_true]
  show bd (impl_formula_put_F n t.fo (a.fo, b.fo, z)) _ = _
  rw [putN_eq (c := c) (t := t) hw hl (by omega) (by omega), bd_some, impl_not_eq (by omega), bd_some]
  rfl
 | .bin o s t, n + 1, hw, hl, hn, hs => by
  show impl_formula_put_B _ _ _ = _
  unfold impl_formula_put_B
  simp only [Ft.dep] at hn
  simp only [letN, Bool.and_eq_true] at hl
  simp only [Ft.wf, Bool.and_eq_true] at hw
  have hs' := hs
  simp only [subF, Ft.txt, List.length_cons, List.length_append, List.length_nil] at hs'
  show bd (some _) _ = _
  rw [bd_some]
  show (bif PF.impl_isLetter (o.toNat : Int) then _ else bif s.fo.isNil then _ else bif t.fo.isNil then _ else _) = _
  have ho : PF.impl_isLetter (o.toNat : Int) = false := by
   have := hw.1.1
   unfold isOp at this
   simp only [Bool.or_eq_true, beq_iff_eq] at this
   rcases this with (rfl | rfl) | rfl <;> rfl
  rw [ho, cond_false, fo_isNil, cond_false, fo_isNil, cond_false]
  show bd (impl_formula_put_F n s.fo (a.fo, b.fo, z)) (fun r => bd (impl_formula_put_F n t.fo (a.fo, b.fo, z)) (fun q => bd (PF.impl_join (o.toNat : Int) r q) _)) = _
  rw [putN_eq (c := c) hw.1.2 hl.1 (by omega) (by omega), bd_some, putN_eq (c := c) hw.2 hl.2 (by omega) (by omega), bd_some, impl_join_eq hw.1.1 hs, bd_some]
  rfl
def im (a b : Ft) : Ft := .bin 62 a b
theorem im_wf {a b : Ft} (ha : a.wf = true) (hb : b.wf = true) : (im a b).wf = true := by
 show (isOp 62 && a.wf && b.wf) = true
 rw [ha, hb]; rfl
theorem im_len (a b : Ft) : (im a b).txt.length = a.txt.length + b.txt.length + 3 := by
 simp only [im, Ft.txt, List.length_cons, List.length_append, List.length_nil]; omega
def cs1 (a b : Ft) : Ft := im a (im b a)
def cs2 (a b c : Ft) : Ft := im (im a (im b c)) (im (im a b) (im a c))
def sc1 : Ft := im (.leaf 97) (im (.leaf 98) (.leaf 97))
def sc2 : Ft := im (im (.leaf 97) (im (.leaf 98) (.leaf 99))) (im (im (.leaf 97) (.leaf 98)) (im (.leaf 97) (.leaf 99)))
theorem sub_sc1 (a b c : Ft) : subF a b c sc1 = cs1 a b := rfl
theorem sub_sc2 (a b c : Ft) : subF a b c sc2 = cs2 a b c := rfl
theorem impl_case1 {a b : Ft} {z : Fo} (ha : a.txt.length ≤ 1000) (hb : b.txt.length ≤ 1000) : impl_caseOf 1 a.fo b.fo z = some (cs1 a b).fo := by
 unfold impl_caseOf
 rw [show ix glob0 (wr (1 - 1)) = some (tx sc1.txt) from rfl, bd_some, impl_parse_good (F?_tx (t := sc1) rfl) (by rw [tx_size]; decide), bd_some]
 unfold impl_formula_put
 rw [putN_eq (c := a) (t := sc1) rfl rfl (by have := sc1.dep_le; rw [deep_eq]; have e : sc1.txt.length = 9 := rfl; omega) (by
  rw [sub_sc1]; unfold cs1; rw [im_len, im_len]; omega), bd_some, sub_sc1]
theorem impl_case2 {a b c : Ft} (ha : a.txt.length ≤ 1000) (hb : b.txt.length ≤ 1000) (hc : c.txt.length ≤ 1000) : impl_caseOf 2 a.fo b.fo c.fo = some (cs2 a b c).fo := by
 unfold impl_caseOf
 rw [show ix glob0 (wr (2 - 1)) = some (tx sc2.txt) from rfl, bd_some, impl_parse_good (F?_tx (t := sc2) rfl) (by rw [tx_size]; decide), bd_some]
 unfold impl_formula_put
 rw [put_eq (t := sc2) rfl rfl (by have := sc2.dep_le; rw [deep_eq]; have e : sc2.txt.length = 25 := rfl; omega) (by
  rw [sub_sc2]; unfold cs2; simp only [im_len]; omega), bd_some, sub_sc2]
end Go.PF
namespace Go.PF
open Go.Pu
structure E3 where
 x : Option Ft
 y : Option Ft
 z : Option Ft
def E3.get (e : E3) (h : UInt8) : Option Ft := if h = 97 then e.x else if h = 98 then e.y else e.z
def E3.set (e : E3) (h : UInt8) (t : Ft) : E3 := if h = 97 then ⟨some t, e.y, e.z⟩ else if h = 98 then ⟨e.x, some t, e.z⟩ else ⟨e.x, e.y, some t⟩
def oS : Option Ft → ByteArray
 | none => tx []
 | some t => tx t.txt
def oF : Option Ft → Fo
 | none => .nil
 | some t => t.fo
def E3.ss (e : E3) : List ByteArray := [oS e.x, oS e.y, oS e.z]
def E3.fs (e : E3) : Fo × Fo × Fo := (oF e.x, oF e.y, oF e.z)
def oW : Option Ft → Prop
 | none => True
 | some t => t.wf = true
structure E3.ok (e : E3) : Prop where
 x : oW e.x
 y : oW e.y
 z : oW e.z
def isV (h : UInt8) : Bool := h == 97 || h == 98 || h == 99
theorem isV_of {h : UInt8} (hv : isV h = true) : h = 97 ∨ h = 98 ∨ h = 99 := by
 unfold isV at hv
 simp only [Bool.or_eq_true, beq_iff_eq] at hv
 rcases hv with (h | h) | h
 · exact .inl h
 · exact .inr (.inl h)
 · exact .inr (.inr h)
theorem E3.ok.set {e : E3} (h : e.ok) {c : UInt8} {t : Ft} (ht : t.wf = true) : (e.set c t).ok := by
 unfold E3.set
 split
 · exact ⟨ht, h.y, h.z⟩
 split
 · exact ⟨h.x, ht, h.z⟩
 · exact ⟨h.x, h.y, ht⟩
theorem E3.ok.get {e : E3} (h : e.ok) (c : UInt8) : oW (e.get c) := by
 unfold E3.get
 split
 · exact h.x
 split
 · exact h.y
 · exact h.z
def mt : Ft → Ft → E3 → E3 × Bool
 | .leaf h, s, e => if isV h = true then (match e.get h with
  | none => (e.set h s, true)
  | some u => (e, decide (u = s))) else (e, decide (s = .leaf h))
 | .neg a, s, e => match s with
  | .neg b => mt a b e
  | _ => (e, false)
 | .bin o a b, s, e => match s with
  | .bin p c d => if o = p then (bif (mt a c e).2 then mt b d (mt a c e).1 else ((mt a c e).1, false)) else (e, false)
  | _ => (e, false)
theorem mt_ok : ∀ {t s : Ft} {e : E3}, s.wf = true → e.ok → (mt t s e).1.ok
 | .leaf h, s, e, hs, he => by
  unfold mt
  split
  · split
    · exact he.set hs
    · exact he
  · exact he
 | .neg a, s, e, hs, he => by
  cases s with
  | neg b => exact mt_ok (t := a) (s := b) hs he
  | leaf c => exact he
  | bin p c d => exact he
 | .bin o a b, s, e, hs, he => by
  cases s with
  | neg b => exact he
  | leaf c => exact he
  | bin p c d =>
   simp only [Ft.wf, Bool.and_eq_true] at hs
   have h1 := mt_ok (t := a) (s := c) hs.1.2 he
   unfold mt
   dsimp only
   split
   · cases (mt a c e).2 with
     | true => exact mt_ok (t := b) (s := d) hs.2 h1
     | false => exact h1
   · exact he
theorem tx_eq {s t : Ft} (hs : s.wf = true) (ht : t.wf = true) : (tx s.txt = tx t.txt) ↔ s = t := by
 constructor
 · intro h
   have := tx_inj h
   exact (txt_inj (r := []) (q := []) hs ht (by rw [this])).1
 · rintro rfl; rfl
theorem isOp_not {o : UInt8} (h : isOp o = true) : o ≠ 126 ∧ o ≠ 48 ∧ o ≠ 49 ∧ isLf o = false := by
 unfold isOp at h
 simp only [Bool.or_eq_true, beq_iff_eq] at h
 rcases h with (rfl | rfl) | rfl <;> decide
theorem op_leaf {s : Ft} {h : UInt8} (hs : s.wf = true) (hh : isLf h = true) : (((h.toNat : Nat) : Int) == s.opI) = decide (s = .leaf h) := by
 cases s with
 | leaf c =>
  show (((h.toNat : Nat) : Int) == (c.toNat : Int)) = _
  rw [u8i]
  by_cases e : h = c
  · subst e; simp
  · rw [beq_eq_false_iff_ne.2 e, decide_eq_false (fun q => e (by cases q; rfl))]
 | neg b =>
  show (((h.toNat : Nat) : Int) == ((126 : UInt8).toNat : Int)) = _
  rw [u8i, beq_eq_false_iff_ne.2 (isLf_not hh).1, decide_eq_false (fun q => by cases q)]
 | bin p c d =>
  show (((h.toNat : Nat) : Int) == (p.toNat : Int)) = _
  simp only [Ft.wf, Bool.and_eq_true] at hs
  have : h ≠ p := fun e => by have := (isOp_not hs.1.1).2.2.2; rw [← e, hh] at this; cases this
  rw [u8i, beq_eq_false_iff_ne.2 this, decide_eq_false (fun q => by cases q)]
theorem op_neg {s : Ft} (hs : s.wf = true) : ((126 : Int) == s.opI) = match s with | .neg _ => true | _ => false := by
 cases s with
 | leaf c =>
  show (((126 : UInt8).toNat : Int) == (c.toNat : Int)) = false
  rw [u8i, beq_eq_false_iff_ne.2 (isLf_not hs).1.symm]
 | neg b => rfl
 | bin p c d =>
  simp only [Ft.wf, Bool.and_eq_true] at hs
  show (((126 : UInt8).toNat : Int) == (p.toNat : Int)) = false
  rw [u8i, beq_eq_false_iff_ne.2 (isOp_not hs.1.1).1.symm]
theorem op_bin {s : Ft} {o : UInt8} (ho : isOp o = true) (hs : s.wf = true) : (((o.toNat : Nat) : Int) == s.opI) = match s with | .bin p _ _ => decide (o = p) | _ => false := by
 cases s with
 | leaf c =>
  show (((o.toNat : Nat) : Int) == (c.toNat : Int)) = false
  have : o ≠ c := fun e => by have := (isOp_not ho).2.2.2; rw [e, show isLf c = true from hs] at this; cases this
  rw [u8i, beq_eq_false_iff_ne.2 this]
 | neg b =>
  show (((o.toNat : Nat) : Int) == ((126 : UInt8).toNat : Int)) = false
  rw [u8i, beq_eq_false_iff_ne.2 (isOp_not ho).1]
 | bin p c d =>
  show (((o.toNat : Nat) : Int) == (p.toNat : Int)) = decide (o = p)
  rw [u8i]
  by_cases e : o = p
  · subst e; simp
  · rw [beq_eq_false_iff_ne.2 e, decide_eq_false e]
theorem oS_emp (o : Option Ft) : ((oS o).toList == (ByteArray.mk #[]).toList) = o.isNone := by
 rw [eqS]
 cases o with
 | none => rfl
 | some t =>
  refine decide_eq_false fun h => t.txt_ne ?_
  exact tx_inj (show tx t.txt = tx [] from h)
theorem oF_nil (o : Option Ft) : (oF o).isNil = o.isNone := by cases o with
 | none => rfl
 | some t => exact fo_isNil t
theorem let_of {h : UInt8} (hl : letB (.leaf h) = true) : isV h = true ∨ h = 48 ∨ h = 49 := by
 simp only [letB, Bool.or_eq_true, beq_iff_eq] at hl
 rcases hl with (((rfl | rfl) | rfl) | rfl) | rfl
 · exact .inl rfl
 · exact .inl rfl
 · exact .inl rfl
 · exact .inr (.inl rfl)
 · exact .inr (.inr rfl)
theorem spec_letter (t : Ft) (ht : letB t = true) : spec_l22Letter (tx t.txt) = some (match t with | .leaf h => isV h | _ => false) := by
 cases t with
 | leaf h =>
  rcases let_of ht with hv | rfl | rfl
  · rcases isV_of hv with rfl | rfl | rfl <;> rfl
  · rfl
  · rfl
 | neg a =>
  unfold spec_l22Letter
  have hz : (tx (Ft.neg a).txt).size = a.txt.length + 1 := by rw [tx_size]; rfl
  have hp := List.length_pos_iff.2 a.txt_ne
  rw [bifF (beq_eq_false_iff_ne.2 (by rw [hz]; omega))]; rfl
 | bin o a b =>
  unfold spec_l22Letter
  have hz : (tx (Ft.bin o a b).txt).size = a.txt.length + b.txt.length + 3 := by rw [tx_size]; simp only [Ft.txt, List.length_cons, List.length_append, List.length_nil]; omega
  rw [bifF (beq_eq_false_iff_ne.2 (by rw [hz]; omega))]; rfl
theorem parts_tx {t : Ft} (hw : t.wf = true) (hz : t.txt.length ≤ 1000) : spec_l22Parts (tx t.txt) = some (t.opI, t.tA, t.tB) := spec_l22Parts_eq (F?_tx hw) (by rw [tx_size]; exact hz)
theorem ss_get {e : E3} {h : UInt8} (hv : isV h = true) : ix e.ss (wrk true 64 (wrk false 8 (((h.toNat : Nat) : Int) - 97))) = some (oS (e.get h)) := by
 rcases isV_of hv with rfl | rfl | rfl <;> rfl
theorem ss_put {e : E3} {h : UInt8} {s : Ft} (hv : isV h = true) : put e.ss (wrk true 64 (wrk false 8 (((h.toNat : Nat) : Int) - 97))) (tx s.txt) = some (e.set h s).ss := by
 rcases isV_of hv with rfl | rfl | rfl <;> rfl
theorem txt_emp (t : Ft) : ((tx t.txt).toList == (ByteArray.mk #[]).toList) = false := oS_emp (some t)
theorem match_eq : ∀ {t s : Ft} {e : E3} {n : Nat}, t.wf = true → letB t = true → s.wf = true → e.ok → t.txt.length ≤ 1000 → s.txt.length ≤ 1000 → t.dep ≤ n →
 spec_l24Match_F n (tx t.txt) (tx s.txt) e.ss = some ((mt t s e).1.ss, (mt t s e).2)
 | t, s, e, 0, _, _, _, _, _, _, hn => by have := t.dep_pos; omega
 | .leaf h, s, e, n + 1, hw, hl, hs, he, h1, h2, hn => by
  show spec_l24Match_B _ _ _ _ = _
  unfold spec_l24Match_B
  rw [spec_letter _ hl, bd_some]
  have hi : ixS (tx (Ft.leaf h).txt) 0 = some (h.toNat : Int) := ixS_at (k := 0) (by rw [bs_tx]; rfl)
  have ha : app ([] : List ByteArray) e.ss = some e.ss := app_ok (by show 0 + 3 ≤ lim; decide)
  cases hv : isV h with
  | true =>
   dsimp only
   rw [hv, cond_true]
   simp only [hi, bd_some, ss_get hv, oS_emp, ha, ss_put hv]
   unfold mt
   rw [if_pos hv]
   have hg := he.get h
   cases hq : e.get h with
   | none => rfl
   | some u =>
    rw [hq] at hg
    dsimp only [Option.isNone]
    rw [Bool.not_false, cond_true, eqS, show decide (oS (some u) = tx s.txt) = decide (u = s) from decide_eq_decide.2 (tx_eq hg hs)]
  | false =>
   dsimp only
   rw [hv, cond_false, parts_tx hw h1, bd_some, parts_tx hs h2, bd_some]
   unfold mt
   rw [if_neg (by rw [hv]; simp)]
   dsimp only
   rw [show (Ft.leaf h).opI = (h.toNat : Int) from rfl, op_leaf hs hw, show ((Ft.leaf h).tA.toList == (ByteArray.mk #[]).toList) = true by rw [eqS]; rfl]
   cases decide (s = Ft.leaf h) <;> rfl
 | .neg a, s, e, n + 1, hw, hl, hs, he, h1, h2, hn => by
  show spec_l24Match_B _ _ _ _ = _
  unfold spec_l24Match_B
  rw [spec_letter _ hl, bd_some, cond_false, parts_tx hw h1, bd_some, parts_tx hs h2, bd_some]
  dsimp only
  rw [show (Ft.neg a).opI = (126 : Int) from rfl, op_neg hs]
  cases s with
  | leaf c => rfl
  | bin p c d => rfl
  | neg b =>
   dsimp only
   rw [Bool.not_true, cond_false]
   show (bif ((tx a.txt).toList == (ByteArray.mk #[]).toList) then _ else bd (spec_l24Match_F n (tx a.txt) (tx b.txt) e.ss) _) = _
   simp only [Ft.txt, List.length_cons] at h1 h2
   simp only [Ft.dep] at hn
   rw [txt_emp, cond_false, match_eq (t := a) (s := b) hw hl hs he (by omega) (by omega) (by omega), bd_some]
   dsimp only
   rw [show ((Ft.neg a).tB.toList == (ByteArray.mk #[]).toList) = true by rw [eqS]; rfl]
   show (bif (bif (!(mt a b e).2) then true else true) then _ else _) = _
   rw [show (bif (!(mt a b e).2) then true else true) = true by cases (mt a b e).2 <;> rfl, cond_true]
   rfl
 | .bin o a b, s, e, n + 1, hw, hl, hs, he, h1, h2, hn => by
  show spec_l24Match_B _ _ _ _ = _
  unfold spec_l24Match_B
  have hw' := hw
  simp only [Ft.wf, Bool.and_eq_true] at hw'
  rw [spec_letter _ hl, bd_some, cond_false, parts_tx hw h1, bd_some, parts_tx hs h2, bd_some]
  dsimp only
  rw [show (Ft.bin o a b).opI = (o.toNat : Int) from rfl, op_bin hw'.1.1 hs]
  cases s with
  | leaf c => rfl
  | neg c => rfl
  | bin p c d =>
   dsimp only
   simp only [Ft.wf, Bool.and_eq_true] at hs
   simp only [letB, Bool.and_eq_true] at hl
   simp only [Ft.txt, List.length_cons, List.length_append, List.length_nil] at h1 h2
   simp only [Ft.dep] at hn
   unfold mt
   dsimp only
   by_cases hop : o = p
   · rw [decide_eq_true hop, Bool.not_true, cond_false, if_pos hop]
     show (bif ((tx a.txt).toList == (ByteArray.mk #[]).toList) then _ else bd (spec_l24Match_F n (tx a.txt) (tx c.txt) e.ss) _) = _
     rw [txt_emp, cond_false, match_eq (t := a) (s := c) hw'.1.2 hl.1 hs.1.2 he (by omega) (by omega) (by omega), bd_some]
     show (bif (bif (!(mt a c e).2) then true else ((tx b.txt).toList == (ByteArray.mk #[]).toList)) then _ else bd (spec_l24Match_F n (tx b.txt) (tx d.txt) (mt a c e).1.ss) _) = _
     rw [txt_emp, match_eq (t := b) (s := d) hw'.2 hl.2 hs.2 (mt_ok hs.1.2 he) (by omega) (by omega) (by omega), bd_some]
     cases (mt a c e).2 <;> rfl
   · rw [decide_eq_false hop, Bool.not_false, cond_true, if_neg hop]
theorem fs_get {e : E3} {h : UInt8} (hv : isV h = true) : ix [e.fs.1, e.fs.2.1, e.fs.2.2] (wrk false 8 (((h.toNat : Nat) : Int) - 97)) = some (oF (e.get h)) := by
 rcases isV_of hv with rfl | rfl | rfl <;> rfl
theorem fs_put {e : E3} {h : UInt8} {s : Ft} (hv : isV h = true) : set3 (e.fs.1, e.fs.2.1, e.fs.2.2) (wrk false 8 (((h.toNat : Nat) : Int) - 97)) s.fo = (e.set h s).fs := by
 rcases isV_of hv with rfl | rfl | rfl <;> rfl
theorem set_get {e : E3} {h : UInt8} {s : Ft} (hv : isV h = true) : (e.set h s).get h = some s := by
 rcases isV_of hv with rfl | rfl | rfl <;> rfl
theorem foget (t : Ft) : ∃ n, t.fo.get = some n ∧ n.text = tx t.txt ∧ n.op = t.opI := by
 cases t with
 | leaf c => exact ⟨_, rfl, rfl, rfl⟩
 | neg a => exact ⟨_, rfl, rfl, rfl⟩
 | bin op a b => exact ⟨_, rfl, rfl, rfl⟩
theorem isV_let {h : UInt8} (hv : isV h = true) : impl_isLetter (h.toNat : Int) = true := by
 rcases isV_of hv with rfl | rfl | rfl <;> rfl
theorem fits_eq : ∀ {t s : Ft} {e : E3} {n : Nat}, t.wf = true → letB t = true → s.wf = true → e.ok → t.dep ≤ n →
 impl_formula_fits_F n t.fo s.fo e.fs = some ((mt t s e).2, (mt t s e).1.fs)
 | t, s, e, 0, _, _, _, _, hn => by have := t.dep_pos; omega
 | .leaf h, s, e, n + 1, hw, hl, hs, he, hn => by
  show impl_formula_fits_B _ _ _ _ = _
  unfold impl_formula_fits_B
  show bd (some (FoN.mk (h.toNat : Int) .nil .nil (tx [h]))) _ = _
  rw [bd_some]
  dsimp only
  obtain ⟨m, m1, m2, m3⟩ := foget s
  rcases let_of hl with hv | h4
  · rw [isV_let hv, cond_true, fs_get hv, bd_some, oF_nil, fs_put hv]
    unfold mt
    rw [if_pos hv]
    have hg := he.get h
    cases hq : e.get h with
    | none =>
     dsimp only [Option.isNone]
     rw [cond_true, bdR_go, fs_get hv, bd_some, set_get hv]
     show bd s.fo.get _ = _
     rw [m1, bd_some, bd_some]
     simp
    | some u =>
     rw [hq] at hg
     dsimp only [Option.isNone]
     rw [cond_false, bdR_go]
     obtain ⟨q, q1, q2, _⟩ := foget u
     have hx : ix [e.fs.1, e.fs.2.1, e.fs.2.2] (wrk false 8 (((h.toNat : Nat) : Int) - 97)) = some u.fo := by rw [fs_get hv, hq]; rfl
     show bd (ix [e.fs.1, e.fs.2.1, e.fs.2.2] _) _ = _
     rw [hx, bd_some, q1, bd_some, m1, bd_some, q2, m2, eqS]
     show some (decide _, e.fs) = _
     congr 2
     exact decide_eq_decide.2 (tx_eq hg hs)
  · have hn : impl_isLetter (h.toNat : Int) = false ∧ isV h = false := by rcases h4 with rfl | rfl <;> exact ⟨rfl, rfl⟩
    rw [hn.1, cond_false, m1, bd_some, m3, op_leaf hs hw]
    unfold mt
    rw [if_neg (by rw [hn.2]; simp)]
    cases decide (s = Ft.leaf h) <;> rfl
 | .neg a, s, e, n + 1, hw, hl, hs, he, hn => by
  show impl_formula_fits_B _ _ _ _ = _
  unfold impl_formula_fits_B
  show bd (some (FoN.mk 126 a.fo .nil (tx (Ft.neg a).txt))) _ = _
  rw [bd_some]
  dsimp only
  obtain ⟨m, m1, m2, m3⟩ := foget s
  rw [show impl_isLetter 126 = false from rfl, cond_false, m1, bd_some, m3, op_neg hs]
  cases s with
  | leaf c => rfl
  | bin p c d => rfl
  | neg b =>
   cases m1
   dsimp only
   simp only [Ft.dep] at hn
   rw [Bool.not_true, cond_false, fo_isNil, cond_false, show Fo.nil.isNil = true from rfl, cond_true]
   show bd (impl_formula_fits_F n a.fo b.fo e.fs) _ = _
   rw [fits_eq (t := a) (s := b) hw hl hs he (by omega), bd_some]
   rfl
 | .bin o a b, s, e, n + 1, hw, hl, hs, he, hn => by
  show impl_formula_fits_B _ _ _ _ = _
  unfold impl_formula_fits_B
  show bd (some (FoN.mk (o.toNat : Int) a.fo b.fo (tx (Ft.bin o a b).txt))) _ = _
  rw [bd_some]
  dsimp only
  have hw' := hw
  simp only [Ft.wf, Bool.and_eq_true] at hw'
  obtain ⟨m, m1, m2, m3⟩ := foget s
  have hno : impl_isLetter (o.toNat : Int) = false := by
   have := hw'.1.1
   unfold isOp at this
   simp only [Bool.or_eq_true, beq_iff_eq] at this
   rcases this with (rfl | rfl) | rfl <;> rfl
  rw [hno, cond_false, m1, bd_some, m3, op_bin hw'.1.1 hs]
  cases s with
  | leaf c => rfl
  | neg c => rfl
  | bin p c d =>
   cases m1
   dsimp only
   simp only [Ft.wf, Bool.and_eq_true] at hs
   simp only [letB, Bool.and_eq_true] at hl
   simp only [Ft.dep] at hn
   unfold mt
   dsimp only
   by_cases hop : o = p
   · rw [decide_eq_true hop, Bool.not_true, cond_false, if_pos hop, fo_isNil, cond_false, fo_isNil, cond_false]
     show bd (impl_formula_fits_F n a.fo c.fo e.fs) _ = _
     rw [fits_eq (t := a) (s := c) hw'.1.2 hl.1 hs.1.2 he (by omega), bd_some]
     show bd (bif (mt a c e).2 then bd (impl_formula_fits_F n b.fo d.fo (mt a c e).1.fs) _ else _) _ = _
     rw [fits_eq (t := b) (s := d) hw'.2 hl.2 hs.2 (mt_ok hs.1.2 he) (by omega), bd_some]
     cases (mt a c e).2 <;> rfl
   · rw [decide_eq_false hop, Bool.not_false, cond_true, if_neg hop]
def isB (k : Int) (s : Ft) : Bool := match sch[(k - 1).toNat]? with
 | some t => (mt t s ⟨none, none, none⟩).2
 | none => false
theorem emp_ok : (E3.mk none none none).ok := ⟨trivial, trivial, trivial⟩
theorem sch_at2 {k : Int} (h1 : 1 ≤ k) (h2 : k ≤ 10) : ∃ t, sch[(k - 1).toNat]? = some t ∧ ix glob0 (wr (k - 1)) = some (tx t.txt) ∧ t.wf = true ∧ letB t = true ∧ t.txt.length ≤ 25 := by
 rw [wr_of _ (by omega) (by omega)]
 have hl : sch.length = 10 := rfl
 have hk : (k - 1).toNat < sch.length := by omega
 have hm := List.all_eq_true.1 sch_ok (sch[(k - 1).toNat]) (List.getElem_mem hk)
 rw [Bool.and_eq_true, Bool.and_eq_true, decide_eq_true_iff] at hm
 refine ⟨sch[(k - 1).toNat], List.getElem?_eq_getElem hk, ?_, hm.1.1, hm.1.2, hm.2⟩
 rw [glob_sch, ix, if_pos (by omega), List.getElem?_map, List.getElem?_eq_getElem hk]
 rfl
theorem spec_is {k : Int} (h1 : 1 ≤ k) (h2 : k ≤ 10) {s : Ft} (hs : s.wf = true) (hz : s.txt.length ≤ 1000) : spec_l24Is k (tx s.txt) = some (isB k s) := by
 obtain ⟨t, t0, t1, t2, t3, t4⟩ := sch_at2 h1 h2
 unfold spec_l24Is
 rw [spec_sch, t1, bd_some]
 unfold spec_l24Match isB
 rw [show [ByteArray.mk #[], ByteArray.mk #[], ByteArray.mk #[]] = (E3.mk none none none).ss from rfl, match_eq t2 t3 hs emp_ok (by omega) hz (by have := t.dep_le; rw [deep_eq]; omega), bd_some, t0]
theorem impl_is {k : Int} (h1 : 1 ≤ k) (h2 : k ≤ 10) {s : Ft} (hs : s.wf = true) : impl_isCase k s.fo = some (isB k s) := by
 obtain ⟨t, t0, t1, t2, t3, t4⟩ := sch_at2 h1 h2
 unfold impl_isCase
 rw [t1, bd_some, impl_parse_good (F?_tx t2) (by rw [tx_size]; omega), bd_some]
 unfold impl_formula_fits isB
 rw [show (Fo.nil, Fo.nil, Fo.nil) = (E3.mk none none none).fs from rfl, fits_eq t2 t3 hs emp_ok (by have := t.dep_le; rw [deep_eq]; omega), bd_some, t0]
theorem is_cs1 (a b : Ft) : isB 1 (cs1 a b) = true := by
 show (mt sc1 (cs1 a b) ⟨none, none, none⟩).2 = true
 simp [sc1, cs1, im, mt, isV, E3.get, E3.set]
theorem is_cs2 (a b c : Ft) : isB 2 (cs2 a b c) = true := by
 show (mt sc2 (cs2 a b c) ⟨none, none, none⟩).2 = true
 simp [sc2, cs2, im, mt, isV, E3.get, E3.set]
end Go.PF
namespace Go.PF
open Go.Pu
def fo? (s : ByteArray) : Option Ft := if s.size ≤ 80 then F? (bs s) else none
theorem fo?_some {s : ByteArray} {t : Ft} : fo? s = some t ↔ s = tx t.txt ∧ t.wf = true ∧ t.txt.length ≤ 80 := by
 unfold fo?
 constructor
 · intro h
   split at h
   · rename_i h80
     obtain ⟨e, hw⟩ := ft_of h
     exact ⟨e, hw, by rw [e, tx_size] at h80; exact h80⟩
   · cases h
 · rintro ⟨rfl, hw, h80⟩
   rw [if_pos (by rw [tx_size]; exact h80), F?_tx hw]
theorem goodB_fo (s : ByteArray) : goodB s = (fo? s).isSome := by
 unfold goodB fo?
 by_cases h : s.size ≤ 80 <;> simp [h]
theorem fo?_tx {t : Ft} (hw : t.wf = true) (h : t.txt.length ≤ 80) : fo? (tx t.txt) = some t := fo?_some.2 ⟨rfl, hw, h⟩
theorem parse_fo {s : ByteArray} {t : Ft} (h : fo? s = some t) : impl_parse s = some (t.fo, true) := by
 obtain ⟨rfl, hw, h80⟩ := fo?_some.1 h
 exact impl_parse_good (F?_tx hw) (by rw [tx_size]; exact h80)
theorem parse_none {s : ByteArray} (h : fo? s = none) : impl_parse s = some (.nil, false) := impl_parse_bad (by rw [goodB_fo, h]; rfl)
def imS (a b : ByteArray) : ByteArray := tx (40 :: (bs a ++ 62 :: (bs b ++ [41])))
theorem imS_tx (a b : Ft) : imS (tx a.txt) (tx b.txt) = tx (im a b).txt := by unfold imS; rw [bs_tx, bs_tx]; rfl
theorem imS_cat (a b : ByteArray) : ByteArray.mk #[40] ++ a ++ ByteArray.mk #[62] ++ b ++ ByteArray.mk #[41] = imS a b := by
 apply bs_ext
 unfold imS
 rw [bs_tx]
 simp only [bs_app]
 rw [show bs (ByteArray.mk #[40]) = [40] from rfl, show bs (ByteArray.mk #[62]) = [62] from rfl, show bs (ByteArray.mk #[41]) = [41] from rfl]
 simp
theorem cat_im {a b : ByteArray} (h : a.size + b.size ≤ 100000000) {B : Type} (K : ByteArray → Option B) :
 bd (catS (ByteArray.mk #[40]) a) (fun z21 => bd (catS z21 (ByteArray.mk #[62])) (fun z23 => bd (catS z23 b) (fun z25 => bd (catS z25 (ByteArray.mk #[41])) K))) = K (imS a b) := by
 have s1 : (ByteArray.mk #[40]).size = 1 := rfl
 have s2 : (ByteArray.mk #[62]).size = 1 := rfl
 have s3 : (ByteArray.mk #[41]).size = 1 := rfl
 rw [catS_ok (by rw [s1]; omega), bd_some, catS_ok (by rw [ByteArray.size_append, s1, s2]; omega), bd_some, catS_ok (by rw [ByteArray.size_append, ByteArray.size_append, s1, s2]; omega), bd_some,
  catS_ok (by rw [ByteArray.size_append, ByteArray.size_append, ByteArray.size_append, s1, s2, s3]; omega), bd_some, imS_cat]
theorem spec_im {a b : ByteArray} (h : a.size + b.size ≤ 100000000) : spec_l24Implies a b = some (imS a b) := by
 unfold spec_l24Implies
 exact cat_im h _
def corB (given : List ByteArray) (steps : List FregeStep) (k : Nat) (s : FregeStep) : Bool :=
 match fo? s.formula with
 | none => false
 | some t =>
  if 1 ≤ s.rule ∧ s.rule ≤ 10 then decide (s.a = 0) && decide (s.b = 0) && isB s.rule t
  else if s.rule = 0 then decide (s.b = 0) && decide (0 ≤ s.a) && decide (given[s.a.toNat]? = some s.formula)
  else if s.rule = -1 then decide (0 ≤ s.a ∧ s.a < k ∧ 0 ≤ s.b ∧ s.b < k) && (match steps[s.b.toNat]?, steps[s.a.toNat]? with
   | some y, some x => decide (y.formula = imS x.formula s.formula)
   | _, _ => false)
  else false
theorem bq (a b : Int) : (a == b) = decide (a = b) := by
 by_cases h : a = b
 · subst h; simp
 · rw [beq_eq_false_iff_ne.2 h, decide_eq_false h]
theorem wrl {n : Nat} (h : n ≤ 1000000) : wr ((n : Int) - 1) = (n : Int) - 1 := wr_of _ (by omega) (by omega)
theorem l1In_eq (a b c : Int) : spec_l1In a b c = decide (b ≤ a ∧ a ≤ c) := by
 unfold spec_l1In
 by_cases h : b ≤ a
 · rw [decide_eq_true h, cond_true]; exact decide_eq_decide.2 (by omega)
 · rw [decide_eq_false h, cond_false]; exact (decide_eq_false (by omega)).symm
theorem spec_cor {given : List ByteArray} {steps : List FregeStep} {k : Nat} {s : FregeStep} (hk : steps[k]? = some s) (hg : given.length ≤ 1000000) (hk1 : k ≤ 1000000) (hz : ∀ x ∈ steps, x.formula.size ≤ 1000000) : spec_l24Correct given steps (k : Int) = some (corB given steps k s) := by
 unfold spec_l24Correct corB
 rw [ix_nat hk, bd_some, spec_l22Good_eq, bd_some, goodB_fo]
 cases hf : fo? s.formula with
 | none => rfl
 | some t =>
  obtain ⟨e, hw, h80⟩ := fo?_some.1 hf
  dsimp only [Option.isSome]
  rw [Bool.not_true, cond_false]
  unfold spec_l24Scheme
  rw [l1In_eq]
  by_cases hr : 1 ≤ s.rule ∧ s.rule ≤ 10
  · rw [decide_eq_true hr, cond_true, if_pos hr, bq, bq]
    by_cases ha : s.a = 0 <;> by_cases hb : s.b = 0
    · rw [e, spec_is hr.1 hr.2 hw (by omega)]; simp [ha, hb]
    all_goals simp [ha, hb]
  · rw [decide_eq_false hr, cond_false, if_neg hr, bq]
    by_cases h0 : s.rule = 0
    · rw [decide_eq_true h0, cond_true, if_pos h0, bq, len_eq, wrl hg, l1In_eq]
      by_cases hb : s.b = 0
      · by_cases ha : 0 ≤ s.a
        · by_cases hl : s.a < given.length
          · obtain ⟨x, hx, hx'⟩ := ix_of (xs := given) ha hl
            rw [hx, hx', decide_eq_true (show 0 ≤ s.a ∧ s.a ≤ (given.length : Int) - 1 by omega)]
            simp [hb, ha, eqS]
          · have : given[s.a.toNat]? = none := List.getElem?_eq_none (by omega)
            rw [this, decide_eq_false (show ¬ (0 ≤ s.a ∧ s.a ≤ (given.length : Int) - 1) by omega)]
            simp
        · rw [decide_eq_false (show ¬ (0 ≤ s.a ∧ s.a ≤ (given.length : Int) - 1) by omega), decide_eq_false ha]
          simp
      · simp [hb]
    · rw [decide_eq_false h0, cond_false, if_neg h0, bq]
      by_cases h1 : s.rule = -1
      · rw [decide_eq_true h1, cond_true, if_pos h1, wrl hk1, l1In_eq, l1In_eq]
        by_cases hq : 0 ≤ s.a ∧ s.a < k ∧ 0 ≤ s.b ∧ s.b < k
        · rw [decide_eq_true hq, decide_eq_true (show 0 ≤ s.a ∧ s.a ≤ (k : Int) - 1 by omega), decide_eq_true (show 0 ≤ s.b ∧ s.b ≤ (k : Int) - 1 by omega)]
          have hkl := lt_of_get hk
          obtain ⟨y, hy, hy'⟩ := ix_of (xs := steps) (i := s.b) hq.2.2.1 (by omega)
          obtain ⟨x, hx, hx'⟩ := ix_of (xs := steps) (i := s.a) hq.1 (by omega)
          have z1 := hz x (List.mem_of_getElem? hx')
          have z2 : s.formula.size ≤ 80 := by rw [e, tx_size]; exact h80
          rw [hy, hx, hy', hx']
          simp [spec_im (a := x.formula) (b := s.formula) (by omega), eqS]
        · rw [decide_eq_false hq]
          have : (bif decide (0 ≤ s.a ∧ s.a ≤ (k : Int) - 1) then decide (0 ≤ s.b ∧ s.b ≤ (k : Int) - 1) else false) = false := by
           by_cases g : 0 ≤ s.a ∧ s.a ≤ (k : Int) - 1
           · rw [decide_eq_true g, cond_true, decide_eq_false (by omega)]
           · rw [decide_eq_false g, cond_false]
          rw [this]; simp
      · rw [decide_eq_false h1, cond_false, if_neg h1]
theorem within_eq (a b c : Int) : impl_within a b c = decide (b ≤ a ∧ a ≤ c) := l1In_eq a b c
theorem impl_cor {given : List ByteArray} {steps : List FregeStep} {k : Nat} {s : FregeStep} (hk : steps[k]? = some s) (hg : given.length ≤ 1000000) (hk1 : k ≤ 1000000) (hG : ∀ j x, j < k → steps[j]? = some x → (fo? x.formula).isSome = true) : impl_fregeCorrect given steps (k : Int) = some (corB given steps k s) := by
 unfold impl_fregeCorrect corB
 rw [ix_nat hk, bd_some]
 cases hf : fo? s.formula with
 | none => rw [parse_none hf]; rfl
 | some t =>
  obtain ⟨e, hw, h80⟩ := fo?_some.1 hf
  rw [parse_fo hf, bd_some]
  dsimp only
  rw [Bool.not_true, cond_false, within_eq]
  by_cases hr : 1 ≤ s.rule ∧ s.rule ≤ 10
  · rw [decide_eq_true hr, cond_true, if_pos hr, bq, bq]
    by_cases ha : s.a = 0 <;> by_cases hb : s.b = 0
    · rw [impl_is hr.1 hr.2 hw]; simp [ha, hb]
    all_goals simp [ha, hb]
  · rw [decide_eq_false hr, cond_false, if_neg hr, bq]
    by_cases h0 : s.rule = 0
    · rw [decide_eq_true h0, cond_true, if_pos h0, bq, len_eq, wrl hg, within_eq]
      by_cases hb : s.b = 0
      · by_cases ha : 0 ≤ s.a
        · by_cases hl : s.a < given.length
          · obtain ⟨x, hx, hx'⟩ := ix_of (xs := given) ha hl
            rw [hx, hx', decide_eq_true (show 0 ≤ s.a ∧ s.a ≤ (given.length : Int) - 1 by omega)]
            simp [hb, ha, eqS]
          · have : given[s.a.toNat]? = none := List.getElem?_eq_none (by omega)
            rw [this, decide_eq_false (show ¬ (0 ≤ s.a ∧ s.a ≤ (given.length : Int) - 1) by omega)]
            simp
        · rw [decide_eq_false (show ¬ (0 ≤ s.a ∧ s.a ≤ (given.length : Int) - 1) by omega), decide_eq_false ha]
          simp
      · simp [hb]
    · rw [decide_eq_false h0, cond_false, if_neg h0, bq]
      by_cases h1 : s.rule = -1
      · rw [decide_eq_true h1, if_pos h1, wrl hk1, within_eq, within_eq]
        by_cases hq : 0 ≤ s.a ∧ s.a < k ∧ 0 ≤ s.b ∧ s.b < k
        · rw [decide_eq_true hq, decide_eq_true (show 0 ≤ s.a ∧ s.a ≤ (k : Int) - 1 by omega), decide_eq_true (show 0 ≤ s.b ∧ s.b ≤ (k : Int) - 1 by omega)]
          have hkl := lt_of_get hk
          obtain ⟨y, hy, hy'⟩ := ix_of (xs := steps) (i := s.b) hq.2.2.1 (by omega)
          obtain ⟨x, hx, hx'⟩ := ix_of (xs := steps) (i := s.a) hq.1 (by omega)
          have z2 : s.formula.size ≤ 80 := by rw [e, tx_size]; exact h80
          have gx := hG s.a.toNat x (by omega) hx'
          have gy := hG s.b.toNat y (by omega) hy'
          have zx : x.formula.size ≤ 80 := by
           obtain ⟨u, hu⟩ := Option.isSome_iff_exists.1 gx
           obtain ⟨eu, _, hu80⟩ := fo?_some.1 hu
           rw [eu, tx_size]; exact hu80
          rw [hy, hx, hy', hx']
          simp only [Bool.not_true, cond_false, bd_some, impl_IsFormula_eq, goodB_fo, gx, gy, cond_true]
          rw [cat_im (by omega)]
          simp [eqS]
        · rw [decide_eq_false hq]
          have : (bif (bif (!true) then true else (!decide (0 ≤ s.a ∧ s.a ≤ (k : Int) - 1))) then true else (!decide (0 ≤ s.b ∧ s.b ≤ (k : Int) - 1))) = true := by
           by_cases g : 0 ≤ s.a ∧ s.a ≤ (k : Int) - 1
           · rw [decide_eq_true g, decide_eq_false (show ¬ (0 ≤ s.b ∧ s.b ≤ (k : Int) - 1) by omega)]; rfl
           · rw [decide_eq_false g]; rfl
          rw [this]; simp
      · rw [decide_eq_false h1, if_neg h1]; rfl
def frW (given : List ByteArray) (steps : List FregeStep) : List FregeStep → Nat → Option Nat
 | [], _ => none
 | s :: m, k => if corB given steps k s = true then frW given steps m (k + 1) else some k
theorem cor_good {given : List ByteArray} {steps : List FregeStep} {k : Nat} {s : FregeStep} (h : corB given steps k s = true) : (fo? s.formula).isSome = true := by
 unfold corB at h
 split at h
 · cases h
 · rename_i t ht; rw [ht]; rfl
def frR (o : Option Nat) : Rs Unit Int := match o with | none => .go () | some j => .rt (j : Int)
theorem wrong_loop {given : List ByteArray} {steps : List FregeStep} (C : Int → Option Bool) (hC : ∀ (k : Nat) s, steps[k]? = some s → (∀ (j : Nat) x, j < k → steps[j]? = some x → (fo? x.formula).isSome = true) → C (k : Int) = some (corB given steps k s)) :
 ∀ (m : List FregeStep) (k : Nat), (∀ i s, m[i]? = some s → steps[k + i]? = some s) → (∀ j x, j < k → steps[j]? = some x → (fo? x.formula).isSome = true) →
  forLFrom (X := Int) (fun i22 (y21 : FregeStep) (s22 : Unit) => bd (C ((i22 : Nat) : Int)) (fun r47 => (bif (!r47) then some (Lp.rt ((i22 : Nat) : Int)) else some (Lp.nx ())))) m k () = some (frR (frW given steps m k)) := by
 intro m
 induction m with
 | nil => intro k _ _; rfl
 | cons s m ih =>
  intro k hm hG
  have h0 := hm 0 s rfl
  rw [Nat.add_zero] at h0
  rw [forLFrom, hC k s h0 hG, bd_some]
  unfold frW
  cases hc : corB given steps k s with
  | false => rfl
  | true =>
   simp only [Bool.not_true, cond_false, if_true]
   refine ih (k + 1) (fun i z hz => by have := hm (i + 1) z (by simpa using hz); rwa [show k + (i + 1) = k + 1 + i by omega] at this) fun j x hj hx => ?_
   rcases Nat.lt_succ_iff_lt_or_eq.1 hj with h | rfl
   · exact hG j x h hx
   · rw [h0] at hx; cases hx; exact cor_good hc
def prB (given : List ByteArray) (steps : List FregeStep) : Bool := decide (given.length ≤ 6) && decide (steps.length ≤ 80) && given.all goodB && decide (0 < steps.length) && (frW given steps steps 0).isNone
theorem any_good (l : List ByteArray) : anyI (fun _ y => !goodB y) l 0 = !(l.all goodB) := by
 rw [anyI_any]
 induction l with
 | nil => rfl
 | cons y l ih => rw [List.any_cons, List.all_cons, ih]; cases goodB y <;> simp
theorem spec_asked (given : List ByteArray) (steps : List FregeStep) : spec_l24Asked given steps = some (decide (given.length ≤ 6) && decide (steps.length ≤ 80) && given.all goodB) := by
 unfold spec_l24Asked
 rw [len_eq, len_eq]
 by_cases h6 : given.length ≤ 6
 · by_cases h80 : steps.length ≤ 80
   · rw [decide_eq_false (show ¬ (6 < (given.length : Int)) by omega), decide_eq_false (show ¬ (80 < (steps.length : Int)) by omega), cond_false, cond_false]
     rw [forL_any (p := fun _ y => !goodB y) (v := false) (fun i y hy => by
      simp only [spec_l22Good_eq, bd_some]), any_good]
     cases given.all goodB <;> simp [h6, h80]
   · rw [decide_eq_true (show 80 < (steps.length : Int) by omega)]
     simp [h80]
 · rw [decide_eq_true (show 6 < (given.length : Int) by omega)]
   simp [h6]
theorem impl_asked (given : List ByteArray) (steps : List FregeStep) : impl_fregeOk given steps = some (decide (given.length ≤ 6) && decide (steps.length ≤ 80) && given.all goodB) := by
 unfold impl_fregeOk
 rw [len_eq, len_eq]
 by_cases h6 : given.length ≤ 6
 · by_cases h80 : steps.length ≤ 80
   · rw [decide_eq_true (show ((given.length : Int) ≤ 6) by omega), decide_eq_true (show ((steps.length : Int) ≤ 80) by omega), cond_true, cond_true]
     unfold slices_ContainsFunc_string_string slices_IndexFunc_string_string
     rw [forL_find (p := fun _ y => !goodB y) (v := fun i _ => (i : Int)) (fun i y hy => by
      show bd (impl_fregeOk_1 y) _ = _
      unfold impl_fregeOk_1
      rw [impl_IsFormula_eq, bd_some, bd_some])]
     have ha := any_good given
     cases hf : findI (fun _ y => !goodB y) given 0 with
     | none =>
      rw [findI_none.1 hf] at ha
      have hall : given.all goodB = true := by cases hx : given.all goodB with
       | true => rfl
       | false => rw [hx] at ha; cases ha
      rw [hall]; simp [h6, h80]
     | some z =>
      rw [(findI_some hf).2.2.2] at ha
      have hall : given.all goodB = false := by cases hx : given.all goodB with
       | false => rfl
       | true => rw [hx] at ha; cases ha
      rw [hall]; simp
   · rw [decide_eq_false (show ¬ ((steps.length : Int) ≤ 80) by omega)]
     simp [h80]
 · rw [decide_eq_false (show ¬ ((given.length : Int) ≤ 6) by omega)]
   simp [h6]
theorem frR_neg (o : Option Nat) : el (frR o) (fun _ => some (-1)) (fun x => some x) = some (match o with | none => -1 | some j => (j : Int)) := by cases o <;> rfl
theorem frR_lt (o : Option Nat) : decide ((match o with | none => (-1 : Int) | some j => (j : Int)) < 0) = o.isNone := by
 cases o with
 | none => rfl
 | some j => exact decide_eq_false (by simp)
theorem spec_good {given : List ByteArray} {steps : List FregeStep} (hz : ∀ x ∈ steps, x.formula.size ≤ 1000000) : spec_l24Good given steps = some (prB given steps) := by
 unfold spec_l24Good prB
 rw [spec_asked, bd_some, len_eq]
 by_cases h6 : given.length ≤ 6
 · by_cases h80 : steps.length ≤ 80
   · have hl : spec_l24Wrong given steps = some (match frW given steps steps 0 with | none => -1 | some j => (j : Int)) := by
      unfold spec_l24Wrong forL
      rw [wrong_loop (given := given) (steps := steps) (fun k => spec_l24Correct given steps k) (fun k s hk _ => spec_cor hk (by omega) (by have := lt_of_get hk; omega) hz) steps 0 (by simp) (by simp)]
      exact frR_neg _
     rw [hl, bd_some, frR_lt]
     cases given.all goodB with
     | false => simp
     | true =>
      by_cases h0 : 0 < steps.length
      · simp [h6, h80, h0]
      · have : steps.length = 0 := by omega
        simp [this]
   · simp [h80]
 · simp [h6]
theorem impl_good (given : List ByteArray) (steps : List FregeStep) : impl_fregeProof given steps = some (prB given steps) := by
 unfold impl_fregeProof prB
 rw [impl_asked, bd_some, len_eq]
 by_cases h6 : given.length ≤ 6
 · by_cases h80 : steps.length ≤ 80
   · have hl : impl_firstWrongFrege given steps = some (match frW given steps steps 0 with | none => -1 | some j => (j : Int)) := by
      unfold impl_firstWrongFrege forL
      rw [wrong_loop (given := given) (steps := steps) (fun k => impl_fregeCorrect given steps k) (fun k s hk hG => impl_cor hk (by omega) (by have := lt_of_get hk; omega) hG) steps 0 (by simp) (by simp)]
      exact frR_neg _
     rw [hl, bd_some, frR_lt]
     cases given.all goodB with
     | false => simp
     | true =>
      by_cases h0 : 0 < steps.length
      · simp [h6, h80, h0]
      · have : steps.length = 0 := by omega
        simp [this]
   · simp [h80]
 · simp [h6]
structure GP (given : List ByteArray) (steps : List FregeStep) : Prop where
 g6 : given.length ≤ 6
 s80 : steps.length ≤ 80
 gg : ∀ x ∈ given, goodB x = true
 pos : 0 < steps.length
 cor : ∀ k s, steps[k]? = some s → corB given steps k s = true
theorem frW_none {given : List ByteArray} {steps : List FregeStep} : ∀ {m : List FregeStep} {k : Nat}, frW given steps m k = none ↔ ∀ i s, m[i]? = some s → corB given steps (k + i) s = true := by
 intro m
 induction m with
 | nil => intro k; simp [frW]
 | cons y m ih =>
  intro k
  unfold frW
  constructor
  · intro h i s hs
    split at h
    · rename_i hc
      cases i with
      | zero => simp at hs; subst hs; simpa using hc
      | succ i => have := ih.1 h i s (by simpa using hs); rwa [show k + (i + 1) = k + 1 + i by omega]
    · cases h
  · intro h
    have h0 := h 0 y rfl
    rw [Nat.add_zero] at h0
    rw [if_pos h0, ih]
    intro i s hs
    have := h (i + 1) s (by simpa using hs); rwa [show k + (i + 1) = k + 1 + i by omega] at this
theorem prB_iff {given : List ByteArray} {steps : List FregeStep} : prB given steps = true ↔ GP given steps := by
 unfold prB
 simp only [Bool.and_eq_true, decide_eq_true_eq, List.all_eq_true, Option.isNone_iff_eq_none, frW_none]
 constructor
 · rintro ⟨⟨⟨⟨h1, h2⟩, h3⟩, h4⟩, h5⟩
   exact ⟨h1, h2, h3, h4, fun k s hs => by have := h5 k s hs; rwa [Nat.zero_add] at this⟩
 · intro h
   exact ⟨⟨⟨⟨h.g6, h.s80⟩, h.gg⟩, h.pos⟩, fun i s hs => by rw [Nat.zero_add]; exact h.cor i s hs⟩
end Go.PF
