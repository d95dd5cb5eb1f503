/- DerivationText: the law. -/
import Derived.Test.YtjkhehplbjempaaGreatDoorDtPl9
import Derived.Lib.ItoaLen
import Derived.Lib.Join
set_option linter.unusedVariables false
namespace Go.PF
open Go.Pu
theorem itoa_sz {n : Int} (h : okI n) : (itoaS n).size ≤ 100 := by
  have := Go.Lib.itoa_length_le n h.1 h.2
  show (Go.Lib.itoa n).toArray.size ≤ 100
  simp; omega
theorem catS_ok {a b : ByteArray} (h : a.size + b.size ≤ 1000000) : catS a b = some (a ++ b) := by
  unfold catS; rw [if_pos (by omega)]
theorem cat_sz (a b : ByteArray) : (a ++ b).size = a.size + b.size := ByteArray.size_append
def sml (n : Int) : Prop := -1000000 ≤ n ∧ n ≤ 1000000
theorem sml_ok {n : Int} (h : sml n) : okI n := ⟨by have := h.1; omega, by have := h.2; omega⟩
theorem spec_num {n : Int} (h : sml n) : spec_l1Num n = some (itoaS n) := by
  have := h.1; have := h.2
  unfold spec_l1Num numT; exact if_pos ⟨by omega, by omega⟩
theorem impl_num {n : Int} (h : sml n) : strconv_Itoa n = some (itoaS n) := by
  unfold strconv_Itoa numS; exact if_pos (sml_ok h)
def bL (b : ByteArray) : List UInt8 := b.data.toList
theorem bL_app (a b : ByteArray) : bL (a ++ b) = bL a ++ bL b := by unfold bL; rw [ByteArray.data_append, Array.toList_append]
theorem bL_ext {a b : ByteArray} (h : bL a = bL b) : a = b := by
  apply ByteArray.ext
  exact Array.toList_inj.1 h
theorem bL_mk (l : List UInt8) : bL ⟨l.toArray⟩ = l := by unfold bL; simp
theorem bL_len (a : ByteArray) : (bL a).length = a.size := by unfold bL; rw [Array.length_toList]; rfl
theorem bL_itoa (n : Int) : bL (itoaS n) = Go.Lib.itoa n := bL_mk _
/-! clauses -/
def clT (c : List Int) : ByteArray := if c = [] then (ByteArray.mk #[110, 111, 110, 101]) else ⟨(Go.Lib.join (c.map Go.Lib.itoa) [32]).toArray⟩
theorem itoa_len {n : Int} (h : sml n) : (Go.Lib.itoa n).length ≤ 100 := by
  have := Go.Lib.itoa_length_le n (sml_ok h).1 (sml_ok h).2; omega
theorem tail_len {sep : List UInt8} {B : Nat} : ∀ {l : List (List UInt8)}, (∀ x ∈ l, x.length ≤ B) → (Go.Lib.joinTail sep l).length ≤ l.length * (B + sep.length) := by
  intro l
  induction l with
  | nil => intro _; simp [Go.Lib.joinTail]
  | cons x l ih =>
    intro h
    have h1 := h x (by simp)
    have h2 := ih fun y hy => h y (by simp [hy])
    unfold Go.Lib.joinTail at h2 ⊢
    simp only [List.map_cons, List.flatten_cons, List.length_append, List.length_cons, Nat.add_mul, Nat.one_mul] at *
    omega
theorem join_len {sep : List UInt8} {B : Nat} {l : List (List UInt8)} (h : ∀ x ∈ l, x.length ≤ B) : (Go.Lib.join l sep).length ≤ l.length * (B + sep.length) := by
  cases l with
  | nil => simp [Go.Lib.join_nil]
  | cons x l =>
    rw [Go.Lib.join_cons, List.length_append, List.length_cons, Nat.add_mul, Nat.one_mul]
    have h1 := h x (by simp)
    have h2 := tail_len (sep := sep) fun y hy => h y (List.mem_cons_of_mem x hy)
    omega
theorem clT_sz {c : List Int} (hl : c.length ≤ 12) (hc : ∀ n ∈ c, sml n) : (clT c).size ≤ 1300 := by
  unfold clT
  split
  · decide
  · have := join_len (sep := [32]) (B := 100) (l := c.map Go.Lib.itoa) fun x hx => by
      obtain ⟨n, hn, rfl⟩ := List.mem_map.1 hx; exact itoa_len (hc n hn)
    rw [List.length_map] at this
    show (Go.Lib.join (c.map Go.Lib.itoa) [32]).toArray.size ≤ 1300
    simp only [List.size_toArray]
    simp only [List.length_cons, List.length_nil] at this
    omega
theorem forR_tl {S X α : Type} {x0 : α} {xs : List α} {body : Nat → S → Option (Lp S X)} {F : S → α → S} (I : Nat → S → Prop) {s0 : S} (h0 : I 1 s0)
    (h : ∀ i x s, (x0 :: xs)[i]? = some x → I i s → body i s = some (.nx (F s x)) ∧ I (i + 1) (F s x)) : forR 1 (x0 :: xs).length body s0 = some (.go (xs.foldl F s0)) := by
  have key : ∀ (m : List α) (k : Nat) (s : S), (∀ i y, m[i]? = some y → (x0 :: xs)[k + i]? = some y) → I k s → forFrom body m.length k s = some (.go (m.foldl F s)) := by
    intro m
    induction m with
    | nil => intro k s _ _; rfl
    | cons y m ih =>
      intro k s hm hI
      obtain ⟨h1, h2⟩ := h k y s (by have := hm 0 y rfl; simpa using this) hI
      simp only [List.length_cons, forFrom, h1, List.foldl_cons]
      exact ih (k + 1) (F s y) (fun i z hz => by have := hm (i + 1) z (by simpa using hz); rwa [show k + (i + 1) = k + 1 + i by omega] at this) h2
  unfold forR
  have := key xs 1 s0 (fun i y hy => by rw [show 1 + i = i + 1 by omega]; simpa using hy) h0
  simpa using this
theorem fold_tail {α : Type} {g : α → ByteArray} {sep : ByteArray} : ∀ {l : List α} {s : ByteArray}, bL (l.foldl (fun s x => s ++ sep ++ g x) s) = bL s ++ Go.Lib.joinTail (bL sep) (l.map fun x => bL (g x)) := by
  intro l
  induction l with
  | nil => intro s; simp [Go.Lib.joinTail]
  | cons x l ih =>
    intro s
    rw [List.foldl_cons, ih, bL_app, bL_app]
    simp [Go.Lib.joinTail, List.append_assoc]
theorem spec_l2Text_eq {c : List Int} (hl : c.length ≤ 12) (hc : ∀ n ∈ c, sml n) : spec_l2Text c = some (clT c) := by
  unfold spec_l2Text clT
  cases c with
  | nil => rfl
  | cons n c =>
    rw [show (len (n :: c) == 0) = false by rw [beq_eq_false_iff_ne, len_eq, List.length_cons]; omega, cond_false, show ix (n :: c) 0 = some n from rfl, bd_some, spec_num (hc n (by simp)), bd_some, if_neg (by simp)]
    rw [forR_tl (X := Empty) (F := fun s x => s ++ (ByteArray.mk #[32]) ++ itoaS x) (fun i s => s.size ≤ 200 * i) (by have := itoa_sz (sml_ok (hc n (by simp))); omega) (fun i x s hx hs => by
      have hi := (List.getElem?_eq_some_iff.1 hx).1
      have hm := hc x (List.mem_of_getElem? hx)
      have hz := itoa_sz (sml_ok hm)
      have h1 : (ByteArray.mk #[32]).size = 1 := rfl
      rw [catS_ok (by omega), bd_some, ix_get, hx, bd_some, spec_num hm, bd_some, catS_ok (by rw [cat_sz]; omega), bd_some]
      exact ⟨rfl, by rw [cat_sz, cat_sz]; omega⟩), bdR_go]
    congr 1
    apply bL_ext
    rw [fold_tail, bL_itoa, List.map_congr_left fun x _ => bL_itoa x, List.map_cons, Go.Lib.join_cons]
    exact (bL_mk _).symm
theorem join_ok {xs : List ByteArray} {sep : ByteArray} (hn : xs.length ≤ 100000) (h : (Go.Lib.join (xs.map bL) (bL sep)).length ≤ 1000000) : strings_Join xs sep = some ⟨(Go.Lib.join (xs.map bL) (bL sep)).toArray⟩ := by
  unfold strings_Join joinS
  exact if_pos ⟨by show (Go.Lib.join (xs.map bL) (bL sep)).length ≤ _; omega, by omega⟩
theorem impl_clauseText_eq {c : List Int} (hl : c.length ≤ 12) (hc : ∀ n ∈ c, sml n) : impl_clauseText c = some (clT c) := by
  unfold impl_clauseText clT
  cases c with
  | nil => rfl
  | cons n c =>
    rw [show (len (n :: c) == 0) = false by rw [beq_eq_false_iff_ne, len_eq, List.length_cons]; omega, cond_false, if_neg (by simp)]
    generalize hcs : n :: c = cs at *
    unfold impl_digits
    have e := to_list (g := fun y => strconv_Itoa y) (h := itoaS) (z := ByteArray.empty) (l := cs) (f := (fun i32 y31 s32 => bd (PF.strconv_Itoa y31) (fun r127 => bd (ix s32 ((i32 : Nat) : Int)) (fun x138 => bd (put s32 ((i32 : Nat) : Int) r127) (fun xs143 => some (Lp.nx xs143)))))) (fun _ _ _ => rfl) (fun y hy => impl_num (hc y hy)) (by unfold lim; omega)
    rw [len_eq, mk2_ok (by unfold lim; omega), bd_some] at e ⊢
    have hj : (Go.Lib.join ((cs.map itoaS).map bL) (bL (ByteArray.mk #[32]))) = Go.Lib.join (cs.map Go.Lib.itoa) [32] := by
      rw [List.map_map]
      exact congrArg (fun l => Go.Lib.join l [32]) (List.map_congr_left fun x _ => bL_itoa x)
    have hjl : (Go.Lib.join (cs.map Go.Lib.itoa) [32]).length ≤ 1000000 := by
      have := join_len (sep := [32]) (B := 100) (l := cs.map Go.Lib.itoa) fun x hx => by
        obtain ⟨m, hm, rfl⟩ := List.mem_map.1 hx; exact itoa_len (hc m hm)
      rw [List.length_map] at this
      simp only [List.length_cons, List.length_nil] at this
      omega
    cases hq : forL (S := List ByteArray) (X := Empty) cs (fun i32 y31 s32 => bd (PF.strconv_Itoa y31) (fun r127 => bd (ix s32 ((i32 : Nat) : Int)) (fun x138 => bd (put s32 ((i32 : Nat) : Int) r127) (fun xs143 => some (Lp.nx xs143))))) (List.replicate cs.length ByteArray.empty) with
    | none => rw [hq] at e; cases e
    | some q =>
      cases q with
      | rt x => exact x.elim
      | go s =>
        rw [hq, bdR_go] at e
        cases e
        rw [bdR_go, join_ok (by rw [List.length_map]; omega) (by rw [hj]; exact hjl), bd_some, bd_some, hj]
/-! steps -/
def restT (x : ResStep) (s : ByteArray) : ByteArray :=
  bif decide (x.left < 0) then s ++ (ByteArray.mk #[32, 97, 120, 105, 111, 109, 32]) ++ itoaS x.right
  else bif decide (x.right < 0) then s ++ (ByteArray.mk #[32, 102, 114, 111, 109, 32]) ++ itoaS x.left
  else s ++ (ByteArray.mk #[32, 102, 114, 111, 109, 32]) ++ itoaS x.left ++ (ByteArray.mk #[32, 97, 110, 100, 32]) ++ itoaS x.right ++ (ByteArray.mk #[32, 111, 110, 32]) ++ itoaS x.pivot
def headT (i : Nat) (x : ResStep) (s : ByteArray) : ByteArray := s ++ (ByteArray.mk #[58, 32]) ++ clT x.clause
def stepT (i : Nat) (x : ResStep) : ByteArray := restT x (itoaS (i : Int) ++ (ByteArray.mk #[58, 32]) ++ clT x.clause)
theorem restT_app (x : ResStep) (a b : ByteArray) : restT x (a ++ b) = a ++ restT x b := by
  apply bL_ext
  unfold restT
  cases decide (x.left < 0) <;> cases decide (x.right < 0) <;> simp only [cond_true, cond_false, bL_app, List.append_assoc]
structure SOk (x : ResStep) : Prop where
  cl : x.clause.length ≤ 12
  lit : ∀ n ∈ x.clause, sml n
  l : sml x.left
  r : sml x.right
  p : sml x.pivot
  k1 : (x.left == -1) = decide (x.left < 0)
  k2 : (decide (x.left < 0) = false) → (x.right == -1) = decide (x.right < 0)
theorem restT_sz {x : ResStep} (h : SOk x) (s : ByteArray) : (restT x s).size ≤ s.size + 400 := by
  have h1 := itoa_sz (sml_ok h.l); have h2 := itoa_sz (sml_ok h.r); have h3 := itoa_sz (sml_ok h.p)
  have c1 : (ByteArray.mk #[32, 97, 120, 105, 111, 109, 32]).size = 7 := rfl
  have c2 : (ByteArray.mk #[32, 102, 114, 111, 109, 32]).size = 6 := rfl
  have c3 : (ByteArray.mk #[32, 97, 110, 100, 32]).size = 5 := rfl
  have c4 : (ByteArray.mk #[32, 111, 110, 32]).size = 4 := rfl
  unfold restT
  cases decide (x.left < 0) <;> cases decide (x.right < 0) <;> simp only [cond_true, cond_false, cat_sz] <;> omega
theorem stepT_sz {x : ResStep} (h : SOk x) {i : Nat} (hi : i ≤ 1000) : (stepT i x).size ≤ 1900 := by
  unfold stepT
  have h1 := restT_sz h (itoaS (i : Int) ++ (ByteArray.mk #[58, 32]) ++ clT x.clause)
  have h2 := itoa_sz (sml_ok (n := (i : Int)) ⟨by omega, by omega⟩)
  have h3 := clT_sz h.cl h.lit
  have h4 : (ByteArray.mk #[58, 32]).size = 2 := rfl
  simp only [cat_sz] at h1
  omega
theorem isD_sok {F : Cnf} {S : List ResStep} (h : IsD F S) {i : Nat} {x : ResStep} (hx : S[i]? = some x) : SOk x := by
  have hc := h.clause (List.mem_of_getElem? hx)
  have hi := (List.getElem?_eq_some_iff.1 hx).1
  have hle := h.le
  have hcn := h.cnf
  unfold cnfB at hcn
  rw [Bool.and_eq_true, Bool.and_eq_true, decide_eq_true_eq, len_eq] at hcn
  have hF := hcn.1.2
  have hv := hc.hi
  have hn := h.nums hx
  rw [len_eq] at hn
  refine ⟨hc.len, fun n hn => by have := hc.lit n hn; exact ⟨by omega, by omega⟩, ⟨by omega, by omega⟩, ⟨by omega, by omega⟩, ⟨by omega, by omega⟩, ?_, fun hd => ?_⟩
  · rw [Bool.eq_iff_iff, beq_iff_eq, decide_eq_true_eq]; omega
  · have := of_decide_eq_false hd
    rw [Bool.eq_iff_iff, beq_iff_eq, decide_eq_true_eq]; omega
theorem impl_stepText_eq {x : ResStep} (h : SOk x) {i : Nat} (hi : i ≤ 1000) : impl_stepText (i : Int) x = some (stepT i x) := by
  have hsi : sml (i : Int) := ⟨by omega, by omega⟩
  have h0 := itoa_sz (sml_ok hsi)
  have h1 := itoa_sz (sml_ok h.l); have h2 := itoa_sz (sml_ok h.r); have h3 := itoa_sz (sml_ok h.p)
  have h4 := clT_sz h.cl h.lit
  have c0 : (ByteArray.mk #[58, 32]).size = 2 := rfl
  have c1 : (ByteArray.mk #[32, 97, 120, 105, 111, 109, 32]).size = 7 := rfl
  have c2 : (ByteArray.mk #[32, 102, 114, 111, 109, 32]).size = 6 := rfl
  have c3 : (ByteArray.mk #[32, 97, 110, 100, 32]).size = 5 := rfl
  have c4 : (ByteArray.mk #[32, 111, 110, 32]).size = 4 := rfl
  unfold impl_stepText stepT restT impl_ResStep_isAxiom impl_ResStep_isWeakening
  rw [impl_num hsi, bd_some, catS_ok (by omega), bd_some, impl_clauseText_eq h.cl h.lit, bd_some, catS_ok (by rw [cat_sz]; omega), bd_some]
  have hz : (itoaS (i : Int) ++ (ByteArray.mk #[58, 32]) ++ clT x.clause).size ≤ 1500 := by simp only [cat_sz]; omega
  generalize itoaS (i : Int) ++ (ByteArray.mk #[58, 32]) ++ clT x.clause = z at hz ⊢
  cases hl : decide (x.left < 0) with
  | true =>
    simp only [cond_true]
    rw [catS_ok (by omega), bd_some, impl_num h.r, bd_some, catS_ok (by rw [cat_sz]; omega), bd_some]
  | false =>
    have := of_decide_eq_false hl
    rw [show decide (0 ≤ x.left) = true by rw [decide_eq_true_eq]; omega]
    simp only [cond_true, cond_false]
    cases hr : decide (x.right < 0) with
    | true =>
      simp only [cond_true]
      rw [catS_ok (by omega), bd_some, impl_num h.l, bd_some, catS_ok (by rw [cat_sz]; omega), bd_some]
    | false =>
      simp only [cond_false]
      rw [catS_ok (by omega), bd_some, impl_num h.l, bd_some, catS_ok (by rw [cat_sz]; omega), bd_some, catS_ok (by simp only [cat_sz]; omega), bd_some, impl_num h.r, bd_some, catS_ok (by simp only [cat_sz]; omega), bd_some,
        catS_ok (by simp only [cat_sz]; omega), bd_some, impl_num h.p, bd_some, catS_ok (by simp only [cat_sz]; omega), bd_some]
theorem sp_tail {x : ResStep} (h : SOk x) {i : Nat} (hi : i ≤ 1000) {s : ByteArray} (hs : s.size ≤ 990000) :
    (bd (PF.spec_l1Num ((i : Nat) : Int)) (fun r => bd (catS s r) (fun z1 => bd (catS z1 (ByteArray.mk #[58, 32])) (fun z2 => bd (PF.spec_l2Text x.clause) (fun r2 => bd (catS z2 r2) (fun z3 => (bif (x.left == (-1)) then bd (catS z3 (ByteArray.mk #[32, 97, 120, 105, 111, 109, 32])) (fun z4 => bd (PF.spec_l1Num x.right) (fun r4 => bd (catS z4 r4) (fun z5 => some (Lp.nx (S := ByteArray) (X := Empty) z5)))) else (bif (x.right == (-1)) then bd (catS z3 (ByteArray.mk #[32, 102, 114, 111, 109, 32])) (fun z4 => bd (PF.spec_l1Num x.left) (fun r4 => bd (catS z4 r4) (fun z5 => some (Lp.nx z5)))) else bd (catS z3 (ByteArray.mk #[32, 102, 114, 111, 109, 32])) (fun z4 => bd (PF.spec_l1Num x.left) (fun r4 => bd (catS z4 r4) (fun z5 => bd (catS z5 (ByteArray.mk #[32, 97, 110, 100, 32])) (fun z6 => bd (PF.spec_l1Num x.right) (fun r6 => bd (catS z6 r6) (fun z7 => bd (catS z7 (ByteArray.mk #[32, 111, 110, 32])) (fun z8 => bd (PF.spec_l1Num x.pivot) (fun r8 => bd (catS z8 r8) (fun z9 => some (Lp.nx z9)))))))))))))))))) = some (Lp.nx (s ++ stepT i x)) := by
  have hsi : sml (i : Int) := ⟨by omega, by omega⟩
  have h0 := itoa_sz (sml_ok hsi)
  have h1 := itoa_sz (sml_ok h.l); have h2 := itoa_sz (sml_ok h.r); have h3 := itoa_sz (sml_ok h.p)
  have h4 := clT_sz h.cl h.lit
  have c0 : (ByteArray.mk #[58, 32]).size = 2 := rfl
  have c1 : (ByteArray.mk #[32, 97, 120, 105, 111, 109, 32]).size = 7 := rfl
  have c2 : (ByteArray.mk #[32, 102, 114, 111, 109, 32]).size = 6 := rfl
  have c3 : (ByteArray.mk #[32, 97, 110, 100, 32]).size = 5 := rfl
  have c4 : (ByteArray.mk #[32, 111, 110, 32]).size = 4 := rfl
  have es : s ++ stepT i x = restT x (s ++ itoaS (i : Int) ++ (ByteArray.mk #[58, 32]) ++ clT x.clause) := by
    unfold stepT
    rw [← restT_app]
    congr 1
    apply bL_ext
    simp only [bL_app, List.append_assoc]
  rw [es]
  unfold restT
  rw [spec_num hsi, bd_some, catS_ok (by omega), bd_some, catS_ok (by rw [cat_sz]; omega), bd_some, spec_l2Text_eq h.cl h.lit, bd_some, catS_ok (by simp only [cat_sz]; omega), bd_some]
  have hz : (s ++ itoaS (i : Int) ++ (ByteArray.mk #[58, 32]) ++ clT x.clause).size ≤ 995000 := by simp only [cat_sz]; omega
  generalize s ++ itoaS (i : Int) ++ (ByteArray.mk #[58, 32]) ++ clT x.clause = z at hz ⊢
  rw [h.k1]
  cases hl : decide (x.left < 0) with
  | true =>
    simp only [cond_true]
    rw [catS_ok (by omega), bd_some, spec_num h.r, bd_some, catS_ok (by rw [cat_sz]; omega), bd_some]
  | false =>
    simp only [cond_false]
    rw [h.k2 hl]
    cases hr : decide (x.right < 0) with
    | true =>
      simp only [cond_true]
      rw [catS_ok (by omega), bd_some, spec_num h.l, bd_some, catS_ok (by rw [cat_sz]; omega), bd_some]
    | false =>
      simp only [cond_false]
      rw [catS_ok (by omega), bd_some, spec_num h.l, bd_some, catS_ok (by rw [cat_sz]; omega), bd_some, catS_ok (by simp only [cat_sz]; omega), bd_some, spec_num h.r, bd_some, catS_ok (by simp only [cat_sz]; omega), bd_some,
        catS_ok (by simp only [cat_sz]; omega), bd_some, spec_num h.p, bd_some, catS_ok (by simp only [cat_sz]; omega), bd_some]
def sepT : ByteArray := ByteArray.mk #[59, 32]
def partsT : Nat → List ResStep → List ByteArray
  | _, [] => []
  | i, x :: l => stepT i x :: partsT (i + 1) l
def tailT : Nat → List ResStep → ByteArray → ByteArray
  | _, [], s => s
  | i, x :: l, s => tailT (i + 1) l ((bif decide (0 < (i : Int)) then s ++ sepT else s) ++ stepT i x)
theorem parts_len : ∀ {l : List ResStep} {i : Nat}, (partsT i l).length = l.length
  | [], _ => rfl
  | x :: l, i => by rw [partsT, List.length_cons, List.length_cons, parts_len]
theorem parts_sz : ∀ {l : List ResStep} {i : Nat}, (∀ x ∈ l, SOk x) → i + l.length ≤ 1000 → ∀ b ∈ partsT i l, b.size ≤ 1900
  | [], _, _, _, b, hb => nomatch hb
  | x :: l, i, h, hi, b, hb => by
    rw [partsT] at hb
    simp only [List.length_cons] at hi
    rcases List.mem_cons.1 hb with rfl | hb
    · exact stepT_sz (h x (by simp)) (by omega)
    · exact parts_sz (fun y hy => h y (by simp [hy])) (by omega) b hb
theorem tailT_bL : ∀ {l : List ResStep} {i : Nat} {s : ByteArray}, 0 < i → bL (tailT i l s) = bL s ++ Go.Lib.joinTail (bL sepT) ((partsT i l).map bL)
  | [], i, s, _ => by simp [tailT, partsT, Go.Lib.joinTail]
  | x :: l, i, s, h => by
    rw [tailT, tailT_bL (by omega), partsT, show decide (0 < (i : Int)) = true by rw [decide_eq_true_eq]; omega, cond_true, bL_app, bL_app]
    simp [Go.Lib.joinTail, List.append_assoc]
theorem tailT_join (l : List ResStep) : bL (tailT 0 l (ByteArray.mk #[])) = Go.Lib.join ((partsT 0 l).map bL) (bL sepT) := by
  cases l with
  | nil => rfl
  | cons x l =>
    rw [tailT, tailT_bL (by omega), partsT, show decide (0 < ((0 : Nat) : Int)) = false from rfl, cond_false, bL_app, List.map_cons, Go.Lib.join_cons]
    rfl
theorem spec_loop {f : Nat → ResStep → ByteArray → Option (Lp ByteArray Empty)} (hf : ∀ (i : Nat) x s, SOk x → i ≤ 1000 → s.size ≤ 980000 → f i x s = some (.nx ((bif decide (0 < (i : Int)) then s ++ sepT else s) ++ stepT i x))) :
    ∀ {l : List ResStep} {i : Nat} {s : ByteArray}, (∀ x ∈ l, SOk x) → i + l.length ≤ 1000 → s.size + 2000 * l.length ≤ 900000 → forLFrom f l i s = some (.go (tailT i l s)) := by
  intro l
  induction l with
  | nil => intro i s _ _ _; rfl
  | cons x l ih =>
    intro i s h hi hs
    simp only [List.length_cons] at hi hs
    have hx := h x (by simp)
    have hz := stepT_sz hx (i := i) (by omega)
    have c : sepT.size = 2 := rfl
    rw [forLFrom_nx (hf i x s hx (by omega) (by omega)), tailT]
    refine ih (fun y hy => h y (by simp [hy])) (by omega) ?_
    rw [cat_sz]
    cases decide (0 < (i : Int)) with
    | true => rw [cond_true, cat_sz]; omega
    | false => rw [cond_false]; omega
theorem impl_loop {f : Nat → ResStep → List ByteArray → Option (Lp (List ByteArray) Empty)} (hf : ∀ (i : Nat) x s, SOk x → i ≤ 1000 → s.length ≤ 1000 → f i x s = some (.nx (s ++ [stepT i x]))) :
    ∀ {l : List ResStep} {i : Nat} {s : List ByteArray}, (∀ x ∈ l, SOk x) → i + l.length ≤ 1000 → s.length + l.length ≤ 1000 → forLFrom f l i s = some (.go (s ++ partsT i l)) := by
  intro l
  induction l with
  | nil => intro i s _ _ _; rw [partsT, List.append_nil]; rfl
  | cons x l ih =>
    intro i s h hi hs
    simp only [List.length_cons] at hi hs
    rw [forLFrom_nx (hf i x s (h x (by simp)) (by omega) (by omega)), ih (fun y hy => h y (by simp [hy])) (by omega) (by simp; omega), partsT, List.append_assoc]
    rfl
theorem both_DerivationText {F : Cnf} {S : List ResStep} (hF : okCnf F) (hS : okL okResStep S) : ∃ g, spec_DerivationText F S = some g ∧ impl_DerivationText F S = some g := by
  unfold spec_DerivationText impl_DerivationText
  rw [spec_l7Good_eq hF hS, impl_IsDerivation_eq hF hS, bd_some, bd_some]
  cases h : derB F S with
  | false => exact ⟨_, rfl, rfl⟩
  | true =>
    have hd := derB_iff.1 h
    have hle := hd.le
    have hok : ∀ x ∈ S, SOk x := fun x hx => by
      obtain ⟨i, hi⟩ := List.mem_iff_getElem?.1 hx
      exact isD_sok hd hi
    have hpl := parts_len (l := S) (i := 0)
    have hps := parts_sz (l := S) (i := 0) hok (by omega)
    have hj : (Go.Lib.join ((partsT 0 S).map bL) (bL sepT)).length ≤ 1000000 := by
      have := join_len (sep := bL sepT) (B := 1900) (l := (partsT 0 S).map bL) fun y hy => by
        obtain ⟨b, hb, rfl⟩ := List.mem_map.1 hy
        rw [bL_len]; exact hps b hb
      rw [List.length_map, hpl, show (bL sepT).length = 2 from rfl] at this
      have : S.length * (1900 + 2) ≤ 200 * 1902 := Nat.mul_le_mul hle (Nat.le_refl _)
      omega
    simp only [Bool.not_true, cond_false]
    unfold forL
    refine ⟨(tailT 0 S (ByteArray.mk #[]), true), ?_, ?_⟩
    · rw [spec_loop (fun i x s hx hi hs => ?_) hok (by omega) (by show 0 + _ ≤ _; omega), bdR_go]
      have c : sepT.size = 2 := rfl
      cases hdi : decide (0 < ((i : Nat) : Int)) with
      | true =>
        simp only [cond_true]
        rw [show (ByteArray.mk #[59, 32]) = sepT from rfl, catS_ok (by omega), bd_some]
        exact sp_tail hx hi (by rw [cat_sz]; omega)
      | false =>
        simp only [cond_false]
        exact sp_tail hx hi (by omega)
    · rw [impl_loop (fun i x s hx hi hs => ?_) hok (by omega) (by simp; omega), bdR_go, List.nil_append, show (ByteArray.mk #[59, 32]) = sepT from rfl, join_ok (by omega) hj, bd_some]
      · congr 2
        apply bL_ext
        rw [tailT_join]
        exact bL_mk _
      · rw [impl_stepText_eq hx hi, bd_some, app_ok (by unfold lim; simp; omega), bd_some]
theorem plain_DerivationText (a0 : Cnf) (a1 : List ResStep) (o0 : okCnf a0) (o1 : okL okResStep a1) : laws_FnExactDerivationText a0 a1 = some true := by
  unfold laws_FnExactDerivationText
  obtain ⟨r0, q0, z0⟩ := sz_Cnf o0 (s := 1048576) (by omega) (by omega)
  rw [q0, bd_some]
  by_cases n0 : r0 < 0
  · simp [n0]
  obtain ⟨r1, q1, z1⟩ := sz_ResStepS o1 (s := r0) (by omega) (by omega)
  simp only [n0, decide_false, cond_false]
  rw [q1, bd_some]
  by_cases n1 : r1 < 0
  · simp [n1]
  simp only [n1, decide_false, cond_false]
  have t0 := to_Cnf (a := a0) (by unfold lim; omega)
  have t1 := to_ResStepS (a := a1) (by unfold lim; omega)
  obtain ⟨g, hs, hi⟩ := both_DerivationText o0 o1
  simp only [t0, t1, hs, hi, bd_some, eq_ResStepS, eq_Cnf, BEq.rfl, Bool.not_true, cond_false, bif_tt, Bool.or_false]
end Go.PF
