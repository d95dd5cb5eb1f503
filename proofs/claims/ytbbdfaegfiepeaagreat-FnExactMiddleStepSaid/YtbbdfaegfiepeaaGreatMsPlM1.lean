/- MiddleStep: the tables of the pigeonhole clauses and of the critical assignments, at one, two and three holes. -/
import Derived.Test.YtbbdfaegfiepeaaGreatMsPl8
import Derived.Test.YtbbdfaegfiepeaaGreatMsPl15
set_option linter.unusedVariables false
namespace Go.PF
open Go.Pu
/-- what is left where f deletes -/
def delC (f : Int → Option Bool) : List Int → Option (List Int)
  | [] => some []
  | y :: l => bd (f y) fun b => bd (delC f l) fun r => some (bif b then r else y :: r)
theorem delC_some {f : Int → Option Bool} : ∀ {l r : List Int}, delC f l = some r → (∀ y ∈ l, f y = some ((f y).getD false)) ∧ r = l.filter fun y => !(f y).getD false := by
  intro l
  induction l with
  | nil => intro r h; cases h; exact ⟨nofun, rfl⟩
  | cons y l ih =>
    intro r h
    unfold delC at h
    obtain ⟨b, hb, h⟩ := bnd h
    obtain ⟨q, hq, h⟩ := bnd h
    obtain ⟨h1, h2⟩ := ih hq
    refine ⟨fun z hz => ?_, ?_⟩
    · rcases List.mem_cons.1 hz with e | e
      · rw [e, hb]; rfl
      · exact h1 z e
    · have hb' : (f y).getD false = b := by rw [hb]; rfl
      cases h
      rw [List.filter_cons, hb', h2]
      cases b <;> rfl
theorem delC_le {f : Int → Option Bool} {l : List Int} (hl : l.length ≤ lim) : Le (delC f l) (slices_DeleteFunc_int_int l f) := by
  constructor
  intro r h
  obtain ⟨h1, h2⟩ := delC_some h
  rw [slices_DeleteFunc_int_int_eq h1 hl, h2]
/-- a clause that stands in order stays as it is -/
def mustC (c : List Int) : Option (List Int) := bif clauseB 12 c then some c else none
theorem mustC_le (c : List Int) : Le (mustC c) (impl_mustClause c) := by
  constructor
  intro r h
  unfold mustC at h
  rcases ifB h with ⟨h1, h⟩ | ⟨h1, h⟩
  · cases h
    have hc := clauseB_iff.1 h1
    have hl := hc.len
    have := clause_joined (a := c) (b := []) hc.srt List.Pairwise.nil hc.sm nofun (by simp; unfold lim; omega)
    rw [List.append_nil] at this
    unfold impl_mustClause
    rw [this]; rfl
  · cases h
def c_spec_l17Cnf (a0 : Int) : Option Cnf :=
  bdR (iterC 8 (S := ((List (List Int)) × Int × Int)) (X := Empty) (fun s37 => (bif (decide (s37.2.2 ≤ (wr (a0 + 1)))) then bdR (iterC 8 (S := ((List Int) × Int)) (X := Empty) (fun s257 => (bif (decide (s257.2 ≤ a0)) then bd (app s257.1 [(PF.spec_l17Var a0 s37.2.2 s257.2)]) (fun xs313 => some (Lp.nx (xs313, (wr (s257.2 + 1))))) else some (Lp.bk (s257.1, s257.2)))) ([], 1)) (fun s257 => bd (app s37.1 [s257.1]) (fun xs346 => some (Lp.nx (xs346, s37.2.1, (wr (s37.2.2 + 1)))))) (fun x257 => nomatch x257) else some (Lp.bk (s37.1, s37.2.1, s37.2.2)))) ([], (wr (a0 * (wr (a0 + 1)))), 1)) (fun s37 => bdR (iterC 8 (S := ((List (List Int)) × Int × Int)) (X := Empty) (fun s371 => (bif (decide (s371.2.2 ≤ a0)) then bdR (iterC 8 (S := ((List (List Int)) × Int × Int)) (X := Empty) (fun s456833 => (bif (decide (s456833.2.2 ≤ (wr (a0 + 1)))) then bdR (iterC 8 (S := ((List (List Int)) × Int × Int)) (X := Empty) (fun s685038 => (bif (decide (s685038.2.2 ≤ (wr (a0 + 1)))) then bd (app s685038.1 [[(wr (-(PF.spec_l17Var a0 s456833.2.2 s371.2.2))), (wr (-(PF.spec_l17Var a0 s685038.2.2 s371.2.2)))]]) (fun xs844112 => some (Lp.nx (xs844112, s685038.2.1, (wr (s685038.2.2 + 1))))) else some (Lp.bk (s685038.1, s685038.2.1, s685038.2.2)))) (s456833.1, s456833.2.1, (wr (s456833.2.2 + 1)))) (fun s685038 => some (Lp.nx (s685038.1, s685038.2.1, (wr (s456833.2.2 + 1))))) (fun x685038 => nomatch x685038) else some (Lp.bk (s456833.1, s456833.2.1, s456833.2.2)))) (s371.1, s371.2.1, 1)) (fun s456833 => some (Lp.nx (s456833.1, s456833.2.1, (wr (s371.2.2 + 1))))) (fun x456833 => nomatch x456833) else some (Lp.bk (s371.1, s371.2.1, s371.2.2)))) (s37.1, s37.2.1, 1)) (fun s371 => some (Cnf.mk s371.2.1 s371.1)) (fun x371 => nomatch x371)) (fun x37 => nomatch x37)
def c_spec_l28Critical (a0 : Int) (a1 : Int) : Option Int :=
  bdR (iterC 6 (S := Int) (X := Int) (fun s22 => (bif (decide (s22 ≤ a0)) then bdR (iterC 6 (S := (Int × Int)) (X := Empty) (fun s83 => (bif (decide (s83.2 ≤ (wr (a0 + 1)))) then bd (nn (wr ((PF.spec_l17Var a0 s83.2 s22) - 1))) (fun u117 => some (Lp.nx ((wr (s83.1 + (andK true 64 (shrK 64 a1 (wr ((PF.spec_l17Var a0 s83.2 s22) - 1))) 1))), (wr (s83.2 + 1))))) else some (Lp.bk (s83.1, s83.2)))) (0, 1)) (fun s83 => (bif (!(s83.1 == 1)) then some (Lp.rt 0) else some (Lp.nx (wr (s22 + 1))))) (fun x83 => nomatch x83) else some (Lp.bk s22))) 1) (fun s22 => bdR (iterC 6 (S := (Int × Int)) (X := Int) (fun s139 => (bif (decide (s139.2 ≤ (wr (a0 + 1)))) then bdR (iterC 6 (S := (Int × Int)) (X := Empty) (fun s203 => (bif (decide (s203.2 ≤ a0)) then bd (nn (wr ((PF.spec_l17Var a0 s139.2 s203.2) - 1))) (fun u237 => some (Lp.nx ((wr (s203.1 + (andK true 64 (shrK 64 a1 (wr ((PF.spec_l17Var a0 s139.2 s203.2) - 1))) 1))), (wr (s203.2 + 1))))) else some (Lp.bk (s203.1, s203.2)))) (0, 1)) (fun s203 => (bif (decide (1 < s203.1)) then some (Lp.rt 0) else (bif (s203.1 == 0) then some (Lp.nx (s139.2, (wr (s139.2 + 1)))) else some (Lp.nx (s139.1, (wr (s139.2 + 1))))))) (fun x203 => nomatch x203) else some (Lp.bk (s139.1, s139.2)))) (0, 1)) (fun s139 => some s139.1) (fun x139 => some x139)) (fun x22 => some x22)
def c_impl_upTo (a0 : Int) : Option (List Int) :=
  bdR (iterC 6 (S := ((List Int) × Int)) (X := Empty) (fun s22 => (bif (decide (s22.2 ≤ a0)) then bd (app s22.1 [s22.2]) (fun xs66 => some (Lp.nx (xs66, (wr (s22.2 + 1))))) else some (Lp.bk (s22.1, s22.2)))) ([], 1)) (fun s22 => some s22.1) (fun x22 => nomatch x22)
def c_impl_leftOf (U : List Int) (a0 : Int) (a1 : Int) : Option Int :=
  bdR (iterC 6 (S := (Int × (List Int) × Int)) (X := Int) (fun s21 => (bif (decide (s21.2.2 ≤ (wr (a0 + 1)))) then bd (delC (fun x0 => PF.impl_holesOf_1 x0 a1 a0 s21.2.2) U) (fun r148 => (bif (bif ((len r148) == 0) then (s21.1 == 0) else false) then some (Lp.nx (s21.2.2, s21.2.1, (wr (s21.2.2 + 1)))) else bd (bif (!((len r148) == 1)) then some true else bd (ix r148 0) (fun x204 => bd (PF.slices_Contains_int_int s21.2.1 x204) (fun r211 => some r211))) (fun t191 => (bif t191 then some (Lp.rt 0) else bd (ix r148 0) (fun x230 => bd (app s21.2.1 [x230]) (fun xs237 => some (Lp.nx (s21.1, xs237, (wr (s21.2.2 + 1)))))))))) else some (Lp.bk (s21.1, s21.2.1, s21.2.2)))) (0, [], 1)) (fun s21 => some s21.1) (fun x21 => some x21)
def c_impl_Pigeonhole (a0 : Int) (a1 : Int) : Option (Cnf × Bool) :=
  (bif (bif (!(PF.impl_within a0 0 12)) then true else (!(PF.impl_within a1 0 12))) then some ((Cnf.mk 0 []), false) else bd (chk a0) (fun m55 => bdR (forR (S := ((List (List Int)) × Int)) (X := Empty) 0 m55 (fun i56 s56 => bdR (iterC 8 (S := ((List Int) × Int)) (X := Empty) (fun s84264 => (bif (decide (s84264.2 ≤ a1)) then bd (app s84264.1 [(wr ((wr (((i56 : Nat) : Int) * a1)) + s84264.2))]) (fun xs84320 => some (Lp.nx (xs84320, (wr (s84264.2 + 1))))) else some (Lp.bk (s84264.1, s84264.2)))) ([], 1)) (fun s84264 => bd (β := _) (bd (mustC s84264.1) (fun r147365 => bd (app s56.1 [r147365]) (fun xs153360 => some (xs153360, s56.2))) : Option ((List (List Int)) × Int)) (fun s126354 => some (Lp.nx (s126354.1, s126354.2)))) (fun x84264 => nomatch x84264)) ([], (wr (a0 * a1)))) (fun s56 => bdR (iterC 8 (S := ((List (List Int)) × Int × Int)) (X := Empty) (fun s168387 => (bif (decide (s168387.2.2 ≤ a1)) then bd (chk a0) (fun m504988 => bdR (forR (S := ((List (List Int)) × Int)) (X := Empty) 0 m504988 (fun i504989 s504989 => bdR (iterC 8 (S := ((List (List Int)) × Int × Int)) (X := Empty) (fun s673259 => (bif (decide (s673259.2.2 < a0)) then bd (β := _) (bd (mustC [(wr (-(wr ((wr (((i504989 : Nat) : Int) * a1)) + s168387.2.2)))), (wr (-(wr ((wr (s673259.2.2 * a1)) + s168387.2.2))))]) (fun r820388 => bd (app s673259.1 [r820388]) (fun xs826383 => some (xs826383, s673259.2.1))) : Option ((List (List Int)) × Int)) (fun s799377 => some (Lp.nx (s799377.1, s799377.2, (wr (s673259.2.2 + 1))))) else some (Lp.bk (s673259.1, s673259.2.1, s673259.2.2)))) (s504989.1, s504989.2, (wr (((i504989 : Nat) : Int) + 1)))) (fun s673259 => some (Lp.nx (s673259.1, s673259.2.1))) (fun x673259 => nomatch x673259)) (s168387.1, s168387.2.1)) (fun s504989 => some (Lp.nx (s504989.1, s504989.2, (wr (s168387.2.2 + 1))))) (fun x504989 => nomatch x504989)) else some (Lp.bk (s168387.1, s168387.2.1, s168387.2.2)))) (s56.1, s56.2, 1)) (fun s168387 => bd (PF.impl_family_cnf (family.mk s168387.2.1 s168387.1)) (fun r841449 => some (r841449.1, r841449.2.1))) (fun x168387 => nomatch x168387)) (fun x56 => nomatch x56)))
theorem c_l17 (n : Int) : Le (c_spec_l17Cnf n) (spec_l17Cnf n) := by
  unfold c_spec_l17Cnf spec_l17Cnf; (repeat' first | with_reducible exact Le.rfl' _ | assumption | with_reducible apply iterC_le | with_reducible apply bdR_le | with_reducible apply bd_le | with_reducible apply forR_le | with_reducible apply bif_le | exact Empty.elim (by assumption) | intro _)
theorem c_l28 (n a : Int) : Le (c_spec_l28Critical n a) (spec_l28Critical n a) := by
  unfold c_spec_l28Critical spec_l28Critical; (repeat' first | with_reducible exact Le.rfl' _ | assumption | with_reducible apply iterC_le | with_reducible apply bdR_le | with_reducible apply bd_le | with_reducible apply forR_le | with_reducible apply bif_le | exact Empty.elim (by assumption) | intro _)
theorem c_up (n : Int) : Le (c_impl_upTo n) (impl_upTo n) := by
  unfold c_impl_upTo impl_upTo; (repeat' first | with_reducible exact Le.rfl' _ | assumption | with_reducible apply iterC_le | with_reducible apply bdR_le | with_reducible apply bd_le | with_reducible apply forR_le | with_reducible apply bif_le | exact Empty.elim (by assumption) | intro _)
theorem c_hole (m n : Int) : Le (c_impl_Pigeonhole m n) (impl_Pigeonhole m n) := by
  unfold c_impl_Pigeonhole impl_Pigeonhole
  repeat' first | with_reducible exact Le.rfl' _ | exact mustC_le _ | with_reducible apply iterC_le | with_reducible apply bdR_le | with_reducible apply bd_le | with_reducible apply forR_le | with_reducible apply bif_le | exact Empty.elim (by assumption) | intro _
theorem c_holes {U : List Int} {n a p : Int} (h : impl_upTo n = some U) (hl : U.length ≤ lim) : Le (delC (fun x0 => PF.impl_holesOf_1 x0 a n p) U) (impl_holesOf n a p) := by
  constructor
  intro r e
  unfold impl_holesOf
  rw [h, bd_some, (delC_le hl).le _ e]; rfl
theorem c_left {U : List Int} {n a : Int} (h : impl_upTo n = some U) (hl : U.length ≤ lim) : Le (c_impl_leftOf U n a) (impl_leftOf n a) := by
  unfold c_impl_leftOf impl_leftOf
  repeat' first | with_reducible exact Le.rfl' _ | exact c_holes h hl | with_reducible apply iterC_le | with_reducible apply bdR_le | with_reducible apply bd_le | with_reducible apply forR_le | with_reducible apply bif_le | exact Empty.elim (by assumption) | intro _
end Go.PF
