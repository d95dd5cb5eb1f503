/- DropWeakenings: the law. -/
import Derived.Test.YtmpfnnkmplkfoaaGreatPtPl8
set_option linter.unusedVariables false
namespace Go.PF
open Go.Pu
theorem wrap_len {A : Type} {xs : List A} (h : xs.length ≤ 1000000) : wr (len xs - 1) = len xs - 1 := wr_of _ (by rw [len_eq]; omega) (by rw [len_eq]; omega)
theorem res_isC {V : Int} {a b : List Int} {v : Int} (ha : IsC V a) (hb : IsC V b) : IsC V (res a b v).1 := by
  have hnil : IsC V [] := ⟨ha.lo, ha.hi, nofun, .nil⟩
  unfold res
  cases !a.contains v || !b.contains (wr (-v)) with
  | true => exact hnil
  | false =>
    simp only [cond_false]
    have key : ∀ c, IsC V c → IsC V (without c v) := fun c hc => ⟨hc.lo, hc.hi, fun l hl => hc.lit l (List.mem_filter.1 hl).1, hc.srt.filter _⟩
    have wa := key a ha; have wb := key b hb
    have h := joinL_spec (b := without b v) (s := without a v) wa.srt wa.sm wb.srt wb.sm
    unfold joined
    by_cases hx : ∃ y ∈ without b v, -y ∈ without a v
    · rw [if_pos hx] at h; rw [h]; exact hnil
    · rw [if_neg hx] at h
      obtain ⟨t, ht, hs, hm⟩ := h
      rw [ht]
      exact ⟨ha.lo, ha.hi, fun l hl => by rcases (hm l).1 hl with h | h; · exact wa.lit l h
                                          · exact wb.lit l h, hs⟩
theorem bdR_foldI {S X α β : Type} {body : Nat → α → S → Option (Lp S X)} {k : S → Option β} {lx : X → Option β} {r : Option β} (g : S → α → S) {l : List α} {s : S} (I : Nat → S → Prop) (h0 : I 0 s)
    (h : ∀ i x t, l[i]? = some x → I i t → body i x t = some (.nx (g t x)) ∧ I (i + 1) (g t x)) (hk : I l.length (l.foldl g s) → k (l.foldl g s) = r) : bdR (forL l body s) k lx = r := by
  obtain ⟨h1, h2⟩ := forL_foldI g I h0 h
  rw [h1, bdR_go]; exact hk h2
def toA (to : List Int) (k : Int) : Int := (to[k.toNat]?).getD 0
structure WvOk (F : Cnf) (i : Nat) (w : List Int × List ResStep) : Prop where
  len : w.1.length = i
  le : w.2.length ≤ i
  inr : ∀ k ∈ w.1, 0 ≤ k ∧ k < w.2.length
  isC : ∀ s ∈ w.2, IsC F.vars s.clause
theorem WvOk.to {F : Cnf} {i : Nat} {w : List Int × List ResStep} (h : WvOk F i w) {k : Int} (h0 : 0 ≤ k) (h1 : k < i) :
    ix w.1 k = some (toA w.1 k) ∧ 0 ≤ toA w.1 k ∧ toA w.1 k < w.2.length := by
  obtain ⟨x, hx, hg⟩ := ix_of (xs := w.1) h0 (by rw [h.len]; exact h1)
  have e : toA w.1 k = x := by unfold toA; rw [hg]; rfl
  rw [e]
  exact ⟨hx, h.inr x (List.mem_of_getElem? hg)⟩
theorem WvOk.st {F : Cnf} {i : Nat} {w : List Int × List ResStep} (h : WvOk F i w) {k : Int} (h0 : 0 ≤ k) (h1 : k < w.2.length) :
    ∃ y, ix w.2 k = some y ∧ y.clause = clAt w.2 k ∧ IsC F.vars (clAt w.2 k) := by
  obtain ⟨y, hy, hg⟩ := ix_of (xs := w.2) h0 h1
  have e : clAt w.2 k = y.clause := by unfold clAt; rw [hg]
  exact ⟨y, hy, e.symm, by rw [e]; exact h.isC y (List.mem_of_getElem? hg)⟩
theorem WvOk.copy {F : Cnf} {i : Nat} {w : List Int × List ResStep} (h : WvOk F i w) {k : Int} (hk : 0 ≤ k ∧ k < w.2.length) : WvOk F (i + 1) (w.1 ++ [k], w.2) :=
  ⟨by simp [h.len], by have := h.le; simp only; omega, fun z hz => by
    rcases List.mem_append.1 hz with hz | hz
    · exact h.inr z hz
    · rw [List.mem_singleton.1 hz]; exact hk, h.isC⟩
theorem WvOk.add {F : Cnf} {i : Nat} {w : List Int × List ResStep} (h : WvOk F i w) {s : ResStep} (hs : IsC F.vars s.clause) : WvOk F (i + 1) (w.1 ++ [Pu.len w.2], w.2 ++ [s]) :=
  ⟨by simp [h.len], by have := h.le; simp; omega, fun z hz => by
    simp only [List.length_append, List.length_singleton]
    rcases List.mem_append.1 hz with hz | hz
    · have := h.inr z hz; omega
    · rw [List.mem_singleton.1 hz, len_eq]; omega, fun z hz => by
    rcases List.mem_append.1 hz with hz | hz
    · exact h.isC z hz
    · rw [List.mem_singleton.1 hz]; exact hs⟩
def wv (w : List Int × List ResStep) (x : ResStep) : List Int × List ResStep :=
  bif decide (x.left < 0) then (w.1 ++ [len w.2], w.2 ++ [x])
  else bif decide (x.right < 0) then (w.1 ++ [toA w.1 x.left], w.2)
  else bif !(clAt w.2 (toA w.1 x.left)).contains x.pivot then (w.1 ++ [toA w.1 x.left], w.2)
  else bif !(clAt w.2 (toA w.1 x.right)).contains (wr (-x.pivot)) then (w.1 ++ [toA w.1 x.right], w.2)
  else (w.1 ++ [len w.2], w.2 ++ [⟨(res (clAt w.2 (toA w.1 x.left)) (clAt w.2 (toA w.1 x.right)) x.pivot).1, toA w.1 x.left, toA w.1 x.right, x.pivot⟩])
theorem wv_ok {F : Cnf} {S : List ResStep} (h : IsD F S) {i : Nat} {x : ResStep} (hx : S[i]? = some x) {w : List Int × List ResStep} (hw : WvOk F i w) : WvOk F (i + 1) (wv w x) := by
  have hc := h.clause (List.mem_of_getElem? hx)
  unfold wv
  cases h1 : decide (x.left < 0) with
  | true => exact hw.add hc
  | false =>
    have hl : 0 ≤ x.left := by have := of_decide_eq_false h1; omega
    have hb := h.before hx hl
    have t1 := hw.to hl hb.1
    simp only [cond_false]
    cases h2 : decide (x.right < 0) with
    | true => exact hw.copy t1.2
    | false =>
      have hr : 0 ≤ x.right := by have := of_decide_eq_false h2; omega
      have t2 := hw.to hr (hb.2 hr)
      simp only [cond_false]
      cases !(clAt w.2 (toA w.1 x.left)).contains x.pivot with
      | true => exact hw.copy t1.2
      | false =>
        simp only [cond_false]
        cases !(clAt w.2 (toA w.1 x.right)).contains (wr (-x.pivot)) with
        | true => exact hw.copy t2.2
        | false =>
          obtain ⟨_, _, _, c1⟩ := hw.st t1.2.1 t1.2.2
          obtain ⟨_, _, _, c2⟩ := hw.st t2.2.1 t2.2.2
          exact hw.add (res_isC c1 c2)
def dropL (S : List ResStep) : List ResStep := match (S.foldl wv ([], [])).1.getLast? with | some k => (S.foldl wv ([], [])).2.take (k.toNat + 1) | none => []
theorem cut_last {w : List Int × List ResStep} {F : Cnf} {i : Nat} (hw : WvOk F i w) (hi : i ≤ 200) {k : Int} (hk : w.1.getLast? = some k) : cut w.2 0 (wr (k + 1)) = some (w.2.take (k.toNat + 1)) := by
  have := hw.inr k (List.mem_of_getLast? hk); have := hw.le
  rw [wr_of _ (by omega) (by omega)]
  unfold cut
  rw [if_pos (by omega), show (k + 1).toNat = k.toNat + 1 by omega]; simp
theorem last_ix {w : List Int} (hl : w.length ≤ 1000000) {k : Int} (hk : w.getLast? = some k) : ix w (wr (len w - 1)) = some k := by
  rw [wrap_len hl]
  rw [List.getLast?_eq_getElem?] at hk
  have h0 : w.length ≠ 0 := fun h => by rw [List.eq_nil_of_length_eq_zero h] at hk; cases hk
  unfold ix
  rw [if_pos (by rw [len_eq]; omega), show (len w - 1).toNat = w.length - 1 by rw [len_eq]; omega]; exact hk
theorem wv_fold {F : Cnf} {S : List ResStep} (h : IsD F S) : WvOk F S.length (S.foldl wv ([], [])) := by
  have key : ∀ n, n ≤ S.length → WvOk F n ((S.take n).foldl wv ([], [])) := by
    intro n
    induction n with
    | zero => intro _; exact ⟨rfl, Nat.le_refl _, nofun, nofun⟩
    | succ n ih =>
      intro hn
      obtain ⟨x, hx⟩ : ∃ x, S[n]? = some x := ⟨_, List.getElem?_eq_getElem (by omega)⟩
      rw [List.take_add_one, hx, List.foldl_append]
      exact wv_ok h hx (ih (by omega))
  have := key S.length (Nat.le_refl _)
  rwa [List.take_length] at this
def dropV (F : Cnf) (S : List ResStep) : List ResStep × Bool := bif derB F S then (dropL S, true) else ([], false)
theorem tot_leD {A : Type} {wt : A → Nat} {n : Nat} : ∀ {l : List A}, (∀ x ∈ l, wt x ≤ n) → tot wt l ≤ n * l.length := by
  intro l
  induction l with
  | nil => intro _; simp [tot]
  | cons x l ih =>
    intro h
    have h1 := h x (by simp); have h2 := ih fun y hy => h y (by simp [hy])
    simp only [tot, List.length_cons, Nat.mul_add, Nat.mul_one]; omega
theorem dropV_small {F : Cnf} {S : List ResStep} : tot mResStep (dropV F S).1 ≤ 100000 := by
  unfold dropV
  cases h : derB F S with
  | false => simp [tot]
  | true =>
    have hD := derB_iff.1 h
    have hSl := hD.le
    have hw := wv_fold hD
    simp only [cond_true]
    unfold dropL
    split
    · rename_i k hk
      have := tot_leD (wt := mResStep) (n := 30) (l := (S.foldl wv ([], [])).2.take (k.toNat + 1)) fun y hy => by
        have := (hw.isC y (List.mem_of_mem_take hy)).len
        unfold mResStep; omega
      have hl := hw.le
      have h2 : ((S.foldl wv ([], [])).2.take (k.toNat + 1)).length ≤ (S.foldl wv ([], [])).2.length := by simp; omega
      omega
    · simp [tot]
end Go.PF
