/- RunToProof: the law. -/
import Derived.Test.YtbbdfaegfiepeaaGreatRpPlRu
set_option linter.unusedVariables false
namespace Go.PF
open Go.Pu
/-- the last step at or ahead of a place with a clause -/
def lst (out : List ResStep) (c : List Int) : Nat → Nat
  | 0 => 0
  | n + 1 => if (out[n + 1]?).map ResStep.clause = some c then n + 1 else lst out c n
theorem lst_loop {out : List ResStep} {c : List Int} (hl : out.length ≤ 100000) {body : Int → Option (Lp Int Empty)}
    (hf : ∀ (k : Nat) x, out[k]? = some x → body (k : Int) = bif !(x.clause == c) then some (.nx (wr ((k : Int) - 1))) else some (.bk (k : Int))) :
    ∀ n : Nat, n < out.length → (∃ j, j ≤ n ∧ (out[j]?).map ResStep.clause = some c) → iter body (n : Int) = some (.go ((lst out c n : Nat) : Int)) := by
  intro n
  induction n with
  | zero =>
    rintro hn ⟨j, hj, h⟩
    obtain rfl : j = 0 := by omega
    obtain ⟨x, hx⟩ : ∃ x, out[0]? = some x := ⟨_, List.getElem?_eq_getElem hn⟩
    rw [hx] at h
    simp only [Option.map_some, Option.some.injEq] at h
    refine iter_bk ?_
    rw [hf 0 x hx, h, BEq.rfl]; rfl
  | succ n ih =>
    rintro hn ⟨j, hj, h⟩
    obtain ⟨x, hx⟩ : ∃ x, out[n + 1]? = some x := ⟨_, List.getElem?_eq_getElem hn⟩
    have hb := hf (n + 1) x hx
    simp only [lst, hx, Option.map_some, Option.some.injEq]
    by_cases he : x.clause = c
    · rw [if_pos he]
      refine iter_bk ?_
      rw [hb, he, BEq.rfl]; rfl
    · rw [if_neg he]
      have hne : (x.clause == c) = false := by rw [beq_eq_false_iff_ne]; exact he
      rw [hne] at hb
      have e : wr (((n + 1 : Nat) : Int) - 1) = (n : Int) := by rw [wr_of _ (by omega) (by omega)]; omega
      rw [e] at hb
      rw [iter_nx hb]
      refine ih (by omega) ⟨j, ?_, h⟩
      by_cases hjn : j = n + 1
      · subst hjn; rw [hx] at h; simp at h; exact absurd h he
      · omega
def Has (now : List (List Int)) (out : List ResStep) : Prop := ∀ c ∈ now, ∃ j : Nat, (out[j]?).map ResStep.clause = some c
theorem Has.le {now : List (List Int)} {out : List ResStep} (h : Has now out) {c : List Int} (hc : c ∈ now) : ∃ j, j ≤ out.length - 1 ∧ (out[j]?).map ResStep.clause = some c ∧ 0 < out.length := by
  obtain ⟨j, hj⟩ := h c hc
  have : j < out.length := by
    by_cases hl : j < out.length
    · exact hl
    · rw [List.getElem?_eq_none (by omega)] at hj; cases hj
  exact ⟨j, by omega, hj, by omega⟩
theorem Has.app {now : List (List Int)} {out : List ResStep} (h : Has now out) (y : List ResStep) : Has now (out ++ y) := fun c hc => by
  obtain ⟨j, hj, h1, h2⟩ := h.le hc
  refine ⟨j, ?_⟩
  rw [List.getElem?_append_left (by omega)]; exact h1
theorem spec_l15Latest_eq {out : List ResStep} {c : List Int} (hl : out.length ≤ 100000) (h : ∃ j, j ≤ out.length - 1 ∧ (out[j]?).map ResStep.clause = some c ∧ 0 < out.length) : spec_l15Latest out c = some ((lst out c (out.length - 1) : Nat) : Int) := by
  obtain ⟨j, h1, h2, h3⟩ := h
  unfold spec_l15Latest
  rw [len_eq, wr_of _ (by omega) (by omega), show ((out.length : Int) - 1) = ((out.length - 1 : Nat) : Int) by omega,
    lst_loop (out := out) (c := c) hl (fun k x hx => by rw [ix_get, hx, bd_some, spec_l1Same_eq, bd_some]) (out.length - 1) (by omega) ⟨j, h1, h2⟩]
  rfl
/-- the step of a proof that a step of a run puts there -/
def outS (F : Cnf) (now : List (List Int)) (s : SpaceStep) (out : List ResStep) : List ResStep :=
  bif s.kind == 1 then out ++ [⟨(puts F now s).1, -1, s.a, 0⟩]
  else bif s.kind == 2 then out ++ [⟨(puts F now s).1, ((lst out ((now[s.a.toNat]?).getD []) (out.length - 1) : Nat) : Int), ((lst out ((now[s.b.toNat]?).getD []) (out.length - 1) : Nat) : Int), s.pivot⟩]
  else out
def outs (F : Cnf) : List SpaceStep → List (List Int) → List ResStep → List ResStep
  | [], _, out => out
  | s :: ss, now, out => outs F ss (nxt F now s).1 (outS F now s out)
theorem nxt_kind {F : Cnf} {now : List (List Int)} {s : SpaceStep} (h : (nxt F now s).2 = true) : s.kind = 1 ∨ s.kind = 2 ∨ s.kind = 3 := by
  by_cases h3 : s.kind = 3
  · exact .inr (.inr h3)
  · have hp := puts_of_nxt h h3
    unfold puts at hp
    by_cases h1 : s.kind = 1
    · exact .inl h1
    · by_cases h2 : s.kind = 2
      · exact .inr (.inl h2)
      · rw [show (s.kind == 1) = false by rw [beq_eq_false_iff_ne]; exact h1, show (s.kind == 2) = false by rw [beq_eq_false_iff_ne]; exact h2] at hp
        cases hp
theorem outS_len {F : Cnf} {now : List (List Int)} {s : SpaceStep} {out : List ResStep} : (outS F now s out).length ≤ out.length + 1 := by
  unfold outS
  cases s.kind == 1 <;> cases s.kind == 2 <;> simp
theorem nxt_not3 {F : Cnf} {now : List (List Int)} {s : SpaceStep} (h : (nxt F now s).2 = true) (hk : s.kind ≠ 3) : (nxt F now s).1 = putC now (puts F now s).1 := by
  unfold nxt at h ⊢
  rw [show (s.kind == 3) = false by rw [beq_eq_false_iff_ne]; exact hk] at h ⊢
  simp only [cond_false] at h ⊢
  cases hp : (puts F now s).2 && !now.contains (puts F now s).1 with
  | true => rfl
  | false => rw [hp] at h; cases h
theorem outS_has {F : Cnf} {now : List (List Int)} {s : SpaceStep} {out : List ResStep} (h : Has now out) (ht : (nxt F now s).2 = true) : Has (nxt F now s).1 (outS F now s out) := by
  have app1 : ∀ y : ResStep, y.clause = (puts F now s).1 → s.kind ≠ 3 → Has (nxt F now s).1 (out ++ [y]) := fun y hy hk c hc => by
    rw [nxt_not3 ht hk] at hc
    rcases putC_mem.1 hc with rfl | hc
    · exact ⟨out.length, by simp [hy]⟩
    · exact h.app [y] c hc
  rcases nxt_kind ht with hk | hk | hk
  · have : outS F now s out = out ++ [⟨(puts F now s).1, -1, s.a, 0⟩] := by unfold outS; rw [hk]; rfl
    rw [this]; exact app1 _ rfl (by omega)
  · have : outS F now s out = out ++ [⟨(puts F now s).1, ((lst out ((now[s.a.toNat]?).getD []) (out.length - 1) : Nat) : Int), ((lst out ((now[s.b.toNat]?).getD []) (out.length - 1) : Nat) : Int), s.pivot⟩] := by unfold outS; rw [hk]; rfl
    rw [this]; exact app1 _ rfl (by omega)
  · have : outS F now s out = out := by unfold outS; rw [hk]; rfl
    rw [this]
    intro c hc
    unfold nxt at hc
    rw [show (s.kind == 3) = true by rw [hk]; rfl] at hc
    simp only [cond_true] at hc
    cases hg : gone now s with
    | false => rw [hg] at hc; cases hc
    | true => rw [hg] at hc; exact h c ((List.eraseIdx_sublist _ _).subset hc)
theorem outS_small {F : Cnf} (hF : cnfB F = true) {now : List (List Int)} {n : Nat} (hc : Cfg F.vars n now) {s : SpaceStep} {out : List ResStep} (h : ∀ x ∈ out, x.clause.length ≤ 12) (ht : (nxt F now s).2 = true) : ∀ x ∈ outS F now s out, x.clause.length ≤ 12 := by
  have app1 : ∀ y : ResStep, y.clause = (puts F now s).1 → s.kind ≠ 3 → ∀ x ∈ out ++ [y], x.clause.length ≤ 12 := fun y hy hk x hx => by
    rcases List.mem_append.1 hx with hx | hx
    · exact h x hx
    · rw [List.mem_singleton.1 hx, hy]; exact (puts_isC hF hc (puts_of_nxt ht hk)).len
  rcases nxt_kind ht with hk | hk | hk
  · have : outS F now s out = out ++ [⟨(puts F now s).1, -1, s.a, 0⟩] := by unfold outS; rw [hk]; rfl
    rw [this]; exact app1 _ rfl (by omega)
  · have : outS F now s out = out ++ [⟨(puts F now s).1, ((lst out ((now[s.a.toNat]?).getD []) (out.length - 1) : Nat) : Int), ((lst out ((now[s.b.toNat]?).getD []) (out.length - 1) : Nat) : Int), s.pivot⟩] := by unfold outS; rw [hk]; rfl
    rw [this]; exact app1 _ rfl (by omega)
  · have : outS F now s out = out := by unfold outS; rw [hk]; rfl
    rw [this]; exact h
theorem outs_small {F : Cnf} (hF : cnfB F = true) : ∀ {ss : List SpaceStep} {now : List (List Int)} {n : Nat} {out : List ResStep}, Cfg F.vars n now → (∀ x ∈ out, x.clause.length ≤ 12) → (cfgs F ss now).2 = true → (∀ x ∈ outs F ss now out, x.clause.length ≤ 12) ∧ (outs F ss now out).length ≤ out.length + ss.length
  | [], now, n, out, _, h, _ => ⟨h, Nat.le_refl _⟩
  | s :: ss, now, n, out, hc, h, ht => by
    simp only [cfgs] at ht
    cases h1 : (nxt F now s).2 with
    | false => rw [h1] at ht; cases ht
    | true =>
      rw [h1] at ht
      have := outs_small hF (nxt_cfg hF hc) (outS_small hF hc h h1) ht
      refine ⟨this.1, ?_⟩
      have h2 := this.2
      have := outS_len (F := F) (now := now) (s := s) (out := out)
      simp only [outs, List.length_cons]; omega
/-- what a possible step says of the places that it tells -/
theorem nxt_places {F : Cnf} {now : List (List Int)} {n : Nat} {s : SpaceStep} (hc : Cfg F.vars n now) (h : (nxt F now s).2 = true) (hk : s.kind = 2) :
    ∃ x y, ix now s.a = some x ∧ now[s.a.toNat]? = some x ∧ x ∈ now ∧ ix now s.b = some y ∧ now[s.b.toNat]? = some y ∧ y ∈ now := by
  have hp := puts_of_nxt h (by omega)
  unfold puts at hp
  rw [show (s.kind == 1) = false by rw [hk]; rfl, show (s.kind == 2) = true by rw [hk]; rfl] at hp
  simp only [cond_false, cond_true] at hp
  cases hg : inB s.a 0 ((now.length : Int) - 1) && (inB s.b 0 ((now.length : Int) - 1) && inB s.pivot 1 F.vars) with
  | false => rw [hg] at hp; cases hp
  | true =>
    have hg1 := (Bool.and_eq_true _ _).mp hg
    have hg2 := (Bool.and_eq_true _ _).mp hg1.2
    obtain ⟨x, x1, x2, cx⟩ := hc.at hg1.1
    obtain ⟨y, y1, y2, cy⟩ := hc.at hg2.1
    exact ⟨x, y, x1, x2, List.mem_of_getElem? x2, y1, y2, List.mem_of_getElem? y2⟩
theorem nxt_axiom {F : Cnf} {now : List (List Int)} {s : SpaceStep} (h : (nxt F now s).2 = true) (hk : s.kind = 1) : ix F.clauses s.a = some (puts F now s).1 := by
  have hp := puts_of_nxt h (by omega)
  have hpu : puts F now s = bif inB s.a 0 ((F.clauses.length : Int) - 1) && (s.b == 0 && s.pivot == 0) then ((F.clauses[s.a.toNat]?).getD [], true) else ([], false) := by unfold puts; rw [hk]; rfl
  rw [hpu] at hp ⊢
  cases hg : inB s.a 0 ((F.clauses.length : Int) - 1) && (s.b == 0 && s.pivot == 0) with
  | false => rw [hg] at hp; cases hp
  | true =>
    have hg1 := (Bool.and_eq_true _ _).mp hg
    have := inB_iff.1 hg1.1
    obtain ⟨c, c1, c2⟩ := ix_of (xs := F.clauses) (i := s.a) (by omega) (by omega)
    rw [c1, c2]; rfl
theorem spec_rt_loop {F : Cnf} (hF : cnfB F = true) {body : Nat → SpaceStep → List ResStep × List (List Int) → Option (Lp (List ResStep × List (List Int)) Empty)}
    (hb : ∀ i y out now, body i y (out, now) = bd (spec_l15Step F now y) fun r => bif y.kind == 1 then bd (spec_l7Axiom F y.a) (fun q => bd (app out [q]) fun xs => some (Lp.nx (xs, r.1)))
      else bif y.kind == 2 then bd (spec_l1Own r.2.1) (fun q => bd (ix now y.a) fun x1 => bd (spec_l15Latest out x1) fun l => bd (ix now y.b) fun x2 => bd (spec_l15Latest out x2) fun m => bd (app out [(ResStep.mk q l m y.pivot)]) fun xs => some (Lp.nx (xs, r.1))) else some (Lp.nx (out, r.1))) :
    ∀ (ss : List SpaceStep) (i n : Nat) (now : List (List Int)) (out : List ResStep), Cfg F.vars n now → n + ss.length ≤ 1000 → out.length + ss.length ≤ 1000 → Has now out → (∀ y ∈ ss, okSpaceStep y) → (cfgs F ss now).2 = true →
      forLFrom body ss i (out, now) = some (.go (outs F ss now out, lastC F ss now)) := by
  intro ss
  induction ss with
  | nil => intro i n now out _ _ _ _ _ _; rfl
  | cons s ss ih =>
    intro i n now out hc hn ho hh hs ht
    simp only [List.length_cons] at hn ho
    simp only [cfgs] at ht
    cases h1 : (nxt F now s).2 with
    | false => rw [h1] at ht; cases ht
    | true =>
      rw [h1] at ht
      simp only [cond_true] at ht
      obtain ⟨r, r1, r2, r3⟩ := spec_l15Step_eq (s := s) hF hc (by omega) (hs s (by simp))
      obtain ⟨q1, q2⟩ := r3 h1
      have hlim : lim = 4294967296 := rfl
      have e : body i s (out, now) = some (.nx (outS F now s out, (nxt F now s).1)) := by
        rw [hb, r1, bd_some]
        rcases nxt_kind h1 with hk | hk | hk
        · have ho1 : outS F now s out = out ++ [⟨(puts F now s).1, -1, s.a, 0⟩] := by unfold outS; rw [hk]; rfl
          have hl := (puts_isC hF hc (puts_of_nxt h1 (by omega))).len
          rw [show (s.kind == 1) = true by rw [hk]; rfl, cond_true]
          unfold spec_l7Axiom
          rw [nxt_axiom h1 hk, bd_some, spec_l1Own_eq (by omega), bd_some, bd_some, app_ok (by simp; omega), bd_some, ho1, q1]
        · obtain ⟨x, y, x1, x2, x3, y1, y2, y3⟩ := nxt_places hc h1 hk
          have ho1 : outS F now s out = out ++ [⟨(puts F now s).1, ((lst out ((now[s.a.toNat]?).getD []) (out.length - 1) : Nat) : Int), ((lst out ((now[s.b.toNat]?).getD []) (out.length - 1) : Nat) : Int), s.pivot⟩] := by unfold outS; rw [hk]; rfl
          have hl := (puts_isC hF hc (puts_of_nxt h1 (by omega))).len
          rw [show (s.kind == 1) = false by rw [hk]; rfl, cond_false, show (s.kind == 2) = true by rw [hk]; rfl, cond_true, q2 (by omega), spec_l1Own_eq (by omega), bd_some, x1, bd_some, spec_l15Latest_eq (by omega) (hh.le x3), bd_some, y1, bd_some,
            spec_l15Latest_eq (by omega) (hh.le y3), bd_some, app_ok (by simp; omega), bd_some, ho1, x2, y2, q1]
          rfl
        · have ho1 : outS F now s out = out := by unfold outS; rw [hk]; rfl
          rw [show (s.kind == 1) = false by rw [hk]; rfl, cond_false, show (s.kind == 2) = false by rw [hk]; rfl, cond_false, ho1, q1]
      simp only [forLFrom, e]
      rw [lastC_cons h1]
      have hol := outS_len (F := F) (now := now) (s := s) (out := out)
      exact ih (i + 1) (n + 1) (nxt F now s).1 (outS F now s out) (nxt_cfg hF hc) (by omega) (by omega) (outS_has hh h1) (fun y hy => hs y (by simp [hy])) ht
theorem impl_rt_loop {F : Cnf} (hF : cnfB F = true) {cs : List (List (List Int))} {body : Nat → SpaceStep → List ResStep → Option (Lp (List ResStep) Empty)}
    {b1 : List (List Int) → SpaceStep → List ResStep → Int → Option (Lp Int Empty)} {b2 : List (List Int) → SpaceStep → List ResStep → Int → Option (Lp Int Empty)} {l1 l2 : Empty → Option Int}
    (hb1 : ∀ now y out k, b1 now y out k = bd (ix out k) fun x => bd (ix now y.a) fun c => bd (slices_Equal_int_int x.clause c) fun r => bif !r then some (Lp.nx (wr (k - 1))) else some (Lp.bk k))
    (hb2 : ∀ now y out k, b2 now y out k = bd (ix out k) fun x => bd (ix now y.b) fun c => bd (slices_Equal_int_int x.clause c) fun r => bif !r then some (Lp.nx (wr (k - 1))) else some (Lp.bk k))
    (hb : ∀ i y out, body i y out = bd (ix cs ((i : Nat) : Int)) fun now => bd (impl_config_put now F y) fun r => bif !r.2 then some (Lp.nx out) else bd (slices_Clone_int_int r.1) fun q => bif y.kind == 2 then
        bd (β := _) (bdR (iter (b1 now y out) (wr (len out - 1))) (fun s => some s) l1 : Option Int) fun l => bd (β := _) (bdR (iter (b2 now y out) (wr (len out - 1))) (fun s => some s) l2 : Option Int) fun m => bd (app out [(ResStep.mk q l m y.pivot)]) fun xs => some (Lp.nx xs)
      else bd (app out [(ResStep.mk q (-1) y.a 0)]) fun xs => some (Lp.nx xs)) :
    ∀ (ss : List SpaceStep) (i n : Nat) (now : List (List Int)) (out : List ResStep), Cfg F.vars n now → n + ss.length ≤ 1000 → out.length + ss.length ≤ 1000 → Has now out → cs.drop i = now :: (cfgs F ss now).1 → (cfgs F ss now).2 = true →
      forLFrom body ss i out = some (.go (outs F ss now out)) := by
  intro ss
  induction ss with
  | nil => intro i n now out _ _ _ _ _ _; rfl
  | cons s ss ih =>
    intro i n now out hc hn ho hh hd ht
    simp only [List.length_cons] at hn ho
    simp only [cfgs] at ht hd
    cases h1 : (nxt F now s).2 with
    | false => rw [h1] at ht; cases ht
    | true =>
      rw [h1] at ht hd
      simp only [cond_true] at ht hd
      have hlim : lim = 4294967296 := rfl
      have hix : ix cs ((i : Nat) : Int) = some now := by
        rw [ix_get, ← Nat.add_zero i, ← List.getElem?_drop, hd]; rfl
      have hd2 : cs.drop (i + 1) = (nxt F now s).1 :: (cfgs F ss (nxt F now s).1).1 := by
        have := congrArg (List.drop 1) hd
        rw [List.drop_drop] at this
        exact this
      have e : body i s out = some (.nx (outS F now s out)) := by
        rw [hb, hix, bd_some, impl_config_put_eq hF hc (by omega), bd_some]
        rcases nxt_kind h1 with hk | hk | hk
        · have ho1 : outS F now s out = out ++ [⟨(puts F now s).1, -1, s.a, 0⟩] := by unfold outS; rw [hk]; rfl
          have hp := puts_of_nxt h1 (by omega)
          have hl := (puts_isC hF hc hp).len
          rw [hp, Bool.not_true, cond_false, slices_Clone_int_int_eq (by omega), bd_some, show (s.kind == 2) = false by rw [hk]; rfl, cond_false, app_ok (by simp; omega), bd_some, ho1]
        · obtain ⟨x, y, x1, x2, x3, y1, y2, y3⟩ := nxt_places hc h1 hk
          have ho1 : outS F now s out = out ++ [⟨(puts F now s).1, ((lst out ((now[s.a.toNat]?).getD []) (out.length - 1) : Nat) : Int), ((lst out ((now[s.b.toNat]?).getD []) (out.length - 1) : Nat) : Int), s.pivot⟩] := by unfold outS; rw [hk]; rfl
          have hp := puts_of_nxt h1 (by omega)
          have hl := (puts_isC hF hc hp).len
          obtain ⟨j, j1, j2, j3⟩ := hh.le x3
          obtain ⟨k, k1, k2, k3⟩ := hh.le y3
          rw [hp, Bool.not_true, cond_false, slices_Clone_int_int_eq (by omega), bd_some, show (s.kind == 2) = true by rw [hk]; rfl, cond_true, len_eq, wr_of _ (by omega) (by omega), show ((out.length : Int) - 1) = ((out.length - 1 : Nat) : Int) by omega,
            lst_loop (out := out) (c := x) (by omega) (fun k z hz => by rw [hb1, ix_get, hz, bd_some, x1, bd_some, slices_Equal_int_int_eq, bd_some]) (out.length - 1) (by omega) ⟨j, j1, j2⟩, bdR_go, bd_some,
            lst_loop (out := out) (c := y) (by omega) (fun k z hz => by rw [hb2, ix_get, hz, bd_some, y1, bd_some, slices_Equal_int_int_eq, bd_some]) (out.length - 1) (by omega) ⟨k, k1, k2⟩, bdR_go, bd_some,
            app_ok (by simp; omega), bd_some, ho1, x2, y2]
          rfl
        · have ho1 : outS F now s out = out := by unfold outS; rw [hk]; rfl
          have hp : (puts F now s).2 = false := by unfold puts; rw [hk]; rfl
          rw [hp, Bool.not_false, cond_true, ho1]
      simp only [forLFrom, e]
      have hol := outS_len (F := F) (now := now) (s := s) (out := out)
      exact ih (i + 1) (n + 1) (nxt F now s).1 (outS F now s out) (nxt_cfg hF hc) (by omega) (by omega) (outS_has hh h1) hd2 ht
def rtV (F : Cnf) (steps : List SpaceStep) : List ResStep × Bool :=
  bif cnfB F && runB F steps then (bif decide (200 < len (outs F steps [] [])) then ([], false) else (outs F steps [] [], true)) else ([], false)
theorem rtV_small {F : Cnf} {steps : List SpaceStep} : tot mResStep (rtV F steps).1 ≤ 4500 := by
  unfold rtV
  cases h : cnfB F && runB F steps with
  | false => exact Nat.zero_le _
  | true =>
    have h1 := (Bool.and_eq_true _ _).mp h
    obtain ⟨h2, h3⟩ := runB_len h1.2
    obtain ⟨s1, s2⟩ := outs_small h1.1 (ss := steps) (now := []) (n := 0) (out := []) Cfg.nil nofun h3
    have key : ∀ l : List ResStep, (∀ c ∈ l, c.clause.length ≤ 12) → tot mResStep l ≤ 15 * l.length := by
      intro l
      induction l with
      | nil => intro _; exact Nat.le_refl _
      | cons c l ih =>
        intro h
        have := h c (by simp); have := ih fun d hd => h d (by simp [hd])
        simp only [tot, mResStep, List.length_cons]; omega
    have := key _ s1
    simp only [List.length_nil, Nat.zero_add] at s2
    simp only [cond_true]
    cases decide (200 < len (outs F steps [] [])) with
    | true => exact Nat.zero_le _
    | false => simp only [cond_false]; omega
theorem spec_RunToProof_eq {F : Cnf} {steps : List SpaceStep} (hF : okCnf F) (hS : okL okSpaceStep steps) : spec_RunToProof F steps = some (rtV F steps) := by
  unfold spec_RunToProof rtV
  rw [spec_l2Good_eq hF, bd_some]
  cases h1 : cnfB F with
  | false => rfl
  | true =>
    obtain ⟨w, e1, e2, e3⟩ := spec_l15Run_eq h1 hS
    simp only [Bool.not_true, cond_false, Bool.true_and]
    rw [e1, bd_some, e2, bd_some]
    cases h2 : runB F steps with
    | false => rfl
    | true =>
      obtain ⟨h3, h4⟩ := runB_len h2
      simp only [Bool.not_true, cond_false, cond_true]
      unfold forL
      rw [spec_rt_loop h1 (fun _ _ _ _ => by rfl) steps 0 0 [] [] Cfg.nil (by omega) (by simp; omega) nofun hS.2 h4, bdR_go]
      exact bif_some
theorem impl_RunToProof_eq {F : Cnf} {steps : List SpaceStep} (hF : okCnf F) : impl_RunToProof F steps = some (rtV F steps) := by
  unfold impl_RunToProof rtV
  rw [impl_configs_eq hF, bd_some]
  cases h : cnfB F && runB F steps with
  | false => rfl
  | true =>
    have h1 := (Bool.and_eq_true _ _).mp h
    obtain ⟨h3, h4⟩ := runB_len h1.2
    simp only [Bool.not_true, cond_false, cond_true]
    unfold forL
    rw [impl_rt_loop (cs := [] :: (cfgs F steps []).1) h1.1 (fun _ _ _ _ => by rfl) (fun _ _ _ _ => by rfl) (fun _ _ _ => by rfl) steps 0 0 [] [] Cfg.nil (by omega) (by simp; omega) nofun rfl h4, bdR_go]
    exact bif_some
theorem plain_RunToProof (a0 : Cnf) (a1 : List SpaceStep) (o0 : okCnf a0) (o1 : okL okSpaceStep a1) : laws_FnExactRunToProof a0 a1 = some true := by
  unfold laws_FnExactRunToProof
  obtain ⟨r0, q0, z0⟩ := sz_Cnf o0 (s := 1048576) (by omega) (by omega)
  rw [q0, bd_some]
  by_cases n0 : r0 < 0
  · simp [n0]
  have z1 := sz_SpaceStepS o1 (s := r0) (by omega) (by omega)
  simp only [n0, decide_false, cond_false]
  by_cases n1 : laws_szSpaceStepS a1 r0 < 0
  · simp [n1]
  simp only [n1, decide_false, cond_false]
  have hlim : lim = 4294967296 := rfl
  have t0 := to_Cnf (a := a0) (by omega)
  have t1 := to_SpaceStepS (a := a1) (by omega)
  have hs := spec_RunToProof_eq (F := a0) o0 o1
  have hi := impl_RunToProof_eq (F := a0) (steps := a1) o0
  have hm := rtV_small (F := a0) (steps := a1)
  generalize rtV a0 a1 = g at hs hi hm
  have w0 : tot wIntS a0.clauses ≤ 1048576 := by unfold wCnf wIntSS at z0; omega
  have m0 := mark_Cnf (a := a0) (k := 1) (by omega) (by unfold big; omega)
  have m1 := mark_SpaceStepS (a := a1) (k := (laws_markCnf a0 1).2) (by omega) (by omega)
  have mg := mark_ResStepS (a := g.1) (k := 1) (by omega) (by unfold big; omega)
  have hg := held_ResStepS (a := g.1) (k := 1) (by omega) (by unfold big; omega)
  have d1 : decide ((laws_markSpaceStepS a1 (laws_markCnf a0 1).2).2 < 0) = false := by rw [decide_eq_false_iff_not]; omega
  have d2 : decide ((laws_markResStepS g.1 1).2 < 0) = false := by rw [decide_eq_false_iff_not]; omega
  simp only [t0, t1, hs, hi, hg, d1, d2, bd_some, eq_SpaceStepS, eq_ResStepS, eq_Cnf, BEq.rfl, Bool.not_true, cond_false, bif_tt, Bool.or_false]
end Go.PF
