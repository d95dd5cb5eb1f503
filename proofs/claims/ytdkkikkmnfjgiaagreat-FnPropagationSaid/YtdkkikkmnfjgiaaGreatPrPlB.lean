/- Draws out of bytes: what a cursor hands out is there, and small. Draws of clauses and families of clauses. Draws of families of clauses. Elimination of a variable, in plain words: what is true before it and after it. -/
import Derived.Test.YtdkkikkmnfjgiaaGreatPrPlA
set_option linter.unusedVariables false
namespace Go.PF
open Go.Pu
/-- a cursor that may be asked n times more -/
structure okC (n : Nat) (c : l1Cur) : Prop where
  code : okL okU8 c.code
  lo : 0 ≤ c.at_
  hi : c.at_ + n ≤ 4611686018427387904
theorem okC.le {n m : Nat} {c : l1Cur} (h : okC n c) (hm : m ≤ n := by omega) : okC m c := ⟨h.code, h.lo, by have := h.hi; omega⟩
/-- a draw hands out what Q says, and a cursor that may be asked n times more -/
def Dr {A : Type} (n : Nat) (x : Option (A × l1Cur)) (Q : A → Prop) : Prop := ∃ a c, x = some (a, c) ∧ okC n c ∧ Q a
theorem wrk_nn {n : Int} (h0 : 0 ≤ n) (h1 : n < 9223372036854775808) : wrk true 64 n = n := by
  unfold wrk
  have h2 : (n % (2 ^ 64 : Int)) = n := Int.emod_eq_of_lt h0 (by omega)
  rw [h2]
  simp only [Bool.true_and]
  rw [if_neg]
  simp
  omega
theorem wrk_u {n : Int} : 0 ≤ wrk false 64 n ∧ wrk false 64 n < 18446744073709551616 := by
  unfold wrk
  simp only [Bool.false_and, Bool.false_eq_true, if_false]
  exact ⟨Int.emod_nonneg _ (by decide), by have := Int.emod_lt_of_pos n (show (0 : Int) < 2 ^ 64 by decide); omega⟩
theorem andK_small (x : Int) : 0 ≤ andK false 64 x 255 ∧ andK false 64 x 255 ≤ 255 := by
  unfold andK
  have h : ((BitVec.ofInt 64 x &&& BitVec.ofInt 64 255).toNat : Int) ≤ 255 := by
    rw [BitVec.toNat_and]
    have : (BitVec.ofInt 64 x).toNat &&& (BitVec.ofInt 64 255).toNat ≤ (BitVec.ofInt 64 255).toNat := Nat.and_le_right
    have e : (BitVec.ofInt 64 255).toNat = 255 := by decide
    omega
  generalize hk : ((BitVec.ofInt 64 x &&& BitVec.ofInt 64 255).toNat : Int) = k at *
  have h0 : 0 ≤ k := by rw [← hk]; exact Int.natCast_nonneg _
  unfold wrk
  simp only [Bool.false_and, Bool.false_eq_true, if_false]
  rw [Int.emod_eq_of_lt h0 (by omega)]
  exact ⟨h0, h⟩
theorem dr_next {n : Nat} {c : l1Cur} (h : okC (n + 1) c) : Dr n (spec_l1Cur_next c) fun b => 0 ≤ b ∧ b ≤ 255 := by
  have hl := h.lo; have hh := h.hi
  have hw : wr (c.at_ + 1) = c.at_ + 1 := wr_of _ (by omega) (by omega)
  have tail : ∀ s : Int, 0 ≤ s → s ≤ 255 → Dr n (bif (decide ((wr (c.at_ + 1)) ≤ (len c.code))) then some (s, (l1Cur.mk c.code (wr (c.at_ + 1)) (wrk false 64 ((wrk false 64 ((wrk false 64 (c.seed * 6364136223846793005)) + (wrk false 64 s))) + 337411)))) else some ((wrk true 64 (andK false 64 (shrK 64 (wrk false 64 ((wrk false 64 ((wrk false 64 (c.seed * 6364136223846793005)) + (wrk false 64 s))) + 337411)) 40) 255)), (l1Cur.mk c.code (wr (c.at_ + 1)) (wrk false 64 ((wrk false 64 ((wrk false 64 (c.seed * 6364136223846793005)) + (wrk false 64 s))) + 337411))))) (fun b => 0 ≤ b ∧ b ≤ 255) := by
    intro s h0 h1
    rw [hw]
    cases decide (c.at_ + 1 ≤ len c.code)
    · have := andK_small (shrK 64 (wrk false 64 ((wrk false 64 ((wrk false 64 (c.seed * 6364136223846793005)) + (wrk false 64 s))) + 337411)) 40)
      refine ⟨_, _, rfl, ⟨h.code, by show 0 ≤ c.at_ + 1; omega, by show c.at_ + 1 + _ ≤ _; omega⟩, ?_⟩
      show 0 ≤ wrk true 64 _ ∧ wrk true 64 _ ≤ 255
      rw [wrk_nn this.1 (by omega)]; exact this
    · exact ⟨_, _, rfl, ⟨h.code, by show 0 ≤ c.at_ + 1; omega, by show c.at_ + 1 + _ ≤ _; omega⟩, h0, h1⟩
  unfold spec_l1Cur_next
  cases hd : decide (c.at_ < len c.code) with
  | false => exact tail 0 (by omega) (by omega)
  | true =>
    have h2 : c.at_ < c.code.length := of_decide_eq_true hd
    obtain ⟨x, hx, hg⟩ := ix_of h.lo h2
    have hm := h.code.2 x (List.mem_of_getElem? hg)
    simp only [cond_true]
    rw [hx, bd_some, bdR_go, wrk_nn hm.1 (by have := hm.2; omega)]
    exact tail x hm.1 hm.2
theorem Dr.bind {A B : Type} {n m : Nat} {x : Option (A × l1Cur)} {Q : A → Prop} {k : A × l1Cur → Option (B × l1Cur)} {R : B → Prop} (h : Dr n x Q) (hk : ∀ a c, okC n c → Q a → Dr m (k (a, c)) R) : Dr m (bd x k) R := by
  obtain ⟨a, c, rfl, hc, hq⟩ := h
  exact hk a c hc hq
theorem Dr.weak {A : Type} {n m : Nat} {x : Option (A × l1Cur)} {Q R : A → Prop} (h : Dr n x Q) (hm : m ≤ n) (hr : ∀ a, Q a → R a) : Dr m x R :=
  let ⟨a, c, h1, h2, h3⟩ := h; ⟨a, c, h1, h2.le hm, hr a h3⟩
theorem dr_pick {n : Nat} {c : l1Cur} (h : okC (n + 2) c) (k : Int) : Dr n (spec_l1Cur_pick c k) fun x => 0 ≤ x ∧ x ≤ 65535 ∧ (x = 0 ∨ x < k) := by
  unfold spec_l1Cur_pick
  cases hd : decide (k ≤ 1) with
  | true => exact ⟨_, _, rfl, h.le, by omega, by omega, .inl rfl⟩
  | false =>
    have hk : 1 < k := by have := of_decide_eq_false hd; omega
    have hz : nz k = some () := by unfold nz; rw [if_neg (by omega)]
    simp only [cond_false]
    have small : ∀ x : Int, 0 ≤ x → x ≤ 65535 → 0 ≤ x.tmod k ∧ x.tmod k ≤ 65535 ∧ (x.tmod k = 0 ∨ x.tmod k < k) := fun x h0 h1 => by
      rw [Int.tmod_eq_emod_of_nonneg h0]
      have g1 := Int.emod_nonneg x (show k ≠ 0 by omega)
      have g2 := Int.emod_lt_of_pos x (show 0 < k by omega)
      have g3 : x % k ≤ x := by
        have e := Int.mul_ediv_add_emod x k
        have := Int.mul_nonneg (show 0 ≤ k by omega) (Int.ediv_nonneg h0 (show 0 ≤ k by omega))
        omega
      exact ⟨g1, by omega, .inr g2⟩
    refine (dr_next (n := n + 1) h).bind fun b c1 hc1 hb => ?_
    cases decide (200 < k) with
    | true =>
      simp only [cond_true]
      refine (dr_next (n := n) hc1).bind fun b2 c2 hc2 hb2 => ?_
      rw [hz, bd_some]
      have e1 : wr (b * 256) = b * 256 := wr_of _ (by omega) (by omega)
      have e2 : wr (b * 256 + b2) = b * 256 + b2 := wr_of _ (by omega) (by omega)
      exact ⟨_, _, rfl, hc2, by show 0 ≤ (wr (wr (b * 256) + b2)).tmod k ∧ _; rw [e1, e2]; exact small _ (by omega) (by omega)⟩
    | false =>
      simp only [cond_false]
      rw [hz, bd_some]
      exact ⟨_, _, rfl, hc1.le, small b hb.1 (by omega)⟩
theorem dr_one {n : Nat} {c : l1Cur} (h : okC (n + 2) c) (k : Int) : Dr n (spec_l1Cur_one c k) fun _ => True := by
  unfold spec_l1Cur_one
  exact (dr_pick h k).bind fun a c1 h1 _ => ⟨_, _, rfl, h1, trivial⟩
theorem dr_ix {A : Type} {l : List A} (h : l ≠ []) {x : Int} (h0 : 0 ≤ x) (h1 : x = 0 ∨ x < len l) : ∃ y, ix l x = some y ∧ y ∈ l := by
  have hl : 0 < l.length := List.length_pos_iff.2 h
  rw [len_eq] at h1
  obtain ⟨y, hy, hg⟩ := ix_of (xs := l) h0 (by omega)
  exact ⟨y, hy, List.mem_of_getElem? hg⟩
theorem dr_among {n : Nat} {c : l1Cur} (h : okC (n + 2) c) {l : List Int} (hl : l ≠ []) : Dr n (spec_l1Cur_among c l) fun x => x ∈ l := by
  unfold spec_l1Cur_among
  refine (dr_pick h (len l)).bind fun a c1 h1 hq => ?_
  obtain ⟨y, hy, hm⟩ := dr_ix hl hq.1 hq.2.2
  show Dr n (bd (ix l a) _) _
  rw [hy]
  exact ⟨_, _, rfl, h1, hm⟩
theorem dr_of {n : Nat} {c : l1Cur} (h : okC (n + 2) c) {l : List ByteArray} (hl : l ≠ []) : Dr n (spec_l1Cur_of c l) fun x => x ∈ l := by
  unfold spec_l1Cur_of
  refine (dr_pick h (len l)).bind fun a c1 h1 hq => ?_
  obtain ⟨y, hy, hm⟩ := dr_ix hl hq.1 hq.2.2
  show Dr n (bd (ix l a) _) _
  rw [hy]
  exact ⟨_, _, rfl, h1, hm⟩
/-- a loop whose rounds come nearer to its end -/
theorem iter_near {T X : Type} {body : T → Option (Lp T X)} (m : T → Nat) (I : T → Prop) (P : Rs T X → Prop)
    (h : ∀ s, I s → (∃ s', body s = some (.nx s') ∧ I s' ∧ m s' < m s) ∨ (∃ s', body s = some (.bk s') ∧ P (.go s')) ∨ ∃ x, body s = some (.rt x) ∧ P (.rt x)) : ∀ s, I s → ∃ q, iter body s = some q ∧ P q := by
  have key : ∀ k s, m s < k → I s → ∃ q, iter body s = some q ∧ P q := by
    intro k
    induction k with
    | zero => intro s hk; omega
    | succ k ih =>
      intro s hk hi
      rcases h s hi with ⟨s', hb, hi', hm⟩ | ⟨s', hb, hp⟩ | ⟨x, hb, hp⟩
      · obtain ⟨q, hq, hp⟩ := ih s' (by omega) hi'
        exact ⟨q, (iter_nx hb).trans hq, hp⟩
      · exact ⟨_, iter_bk hb, hp⟩
      · exact ⟨_, iter_rt hb, hp⟩
  intro s hi
  exact key _ s (Nat.lt_succ_self _) hi
/-- such a loop that is only left by its end -/
theorem dr_loop {T B : Type} {body : T → Option (Lp T Empty)} {s0 : T} {k : T → Option (B × l1Cur)} {lx : Empty → Option (B × l1Cur)} {n : Nat} {R : B → Prop} (m : T → Nat) (I : T → Prop) (J : T → Prop)
    (h0 : I s0) (h : ∀ s, I s → (∃ s', body s = some (.nx s') ∧ I s' ∧ m s' < m s) ∨ (∃ s', body s = some (.bk s') ∧ J s')) (hk : ∀ s, J s → Dr n (k s) R) : Dr n (bdR (iter body s0) k lx) R := by
  obtain ⟨q, hq, hp⟩ := iter_near (body := body) m I (fun q => match q with | .go s => J s | .rt x => x.elim) (fun s hs => by
    rcases h s hs with g | g
    · exact .inl g
    · exact .inr (.inl g)) s0 h0
  rw [hq]
  cases q with
  | go s => exact hk s hp
  | rt x => exact x.elim
theorem loop_ex {T B : Type} {body : T → Option (Lp T Empty)} {s0 : T} {k : T → Option B} {lx : Empty → Option B} {R : B → Prop} (m : T → Nat) (I : T → Prop) (J : T → Prop)
    (h0 : I s0) (h : ∀ s, I s → (∃ s', body s = some (.nx s') ∧ I s' ∧ m s' < m s) ∨ (∃ s', body s = some (.bk s') ∧ J s')) (hk : ∀ s, J s → ∃ r, k s = some r ∧ R r) : ∃ r, bdR (iter body s0) k lx = some r ∧ R r := by
  obtain ⟨q, hq, hp⟩ := iter_near (body := body) m I (fun q => match q with | .go s => J s | .rt x => x.elim) (fun s hs => by
    rcases h s hs with g | g
    · exact .inl g
    · exact .inr (.inl g)) s0 h0
  rw [hq]
  cases q with
  | go s => exact hk s hp
  | rt x => exact x.elim
theorem nx_of {T X : Type} {x : Option (Lp T X)} {P : T → Prop} (h : ∃ r, x = some r ∧ ∃ s', r = .nx s' ∧ P s') : ∃ s', x = some (.nx s') ∧ P s' := by
  obtain ⟨r, e, s', rfl, hp⟩ := h; exact ⟨s', e, hp⟩
def okIs (c : List Int) : Prop := ∀ x ∈ c, okI x
theorem okI_wr (n : Int) : okI (wr n) := wr_bd n
theorem without_sub {c : List Int} {v x : Int} (h : x ∈ without c v) : x ∈ c := (List.mem_filter.1 h).1
theorem dr_clause {n : Nat} {c : l1Cur} (h : okC (n + 30) c) (v : Int) : Dr n (spec_l1Cur_clause c v) fun x => x.length ≤ 4 ∧ okIs x := by
  unfold spec_l1Cur_clause
  refine (dr_among (n := n + 28) h (by simp)).bind fun k c1 h1 hk => ?_
  have hk4 : 0 ≤ k ∧ k ≤ 4 := by simp only [List.mem_cons, List.not_mem_nil, or_false] at hk; omega
  refine dr_loop (fun s => s.2.2.2.2.toNat) (fun s => okC (n + 4 * s.2.2.2.2.toNat) (l1Cur.mk s.1 s.2.1 s.2.2.1) ∧ 0 ≤ s.2.2.2.2 ∧ s.2.2.2.1.length + s.2.2.2.2 ≤ 4 ∧ okIs s.2.2.2.1) (fun s => okC n (l1Cur.mk s.1 s.2.1 s.2.2.1) ∧ s.2.2.2.1.length ≤ 4 ∧ okIs s.2.2.2.1)
    ⟨h1.le (by show n + 4 * k.toNat ≤ _; omega), hk4.1, by show (([] : List Int).length : Int) + k ≤ 4; simp; omega, fun x hx => by cases hx⟩ ?_ (fun s hs => ⟨_, _, rfl, hs⟩)
  rintro ⟨cd, at_, sd, out, j⟩ ⟨g1, g2, g3, g4⟩
  simp only at g1 g2 g3 g4 ⊢
  cases hd : (bif decide (0 < j) then decide (0 < v) else false) with
  | false =>
    simp only [cond_false]
    exact .inr ⟨_, rfl, g1.le, by show out.length ≤ 4; omega, g4⟩
  | true =>
    have hj : 0 < j := by
      cases hx : decide (0 < j) with
      | true => exact of_decide_eq_true hx
      | false => rw [hx] at hd; cases hd
    have hlim : lim = 4294967296 := rfl
    have hw : wr (j - 1) = j - 1 := wr_of _ (by omega) (by omega)
    left
    simp only [cond_true]
    have e0 : n + 4 * j.toNat = (n + 4 * (j - 1).toNat + 2) + 2 := by omega
    rw [e0] at g1
    obtain ⟨r, c2, e1, k1, k2⟩ := dr_pick g1 v
    rw [e1, bd_some]
    have hwl := List.length_filter_le (fun y => !(vr y == wr (1 + r))) out
    rw [spec_l2Without_eq (by omega), bd_some]
    obtain ⟨b, c3, e2, k3, _⟩ := dr_one k1 2
    simp only
    rw [e2, bd_some]
    have hlen : (without out (wr (1 + r))).length ≤ out.length := hwl
    have fin : ∀ y, okI y → (putL (without out (wr (1 + r))) y).length + (j - 1) ≤ 4 ∧ okIs (putL (without out (wr (1 + r))) y) := fun y hy => by
      rw [putL_length]
      refine ⟨by omega, fun x hx => ?_⟩
      rcases putL_mem.1 hx with rfl | hx
      · exact hy
      · exact g4 x (without_sub hx)
    cases b with
    | true =>
      simp only [cond_true]
      rw [spec_l2Put_eq (by omega), bd_some]
      have f := fin (wr (-(wr (1 + r)))) (okI_wr _)
      exact ⟨_, rfl, ⟨by rw [hw]; exact k3, by dsimp only; rw [hw]; omega, by rw [hw]; exact f.1, f.2⟩, by dsimp only; rw [hw]; omega⟩
    | false =>
      simp only [cond_false]
      rw [spec_l2Put_eq (by omega), bd_some]
      have f := fin (wr (1 + r)) (okI_wr _)
      exact ⟨_, rfl, ⟨by rw [hw]; exact k3, by dsimp only; rw [hw]; omega, by rw [hw]; exact f.1, f.2⟩, by dsimp only; rw [hw]; omega⟩
end Go.PF
namespace Go.PF
open Go.Pu
/-- a small family: at most N clauses of at most M literals, all of Go's size -/
structure SmC (N M : Nat) (f : Cnf) : Prop where
  vars : okI f.vars
  len : f.clauses.length ≤ N
  cl : ∀ c ∈ f.clauses, c.length ≤ M ∧ okIs c
theorem SmC.ok {N M : Nat} {f : Cnf} (h : SmC N M f) (hN : N ≤ 1000000 := by decide) (hM : M ≤ 1000000 := by decide) : okCnf f := by
  refine ⟨h.vars, ?_, fun c hc => ⟨?_, (h.cl c hc).2⟩⟩
  · have := h.len; omega
  · have := (h.cl c hc).1; omega
theorem dr_lit {n : Nat} {c : l1Cur} (h : okC (n + 8) c) (v : Int) : Dr n (spec_l1Cur_lit c v) okI := by
  unfold spec_l1Cur_lit
  have tail : ∀ (t : Bool) (c1 : l1Cur), okC (n + 4) c1 → Dr n (bif t then bd (spec_l1Cur_among c1 [0, (wr (v + 1)), (wr ((wr (-v)) - 1))]) (fun r => some (r.1, r.2)) else bd (spec_l1Cur_pick c1 v) (fun r => bd (spec_l1Cur_one r.2 2) (fun s => (bif s.1 then some ((wr (-(wr (1 + r.1)))), s.2) else some ((wr (1 + r.1)), s.2))))) okI := by
    intro t c1 h1
    cases t with
    | true =>
      refine (dr_among (n := n) h1.le (by simp)).bind fun x c2 h2 hx => ⟨_, _, rfl, h2, ?_⟩
      simp only [List.mem_cons, List.not_mem_nil, or_false] at hx
      show okI x
      rcases hx with rfl | rfl | rfl
      · unfold okI; omega
      · exact okI_wr _
      · exact okI_wr _
    | false =>
      refine (dr_pick (n := n + 2) h1.le v).bind fun x c2 h2 hx => ?_
      refine (dr_one (n := n) h2 2).bind fun b c3 h3 _ => ?_
      cases b
      · exact ⟨_, _, rfl, h3, okI_wr _⟩
      · exact ⟨_, _, rfl, h3, okI_wr _⟩
  cases decide (v < 1) with
  | true =>
    simp only [cond_true, bd_some]
    exact tail true c h.le
  | false =>
    simp only [cond_false]
    obtain ⟨b, c1, e, h1, _⟩ := dr_one (n := n + 4) (c := c) h.le 40
    rw [e, bd_some, bd_some]
    exact tail b c1 h1
theorem ix0 {A : Type} {l : List A} (h : 0 < l.length) : ∃ x, ix l 0 = some x ∧ x ∈ l := by
  obtain ⟨x, hx, hg⟩ := ix_of (xs := l) (i := 0) (by omega) (by omega)
  exact ⟨x, hx, List.mem_of_getElem? hg⟩
theorem put_mem {l ys : List Int} {i x : Int} (h : put l i x = some ys) (hl : okIs l) (hx : okI x) : ys.length = l.length ∧ okIs ys := by
  obtain ⟨_, _, rfl⟩ := put_some h
  exact ⟨List.length_set, fun y hy => by
    rcases List.mem_or_eq_of_mem_set hy with g | rfl
    · exact hl y g
    · exact hx⟩
theorem put_is {l : List Int} {i : Int} (x : Int) (h0 : 0 ≤ i) (h1 : i < l.length) : ∃ ys, put l i x = some ys := ⟨_, by unfold put; rw [if_pos ⟨h0, h1⟩]⟩
theorem dr_anyClause {n : Nat} {c : l1Cur} (h : okC (n + 50) c) (v : Int) : Dr n (spec_l1Cur_anyClause c v) fun x => x.length ≤ 5 ∧ okIs x := by
  unfold spec_l1Cur_anyClause
  refine (dr_clause (n := n + 20) h.le v).bind fun l c1 h1 hl => ?_
  refine (dr_pick (n := n + 18) h1 32).bind fun k c2 h2 _ => ?_
  have hlim : lim = 4294967296 := rfl
  show Dr n (bif (k == 0) then _ else _) _
  cases k == 0 with
  | true =>
    refine (dr_lit (n := n) (c := c2) h2.le v).bind fun x c3 h3 hx => ?_
    rw [app_ok (by simp; omega)]
    exact ⟨_, _, rfl, h3, by simp; omega, fun y hy => by
      rcases List.mem_append.1 hy with g | g
      · exact hl.2 y g
      · rw [List.mem_singleton] at g; subst g; exact hx⟩
  | false =>
  show Dr n (bif (k == 1) then _ else _) _
  cases k == 1 with
  | true =>
    simp only [cond_true]
    cases hd : decide (0 < len l) with
    | false => exact ⟨_, _, rfl, h2.le, by show l.length ≤ 5; omega, hl.2⟩
    | true =>
      simp only [cond_true]
      have hl0 : 0 < l.length := by have := of_decide_eq_true hd; rw [len_eq] at this; omega
      refine (dr_among (n := n) (c := c2) h2.le (by simp)).bind fun x c3 h3 hx => ?_
      obtain ⟨y, hy, _⟩ := ix0 hl0
      obtain ⟨ys, hys⟩ := put_is (l := l) (i := 0) x (by omega) (by omega)
      rw [hy, bd_some]
      show Dr n (bd (put l 0 x) _) _
      rw [hys]
      have hx' : okI x := by
        simp only [List.mem_cons, List.not_mem_nil, or_false] at hx
        rcases hx with rfl | rfl | rfl | rfl
        · unfold okI; omega
        · exact okI_wr _
        · exact okI_wr _
        · unfold okI; omega
      have := put_mem hys hl.2 hx'
      exact ⟨_, _, rfl, h3, by show ys.length ≤ 5; omega, this.2⟩
  | false =>
  show Dr n (bif (k == 2) then _ else _) _
  cases k == 2 with
  | false => exact ⟨_, _, rfl, h2.le, by show l.length ≤ 5; omega, hl.2⟩
  | true =>
    simp only [cond_true]
    cases hd : decide (1 < len l) with
    | false => exact ⟨_, _, rfl, h2.le, by show l.length ≤ 5; omega, hl.2⟩
    | true =>
      simp only [cond_true]
      have hl0 : 1 < l.length := by have := of_decide_eq_true hd; rw [len_eq] at this; omega
      obtain ⟨x, hx, hxm⟩ := ix0 (l := l) (by omega)
      obtain ⟨y, hy, hg⟩ := ix_of (xs := l) (i := 1) (by omega) (by omega)
      obtain ⟨ys, hys⟩ := put_is (l := l) (i := 0) y (by omega) (by omega)
      have p1 := put_mem hys hl.2 (hl.2 y (List.mem_of_getElem? hg))
      obtain ⟨z, hz, _⟩ := ix_of (xs := ys) (i := 1) (by omega) (by omega)
      obtain ⟨zs, hzs⟩ := put_is (l := ys) (i := 1) x (by omega) (by omega)
      have p2 := put_mem hzs p1.2 (hl.2 x hxm)
      rw [hx, bd_some, hy, bd_some, bd_some, hys, bd_some, hz, bd_some, hzs]
      exact ⟨_, _, rfl, h2.le, by show zs.length ≤ 5; omega, p2.2⟩
theorem Dr.ite {A : Type} {n : Nat} {b : Bool} {x y : Option (A × l1Cur)} {Q : A → Prop} (h1 : b = true → Dr n x Q) (h2 : b = false → Dr n y Q) : Dr n (bif b then x else y) Q := by
  cases b
  · exact h2 rfl
  · exact h1 rfl
/-- a valid family, renamed, or nothing -/
theorem rename_ok {f : Cnf} {N : Nat} (hf : cnfB f = true) (hN : f.clauses.length ≤ N) (hN2 : N ≤ 60) {to : List Int} (ht : okIs to) (hl : to.length ≤ 1000) : ∃ r, spec_RenameCnf f to = some r ∧ SmC N 12 r.1 := by
  have hlim : lim = 4294967296 := rfl
  have hv : 0 ≤ f.vars ∧ f.vars ≤ 12 := by
    unfold cnfB at hf
    simp only [Bool.and_eq_true] at hf
    exact varsB_iff.1 hf.1.1
  have hc : ∀ c ∈ f.clauses, IsC f.vars c := fun c hc => by
    unfold cnfB at hf
    simp only [Bool.and_eq_true] at hf
    exact clauseB_iff.1 (List.all_eq_true.1 hf.2 c hc)
  have hok : okCnf f := ⟨by unfold okI; omega, ⟨by omega, fun c h => (hc c h).ok⟩⟩
  have bad : SmC N 12 (Cnf.mk 0 []) := ⟨by unfold okI; decide, by simp, fun c h => by cases h⟩
  unfold spec_RenameCnf
  rw [spec_l2Good_eq hok, bd_some, hf]
  simp only [Bool.not_true, cond_false]
  cases hlen : (len to == f.vars) with
  | false => exact ⟨_, rfl, bad⟩
  | true =>
  have hlen' : (to.length : Int) = f.vars := by rw [← len_eq]; exact eq_of_beq hlen
  simp only [Bool.not_true, cond_false]
  -- the test of the new names: whatever it comes to
  have test : ∀ {body : Nat → Int → Unit → Option (Lp Unit (Cnf × Bool))}, (∀ i y u, i < to.length → ∃ q, body i y u = some q ∧ (q = .nx () ∨ q = .rt (Cnf.mk 0 [], false))) → ∃ q, forL to body () = some q ∧ (q = .go () ∨ q = .rt (Cnf.mk 0 [], false)) := by
    intro body hb
    have key : ∀ (l : List Int) (i : Nat), i + l.length ≤ to.length → ∃ q, forLFrom body l i () = some q ∧ (q = .go () ∨ q = .rt (Cnf.mk 0 [], false)) := by
      intro l
      induction l with
      | nil => intro i _; exact ⟨_, rfl, .inl rfl⟩
      | cons y l ih =>
        intro i hi
        simp only [List.length_cons] at hi
        obtain ⟨q, hq, h⟩ := hb i y () (by omega)
        unfold forLFrom
        rw [hq]
        rcases h with rfl | rfl
        · exact ih (i + 1) (by omega)
        · exact ⟨_, rfl, .inr rfl⟩
    exact key to 0 (by omega)
  obtain ⟨q, hq, hq2⟩ := test (body := fun i54 y53 s54 => bd (bif (!(PF.spec_l2Lit f.vars y53)) then some true else bd (cut to 0 ((i54 : Nat) : Int)) (fun xs190 => bd (PF.spec_l2Has xs190 y53) (fun r201 => some r201))) (fun t183 => bd (bif t183 then some true else bd (cut to 0 ((i54 : Nat) : Int)) (fun xs228 => bd (PF.spec_l2Has xs228 (wr (-y53))) (fun r239 => some r239))) (fun t221 => (bif t221 then some (Lp.rt ((Cnf.mk 0 []), false)) else some (Lp.nx ()))))) (by
    intro i y u hi
    rw [show (0 : Int) = ((0 : Nat) : Int) from rfl, cut_ok (Nat.zero_le _) (by omega), bd_some, spec_l2Has_eq, bd_some, bd_some, spec_l2Has_eq, bd_some]
    cases PF.spec_l2Lit f.vars y with
    | false => exact ⟨_, rfl, .inr rfl⟩
    | true =>
      simp only [Bool.not_true, cond_false, bd_some]
      cases ((to.take i).drop 0).contains y with
      | true => exact ⟨_, rfl, .inr rfl⟩
      | false =>
        simp only [cond_false, bd_some]
        cases ((to.take i).drop 0).contains (wr (-y)) with
        | true => exact ⟨_, rfl, .inr rfl⟩
        | false => exact ⟨_, rfl, .inl rfl⟩)
  rw [hq]
  rcases hq2 with rfl | rfl
  rotate_left
  · exact ⟨_, rfl, bad⟩
  simp only [bdR_go]
  -- the clauses
  refine loop_ex
    (fun s => f.clauses.length - s.2.2.toNat) (fun s => 0 ≤ s.2.2 ∧ s.2.2 ≤ f.clauses.length ∧ s.1.length = s.2.2.toNat ∧ s.2.1 = f.vars ∧ ∀ c ∈ s.1, c.length ≤ 12 ∧ okIs c)
    (fun s => s.2.1 = f.vars ∧ s.1.length ≤ N ∧ ∀ c ∈ s.1, c.length ≤ 12 ∧ okIs c) ⟨by show (0 : Int) ≤ 0; omega, by show (0 : Int) ≤ _; omega, rfl, rfl, fun c h => by cases h⟩ (by
      rintro ⟨out, v, k⟩ ⟨g1, g2, g3, g4, g5⟩
      simp only at g1 g2 g3 g4 g5 ⊢
      subst g4
      cases hd : decide (k < len f.clauses) with
      | false => exact .inr ⟨_, rfl, rfl, by show out.length ≤ N; omega, g5⟩
      | true =>
        have hk : k < f.clauses.length := by have := of_decide_eq_true hd; rwa [len_eq] at this
        obtain ⟨c, hcx, hcg⟩ := ix_of (xs := f.clauses) g1 hk
        have hC := hc c (List.mem_of_getElem? hcg)
        have hcl := hC.len
        have hw : wr (k + 1) = k + 1 := wr_of _ (by omega) (by omega)
        simp only [cond_true, hcx, bd_some]
        left
        refine nx_of (loop_ex
          (fun s => c.length - s.2.toNat) (fun s => 0 ≤ s.2 ∧ s.2 ≤ c.length ∧ s.1.length = s.2.toNat ∧ okIs s.1) (fun s => s.1.length ≤ 12 ∧ okIs s.1) ⟨by show (0 : Int) ≤ 0; omega, by show (0 : Int) ≤ _; omega, rfl, fun x h => by cases h⟩ (by
            rintro ⟨cs, j⟩ ⟨k1, k2, k3, k4⟩
            simp only at k1 k2 k3 k4 ⊢
            cases hd2 : decide (j < len c) with
            | false => exact .inr ⟨_, rfl, by show cs.length ≤ 12; omega, k4⟩
            | true =>
              have hj : j < c.length := by have := of_decide_eq_true hd2; rwa [len_eq] at this
              obtain ⟨x, hx, hxg⟩ := ix_of (xs := c) k1 hj
              have hX := hC.lit x (List.mem_of_getElem? hxg)
              have hw2 : wr (j + 1) = j + 1 := wr_of _ (by omega) (by omega)
              have hvr : spec_l2Var x = x.natAbs := by rw [spec_l2Var_eq]; exact vr_abs (by omega) (by omega)
              have hw3 : wr (spec_l2Var x - 1) = x.natAbs - 1 := by rw [hvr]; exact wr_of _ (by omega) (by omega)
              obtain ⟨y, hy, hyg⟩ := ix_of (xs := to) (i := (x.natAbs : Int) - 1) (by omega) (by omega)
              have hY := ht y (List.mem_of_getElem? hyg)
              left
              simp only [cond_true, hx, bd_some, hw3, hy]
              have fin : ∀ z, okI z → okIs (putL cs z) := fun z hz w hw => by
                rcases putL_mem.1 hw with rfl | hw
                · exact hz
                · exact k4 w hw
              cases decide (x < 0) with
              | true =>
                simp only [cond_true]
                rw [spec_l2Put_eq (by omega), bd_some]
                exact ⟨_, rfl, ⟨by dsimp only; rw [hw2]; omega, by dsimp only; rw [hw2]; omega, by dsimp only; rw [putL_length, hw2]; omega, fin _ (okI_wr _)⟩, by dsimp only; rw [hw2]; omega⟩
              | false =>
                simp only [cond_false]
                rw [spec_l2Put_eq (by omega), bd_some]
                exact ⟨_, rfl, ⟨by dsimp only; rw [hw2]; omega, by dsimp only; rw [hw2]; omega, by dsimp only; rw [putL_length, hw2]; omega, fin _ hY⟩, by dsimp only; rw [hw2]; omega⟩) (fun s e2 => ?_))
        · have e3 : s.1.length ≤ 12 ∧ okIs s.1 := e2
          rw [app_ok (by simp; omega), bd_some]
          refine ⟨_, rfl, _, rfl, ⟨by dsimp only; rw [hw]; omega, by dsimp only; rw [hw]; omega, by dsimp only; rw [hw, List.length_append, List.length_singleton]; omega, rfl, fun x hx => ?_⟩, by dsimp only; rw [hw]; omega⟩
          rcases List.mem_append.1 hx with g | g
          · exact g5 x g
          · rw [List.mem_singleton] at g; subst g; exact e3) (fun s h4 => ?_)
  have h4 : s.2.1 = f.vars ∧ s.1.length ≤ N ∧ ∀ c ∈ s.1, c.length ≤ 12 ∧ okIs c := h4
  exact ⟨_, rfl, by show okI s.2.1; rw [h4.1]; unfold okI; omega, h4.2.1, h4.2.2⟩
end Go.PF
namespace Go.PF
open Go.Pu
theorem cnfB_rng {f : Cnf} (h : cnfB f = true) : 0 ≤ f.vars ∧ f.vars ≤ 12 := by
  unfold cnfB at h
  simp only [Bool.and_eq_true] at h
  exact varsB_iff.1 h.1.1
theorem cnfB_isC {f : Cnf} (h : cnfB f = true) : ∀ c ∈ f.clauses, IsC f.vars c := fun c hc => by
  unfold cnfB at h
  simp only [Bool.and_eq_true] at h
  exact clauseB_iff.1 (List.all_eq_true.1 h.2 c hc)
theorem cnfB_len {f : Cnf} (h : cnfB f = true) : f.clauses.length ≤ 60 := by
  unfold cnfB at h
  simp only [Bool.and_eq_true] at h
  have := of_decide_eq_true h.1.2
  rw [len_eq] at this
  omega
theorem dr_hard {n : Nat} {c : l1Cur} (h : okC (n + 200) c) : Dr n (spec_l1Cur_hard c) (SmC 62 12) := by
  have hlim : lim = 4294967296 := rfl
  unfold spec_l1Cur_hard
  refine (dr_of (n := n + 190) h.le (l := spec_l2Hard) (by unfold spec_l2Hard; simp)).bind fun t c1 h1 ht => ?_
  obtain ⟨f, hf, hg, hv4⟩ := known_ok ht
  have hv := cnfB_rng hg; have hN := cnfB_len hg
  show Dr n (bd (spec_l2Known t) _) _
  rw [hf, bd_some]
  refine dr_loop (fun s => (f.vars + 1 - s.2.2.2.2).toNat) (fun s => okC (n + 100 + 2 * (f.vars + 1 - s.2.2.2.2).toNat) (l1Cur.mk s.2.1 s.2.2.1 s.2.2.2.1) ∧ 1 ≤ s.2.2.2.2 ∧ s.2.2.2.2 ≤ f.vars + 1 ∧ s.1.length ≤ s.2.2.2.2.toNat ∧ okIs s.1)
    (fun s => okC (n + 100) (l1Cur.mk s.2.1 s.2.2.1 s.2.2.2.1) ∧ s.1.length ≤ 10 ∧ okIs s.1)
    ⟨h1.le (by dsimp only; omega), by dsimp only; omega, by dsimp only; omega, by simp, fun x h => by cases h⟩ ?_ ?_
  · rintro ⟨to, cd, at_, sd, v⟩ ⟨g1, g2, g3, g4, g5⟩
    simp only at g1 g2 g3 g4 g5 ⊢
    cases hd : decide (v ≤ f.vars) with
    | false => exact .inr ⟨_, rfl, g1.le, by dsimp only; omega, g5⟩
    | true =>
      have hv2 : v ≤ f.vars := of_decide_eq_true hd
      have hw : wr (v + 1) = v + 1 := wr_of _ (by omega) (by omega)
      left
      simp only [cond_true]
      have e0 : n + 100 + 2 * (f.vars + 1 - v).toNat = (n + 100 + 2 * (f.vars + 1 - (v + 1)).toNat) + 2 := by omega
      rw [e0] at g1
      obtain ⟨b, c3, e2, k3, _⟩ := dr_one g1 4
      rw [e2, bd_some]
      have fin : ∀ y, okI y → okIs (to ++ [y]) := fun y hy x hx => by
        rcases List.mem_append.1 hx with g | g
        · exact g5 x g
        · rw [List.mem_singleton] at g; subst g; exact hy
      cases b with
      | true =>
        simp only [cond_true]
        rw [app_ok (by simp; omega), bd_some]
        exact ⟨_, rfl, ⟨by dsimp only; rw [hw]; exact k3, by dsimp only; rw [hw]; omega, by dsimp only; rw [hw]; omega, by dsimp only; rw [hw, List.length_append, List.length_singleton]; omega, fin _ (okI_wr _)⟩, by dsimp only; rw [hw]; omega⟩
      | false =>
        simp only [cond_false]
        rw [app_ok (by simp; omega), bd_some]
        exact ⟨_, rfl, ⟨by dsimp only; rw [hw]; exact k3, by dsimp only; rw [hw]; omega, by dsimp only; rw [hw]; omega, by dsimp only; rw [hw, List.length_append, List.length_singleton]; omega, fin _ (by unfold okI; omega)⟩, by dsimp only; rw [hw]; omega⟩
  · rintro ⟨to, cd, at_, sd, v⟩ ⟨g1, g2, g3⟩
    simp only at g1 g2 g3 ⊢
    obtain ⟨r, hr, hs⟩ := rename_ok hg hN (by omega) g3 (by omega)
    rw [hr, bd_some]
    refine (dr_pick (n := n + 98) g1 3).bind fun k c2 h2 hk => ?_
    have hk3 : k ≤ 2 := by omega
    refine dr_loop (fun s => s.2.2.2.2.2.toNat) (fun s => okC (n + 30 * s.2.2.2.2.2.toNat) (l1Cur.mk s.2.1 s.2.2.1 s.2.2.2.1) ∧ 0 ≤ s.2.2.2.2.2 ∧ s.1.length + s.2.2.2.2.2 ≤ 62 ∧ okI s.2.2.2.2.1 ∧ ∀ c ∈ s.1, c.length ≤ 12 ∧ okIs c)
      (fun s => okC n (l1Cur.mk s.2.1 s.2.2.1 s.2.2.2.1) ∧ s.1.length ≤ 62 ∧ okI s.2.2.2.2.1 ∧ ∀ c ∈ s.1, c.length ≤ 12 ∧ okIs c)
      ⟨h2.le (by dsimp only; omega), by dsimp only; omega, by dsimp only; have := hs.len; omega, hs.vars, hs.cl⟩ ?_ (fun s hs => ⟨_, _, rfl, hs.1, hs.2.2.1, hs.2.1, hs.2.2.2⟩)
    rintro ⟨out, cd, at_, sd, v, j⟩ ⟨g1, g2, g3, g4, g5⟩
    simp only at g1 g2 g3 g4 g5 ⊢
    cases hd : (bif decide (0 < j) then decide (0 < v) else false) with
    | false => exact .inr ⟨_, rfl, g1.le, by dsimp only; omega, g4, g5⟩
    | true =>
      have hj : 0 < j := by
        cases hx : decide (0 < j) with
        | true => exact of_decide_eq_true hx
        | false => rw [hx] at hd; cases hd
      have hw : wr (j - 1) = j - 1 := wr_of _ (by omega) (by omega)
      left
      simp only [cond_true]
      have e0 : n + 30 * j.toNat = (n + 30 * (j - 1).toNat) + 30 := by omega
      rw [e0] at g1
      obtain ⟨l, c3, e2, k3, hl⟩ := dr_clause g1 v
      rw [e2, bd_some, app_ok (by simp; omega), bd_some]
      refine ⟨_, rfl, ⟨by dsimp only; rw [hw]; exact k3, by dsimp only; rw [hw]; omega, by dsimp only; rw [hw, List.length_append, List.length_singleton]; omega, g4, fun x hx => ?_⟩, by dsimp only; rw [hw]; omega⟩
      rcases List.mem_append.1 hx with g | g
      · exact g5 x g
      · rw [List.mem_singleton] at g; subst g; exact ⟨by omega, hl.2⟩
theorem SmC.le {N M N2 M2 : Nat} {f : Cnf} (h : SmC N M f) (h1 : N ≤ N2) (h2 : M ≤ M2) : SmC N2 M2 f := ⟨h.vars, by have := h.len; omega, fun c hc => ⟨by have := (h.cl c hc).1; omega, (h.cl c hc).2⟩⟩
theorem dr_cnf {n : Nat} {c : l1Cur} (h : okC (n + 1000) c) : Dr n (spec_l1Cur_cnf c) (SmC 100 12) := by
  have hlim : lim = 4294967296 := rfl
  unfold spec_l1Cur_cnf
  refine (dr_one (n := n + 990) h.le 4).bind fun b c1 h1 _ => ?_
  show Dr n (bif b then _ else _) _
  cases b with
  | true => exact (dr_hard (n := n) h1.le).bind fun f c2 h2 hf => ⟨_, _, rfl, h2, hf.le (by omega) (by omega)⟩
  | false =>
  simp only [cond_false]
  refine (dr_among (n := n + 988) h1 (by simp)).bind fun v c2 h2 hv => ?_
  have hv' : okI v := by simp only [List.mem_cons, List.not_mem_nil, or_false] at hv; unfold okI; omega
  refine (dr_pick (n := n + 986) h2 10).bind fun k c3 h3 hk => ?_
  have hk9 : k ≤ 9 := by omega
  refine dr_loop (fun s => s.2.2.2.2.2.toNat) (fun s => okC (n + 600 + 30 * s.2.2.2.2.2.toNat) (l1Cur.mk s.2.1 s.2.2.1 s.2.2.2.1) ∧ 0 ≤ s.2.2.2.2.2 ∧ s.1.length + s.2.2.2.2.2 ≤ 9 ∧ okI s.2.2.2.2.1 ∧ ∀ c ∈ s.1, c.length ≤ 12 ∧ okIs c)
    (fun s => okC (n + 600) (l1Cur.mk s.2.1 s.2.2.1 s.2.2.2.1) ∧ s.1.length ≤ 9 ∧ okI s.2.2.2.2.1 ∧ ∀ c ∈ s.1, c.length ≤ 12 ∧ okIs c)
    ⟨h3.le (by dsimp only; omega), hk.1, by dsimp only; simp; omega, hv', fun c hc => by cases hc⟩ ?_ ?_
  · rintro ⟨out, cd, at_, sd, v, j⟩ ⟨g1, g2, g3, g4, g5⟩
    simp only at g1 g2 g3 g4 g5 ⊢
    cases hd : decide (0 < j) with
    | false => exact .inr ⟨_, rfl, g1.le, by dsimp only; omega, g4, g5⟩
    | true =>
      have hj : 0 < j := of_decide_eq_true hd
      have hw : wr (j - 1) = j - 1 := wr_of _ (by omega) (by omega)
      left
      simp only [cond_true]
      have e0 : n + 600 + 30 * j.toNat = (n + 600 + 30 * (j - 1).toNat) + 30 := by omega
      rw [e0] at g1
      obtain ⟨l, c3, e2, k3, hl⟩ := dr_clause g1 v
      rw [e2, bd_some, app_ok (by simp; omega), bd_some]
      refine ⟨_, rfl, ⟨by dsimp only; rw [hw]; exact k3, by dsimp only; rw [hw]; omega, by dsimp only; rw [hw, List.length_append, List.length_singleton]; omega, g4, fun x hx => ?_⟩, by dsimp only; rw [hw]; omega⟩
      rcases List.mem_append.1 hx with g | g
      · exact g5 x g
      · rw [List.mem_singleton] at g; subst g; exact ⟨by omega, hl.2⟩
  · rintro ⟨out, cd, at_, sd, v, j⟩ ⟨g1, g3, g4, g5⟩
    simp only at g1 g3 g4 g5 ⊢
    have cat : ∀ ys : List (List Int), (∀ c ∈ ys, c.length ≤ 12 ∧ okIs c) → ∀ c ∈ out ++ ys, c.length ≤ 12 ∧ okIs c := fun ys hy c hc => by
      rcases List.mem_append.1 hc with g | g
      · exact g5 c g
      · exact hy c g
    refine (dr_pick (n := n + 598) g1 40).bind fun k c2 h2 _ => ?_
    show Dr n (bif (k == 0) then _ else _) _
    cases k == 0 with
    | true =>
      refine (dr_among (n := n) h2.le (by simp)).bind fun x c3 h3 hx => ⟨_, _, rfl, h3, ?_, by dsimp only; omega, g5⟩
      simp only [List.mem_cons, List.not_mem_nil, or_false] at hx; dsimp only; unfold okI; omega
    | false =>
    show Dr n (bif (k == 1) then _ else _) _
    cases k == 1 with
    | true =>
      refine (dr_anyClause (n := n) h2.le v).bind fun l c3 h3 hl => ?_
      rw [app_ok (by simp; omega)]
      exact ⟨_, _, rfl, h3, g4, by dsimp only; rw [List.length_append, List.length_singleton]; omega, cat [l] fun c hc => by rw [List.mem_singleton] at hc; subst hc; exact ⟨by omega, hl.2⟩⟩
    | false =>
    show Dr n (bif (k == 2) then _ else _) _
    cases k == 2 with
    | true =>
      simp only [cond_true]
      refine dr_loop (fun s => 61 - s.1.length) (fun s => okC (n + 2 + 2 * (61 - s.1.length)) (l1Cur.mk s.2.1 s.2.2.1 s.2.2.2.1) ∧ s.1.length ≤ 61 ∧ okI s.2.2.2.2 ∧ ∀ c ∈ s.1, c.length ≤ 12 ∧ okIs c)
        (fun s => okC n (l1Cur.mk s.2.1 s.2.2.1 s.2.2.2.1) ∧ s.1.length ≤ 61 ∧ okI s.2.2.2.2 ∧ ∀ c ∈ s.1, c.length ≤ 12 ∧ okIs c)
        ⟨h2.le (by dsimp only; omega), by dsimp only; omega, g4, g5⟩ ?_ (fun s hs => ⟨_, _, rfl, hs.1, hs.2.2.1, by have := hs.2.1; dsimp only; omega, hs.2.2.2⟩)
      rintro ⟨os, cd, at_, sd, v⟩ ⟨k1, k2, k3, k4⟩
      simp only at k1 k2 k3 k4 ⊢
      have e0 : n + 2 + 2 * (61 - os.length) = (n + 2 * (61 - os.length)) + 2 := by omega
      rw [e0] at k1
      obtain ⟨b, c4, e2, m3, hb⟩ := dr_pick k1 2
      rw [e2, bd_some]
      have hb1 : b ≤ 1 := by omega
      have hw : wr (60 + b) = 60 + b := wr_of _ (by omega) (by omega)
      simp only
      rw [hw]
      cases hd : decide (len os < 60 + b) with
      | false => exact .inr ⟨_, rfl, m3.le, k2, k3, k4⟩
      | true =>
        have hlt : (os.length : Int) < 60 + b := by have := of_decide_eq_true hd; rwa [len_eq] at this
        left
        simp only [cond_true]
        rw [app_ok (by simp; omega), bd_some]
        refine ⟨_, rfl, ⟨m3.le (by dsimp only; rw [List.length_append, List.length_singleton]; omega), by dsimp only; rw [List.length_append, List.length_singleton]; omega, k3, fun x hx => ?_⟩, by dsimp only; rw [List.length_append, List.length_singleton]; omega⟩
        rcases List.mem_append.1 hx with g | g
        · exact k4 x g
        · rw [List.mem_singleton] at g; subst g
          exact ⟨by simp, fun y hy => by rw [List.mem_singleton] at hy; subst hy; unfold okI; omega⟩
    | false =>
    show Dr n (bif (k == 3) then _ else _) _
    cases k == 3 with
    | true =>
      refine (dr_clause (n := n) h2.le v).bind fun l c3 h3 hl => ?_
      rw [app_ok (by simp; omega)]
      refine ⟨_, _, rfl, h3, g4, by dsimp only; rw [List.length_append]; simp; omega, cat [l, []] fun c hc => ?_⟩
      simp only [List.mem_cons, List.not_mem_nil, or_false] at hc
      rcases hc with rfl | rfl
      · exact ⟨by omega, hl.2⟩
      · exact ⟨by simp, fun x h => by cases h⟩
    | false => exact ⟨_, _, rfl, h2.le, g4, by dsimp only; omega, g5⟩
theorem okC_begin {cs : List Int} (h : okL okU8 cs) (s : Int) : okC 1000000000 (l1Cur.mk cs 0 s) := ⟨h, by dsimp only; omega, by dsimp only; omega⟩
end Go.PF
namespace Go.PF
open Go.Pu
/-- the truth of a literal, of a clause, under a truth of variables -/
def tl (b : Nat → Bool) (l : Int) : Bool := b l.natAbs == decide (0 < l)
def tc (b : Nat → Bool) (c : List Int) : Bool := c.any (tl b)
def flipV (b : Nat → Bool) (v : Nat) : Nat → Bool := fun u => bif u == v then !b u else b u
theorem tl_flip {b : Nat → Bool} {v : Nat} {l : Int} (h : l.natAbs ≠ v) : tl (flipV b v) l = tl b l := by
  unfold tl flipV; rw [beq_eq_false_iff_ne.2 h]; rfl
theorem tl_flip_self {b : Nat → Bool} {l : Int} : tl (flipV b l.natAbs) l = !tl b l := by
  unfold tl flipV; rw [beq_self_eq_true]
  show ((!b l.natAbs) == decide (0 < l)) = _
  cases b l.natAbs <;> cases decide (0 < l) <;> rfl
theorem tl_neg {b : Nat → Bool} {l : Int} (h : l ≠ 0) : tl b (-l) = !tl b l := by
  unfold tl
  rw [Int.natAbs_neg]
  by_cases h1 : 0 < l
  · rw [decide_eq_true h1, decide_eq_false (by omega)]; cases b l.natAbs <;> rfl
  · rw [decide_eq_false h1, decide_eq_true (by omega)]; cases b l.natAbs <;> rfl
theorem tc_iff {b : Nat → Bool} {c : List Int} : tc b c = true ↔ ∃ l ∈ c, tl b l = true := by unfold tc; exact List.any_eq_true
theorem tc_false {b : Nat → Bool} {c : List Int} : tc b c = false ↔ ∀ l ∈ c, tl b l = false := by unfold tc; simp
theorem mem_without {V : Int} {c : List Int} (hc : IsC V c) {v x : Int} (h1 : 1 ≤ v) : x ∈ without c v ↔ x ∈ c ∧ x.natAbs ≠ v.natAbs := by
  unfold without
  rw [List.mem_filter]
  refine and_congr_right fun hx => ?_
  have := hc.lit x hx; have := hc.hi
  rw [vr_abs (by omega) (by omega)]
  simp only [Bool.not_eq_true', beq_eq_false_iff_ne, ne_eq]
  omega
/-- a clause has one literal of a variable -/
theorem srt_one {V : Int} {c : List Int} (hc : IsC V c) {x y : Int} (hx : x ∈ c) (hy : y ∈ c) (h : x.natAbs = y.natAbs := by omega) : x = y := by
  have hp := hc.srt
  obtain ⟨i, hi⟩ := List.getElem?_of_mem hx
  obtain ⟨j, hj⟩ := List.getElem?_of_mem hy
  have hij : i = j := by
    rcases Nat.lt_trichotomy i j with g | g | g
    · have := List.pairwise_iff_getElem.1 hp i j (List.getElem?_eq_some_iff.1 hi).1 (List.getElem?_eq_some_iff.1 hj).1 g
      rw [(List.getElem?_eq_some_iff.1 hi).2, (List.getElem?_eq_some_iff.1 hj).2] at this
      omega
    · exact g
    · have := List.pairwise_iff_getElem.1 hp j i (List.getElem?_eq_some_iff.1 hj).1 (List.getElem?_eq_some_iff.1 hi).1 g
      rw [(List.getElem?_eq_some_iff.1 hi).2, (List.getElem?_eq_some_iff.1 hj).2] at this
      omega
  subst hij
  rw [hi] at hj
  exact Option.some.inj hj
/-- what a resolvent is -/
theorem res_iff {V : Int} {a b : List Int} (ha : IsC V a) (hb : IsC V b) {v : Int} (h1 : 1 ≤ v) (h2 : v ≤ V) :
    ((res a b v).2 = true ↔ v ∈ a ∧ -v ∈ b ∧ ∀ x ∈ a, -x ∈ b → x = v) ∧
    ((res a b v).2 = true → ∀ x, x ∈ (res a b v).1 ↔ (x ∈ a ∨ x ∈ b) ∧ x.natAbs ≠ v.natAbs) := by
  have hV := ha.hi
  have hw : wr (-v) = -v := wr_of _ (by omega) (by omega)
  unfold res
  rw [hw]
  by_cases m1 : v ∈ a
  · by_cases m2 : -v ∈ b
    · rw [List.contains_iff_mem.2 m1, List.contains_iff_mem.2 m2]
      simp only [Bool.not_true, Bool.or_self, cond_false]
      have hs := joinL_spec (b := without b v) (s := without a v) (ha.srt.filter _) (fun x hx => ha.sm x (List.mem_filter.1 hx).1) (hb.srt.filter _) (fun x hx => hb.sm x (List.mem_filter.1 hx).1)
      unfold joined
      by_cases hx : ∃ y ∈ without b v, -y ∈ without a v
      · rw [if_pos hx] at hs
        rw [hs]
        refine ⟨⟨fun h => (by cases h), fun h => ?_⟩, fun h => (by cases h)⟩
        exfalso
        obtain ⟨y, hy, hy2⟩ := hx
        rw [mem_without hb h1] at hy
        rw [mem_without ha h1] at hy2
        have := h.2.2 (-y) hy2.1 (by rw [Int.neg_neg]; exact hy.1)
        omega
      · rw [if_neg hx] at hs
        obtain ⟨t, e, hst, hm⟩ := hs
        rw [e]
        refine ⟨⟨fun _ => ⟨m1, m2, fun x hxa hxb => ?_⟩, fun _ => rfl⟩, fun _ x => ?_⟩
        · by_cases hne : x.natAbs = v.natAbs
          · rcases Int.natAbs_eq_natAbs_iff.1 hne with h | h
            · exact h
            · exfalso
              subst h
              have := srt_one ha m1 hxa
              omega
          · exact absurd ⟨-x, (mem_without hb h1).2 ⟨hxb, by omega⟩, by rw [Int.neg_neg]; exact (mem_without ha h1).2 ⟨hxa, hne⟩⟩ hx
        · rw [hm, mem_without ha h1, mem_without hb h1, ← or_and_right]
    · have : b.contains (-v) = false := by rw [Bool.eq_false_iff]; exact fun h => m2 (List.contains_iff_mem.1 h)
      rw [this]
      simp only [Bool.not_false, Bool.or_true, cond_true]
      exact ⟨⟨fun h => (by cases h), fun h => absurd h.2.1 m2⟩, fun h => (by cases h)⟩
  · have : a.contains v = false := by rw [Bool.eq_false_iff]; exact fun h => m1 (List.contains_iff_mem.1 h)
    rw [this]
    simp only [Bool.not_false, Bool.true_or, cond_true]
    exact ⟨⟨fun h => (by cases h), fun h => absurd h.1 m1⟩, fun h => (by cases h)⟩
/-- what elimination leaves: the clauses without the variable, and all resolvents on it -/
def elimS (K : List (List Int)) (v : Int) (x : List Int) : Prop := (x ∈ K ∧ v ∉ x ∧ -v ∉ x) ∨ ∃ c ∈ K, ∃ d ∈ K, (res c d v).2 = true ∧ x = (res c d v).1
theorem tl_pos {b : Nat → Bool} {v : Int} (h : 1 ≤ v) : tl b v = b v.natAbs := by unfold tl; rw [decide_eq_true (by omega)]; cases b v.natAbs <;> rfl
theorem elim_sound {V : Int} {K : List (List Int)} (hK : ∀ c ∈ K, IsC V c) {v : Int} (h1 : 1 ≤ v) (h2 : v ≤ V) {b : Nat → Bool} (h : ∀ c ∈ K, tc b c = true) : ∀ x, elimS K v x → tc b x = true := by
  rintro x (⟨hx, _, _⟩ | ⟨c, hc, d, hd, hr, rfl⟩)
  · exact h x hx
  · obtain ⟨e1, e2⟩ := res_iff (hK c hc) (hK d hd) h1 h2
    obtain ⟨m1, m2, _⟩ := e1.1 hr
    obtain ⟨l, hl, tl1⟩ := tc_iff.1 (h c hc)
    obtain ⟨k, hk, tk1⟩ := tc_iff.1 (h d hd)
    by_cases hlv : l.natAbs = v.natAbs
    · by_cases hkv : k.natAbs = v.natAbs
      · exfalso
        -- l = v or -v, k = v or -v; both are true, so l = k: then c or d has v and -v
        have hlk : l = k := by
          rcases Int.natAbs_eq_natAbs_iff.1 (hlv.trans hkv.symm) with h | h
          · exact h
          · rw [h, tl_neg (by have := (hK d hd).lit k hk; omega), tk1] at tl1; cases tl1
        subst hlk
        rcases Int.natAbs_eq_natAbs_iff.1 hlv with e | e
        · have := (e1.1 hr).2.2
          subst e
          have hp := srt_one (hK d hd) hk m2
          omega
        · subst e
          have hp := srt_one (hK c hc) hl m1
          omega
      · exact tc_iff.2 ⟨k, (e2 hr k).2 ⟨.inr hk, hkv⟩, tk1⟩
    · exact tc_iff.2 ⟨l, (e2 hr l).2 ⟨.inl hl, hlv⟩, tl1⟩
theorem elim_complete {V : Int} {K : List (List Int)} (hK : ∀ c ∈ K, IsC V c) {v : Int} (h1 : 1 ≤ v) (h2 : v ≤ V) {b : Nat → Bool} (h : ∀ x, elimS K v x → tc b x = true) :
    (∀ c ∈ K, tc b c = true) ∨ ∀ c ∈ K, tc (flipV b v.natAbs) c = true := by
  apply Classical.byContradiction
  intro hn
  simp only [not_or, Classical.not_forall, Bool.not_eq_true] at hn
  obtain ⟨⟨c, hc, fc⟩, d, hd, fd⟩ := hn
  -- whatever is false under one of the two has a literal of the variable
  have key : ∀ (b' : Nat → Bool), (b' = b ∨ b' = flipV b v.natAbs) → ∀ c ∈ K, tc b' c = false → ∃ l ∈ c, l.natAbs = v.natAbs := by
    intro b' hb' c hc fc
    apply Classical.byContradiction
    intro hno
    have hno' : ∀ l ∈ c, l.natAbs ≠ v.natAbs := fun l hl e => hno ⟨l, hl, e⟩
    have ht := h c (.inl ⟨hc, fun m => hno' v m rfl, fun m => hno' (-v) m (by omega)⟩)
    obtain ⟨l, hl, t⟩ := tc_iff.1 ht
    have := tc_false.1 fc l hl
    rcases hb' with rfl | rfl
    · rw [t] at this; cases this
    · rw [tl_flip (hno' l hl), t] at this; cases this
  obtain ⟨l, hl, el⟩ := key b (.inl rfl) c hc fc
  obtain ⟨k, hk, ek⟩ := key _ (.inr rfl) d hd fd
  have tl0 := tc_false.1 fc l hl
  have tk0 := tc_false.1 fd k hk
  rw [← ek, tl_flip_self] at tk0
  have hkl : k = -l := by
    rcases Int.natAbs_eq_natAbs_iff.1 (ek.trans el.symm) with g | g
    · rw [g, tl0] at tk0; cases tk0
    · exact g
  have main : ∀ p ∈ K, ∀ q ∈ K, v ∈ p → -v ∈ q → (∀ x ∈ p, x.natAbs ≠ v.natAbs → tl b x = false) → (∀ x ∈ q, x.natAbs ≠ v.natAbs → tl b x = false) → False := by
    intro p hp q hq mp mq fp fq
    obtain ⟨e1, e2⟩ := res_iff (hK p hp) (hK q hq) h1 h2
    have hr : (res p q v).2 = true := by
      refine e1.2 ⟨mp, mq, fun x hx hx2 => ?_⟩
      by_cases hxv : x.natAbs = v.natAbs
      · exact srt_one (hK p hp) hx mp
      · exfalso
        have g1 := fp x hx hxv
        have g2 := fq (-x) hx2 (by omega)
        rw [tl_neg (by have := (hK p hp).lit x hx; omega), g1] at g2
        cases g2
    have ht := h _ (.inr ⟨p, hp, q, hq, hr, rfl⟩)
    obtain ⟨x, hx, t⟩ := tc_iff.1 ht
    obtain ⟨hx1, hx2⟩ := (e2 hr x).1 hx
    rcases hx1 with hx1 | hx1
    · rw [fp x hx1 hx2] at t; cases t
    · rw [fq x hx1 hx2] at t; cases t
  have fc' : ∀ x ∈ c, x.natAbs ≠ v.natAbs → tl b x = false := fun x hx _ => tc_false.1 fc x hx
  have fd' : ∀ x ∈ d, x.natAbs ≠ v.natAbs → tl b x = false := fun x hx hne => by rw [← tl_flip hne]; exact tc_false.1 fd x hx
  rcases Int.natAbs_eq_natAbs_iff.1 el with e | e
  · subst e
    exact main c hc d hd hl (hkl ▸ hk) fc' fd'
  · have : k = v := by omega
    subst this
    exact main d hd c hc hk (by rw [e] at hl; exact hl) fd' fc'
end Go.PF
