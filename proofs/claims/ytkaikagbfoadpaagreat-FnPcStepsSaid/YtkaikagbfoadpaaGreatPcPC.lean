/- Helpers of the walks and plain laws. -/
import Derived.Test.YtkaikagbfoadpaaGreatPcPB
import Derived.Test.YtkaikagbfoadpaaGreatPcPA
set_option linter.unusedVariables false
namespace Go.PF
open Go.Pu Go.La
def cg (p x y : Int) : Prop := p ∣ x - y
theorem cg.rfl' {p x : Int} : cg p x x := ⟨0, by grind⟩
theorem cg.trans {p x y z : Int} (h1 : cg p x y) (h2 : cg p y z) : cg p x z := by
 obtain ⟨a, ha⟩ := h1; obtain ⟨b, hb⟩ := h2; exact ⟨a + b, by grind⟩
theorem cg.add {p x y u w : Int} (h1 : cg p x y) (h2 : cg p u w) : cg p (x + u) (y + w) := by
 obtain ⟨a, ha⟩ := h1; obtain ⟨b, hb⟩ := h2; exact ⟨a + b, by grind⟩
theorem cg.mul {p x y u w : Int} (h1 : cg p x y) (h2 : cg p u w) : cg p (x * u) (y * w) := by
 obtain ⟨a, ha⟩ := h1; obtain ⟨b, hb⟩ := h2; exact ⟨a * u + y * b, by grind⟩
theorem cg.mod {p x : Int} : cg p (x % p) x := dvd_mod p x
def sb (j n : Nat) : Bool := j &&& n == j
theorem sb_or {i j n : Nat} : sb (i ||| j) n = (sb i n && sb j n) := by
 unfold sb
 rw [Bool.eq_iff_iff, Bool.and_eq_true, beq_iff_eq, beq_iff_eq, beq_iff_eq]
 constructor
 · intro h
   constructor
   · apply Nat.eq_of_testBit_eq; intro k
     have := congrArg (fun z => z.testBit k) h
     simp only [Nat.testBit_and, Nat.testBit_or] at this ⊢
     cases h1 : i.testBit k <;> cases h2 : n.testBit k <;> simp_all
   · apply Nat.eq_of_testBit_eq; intro k
     have := congrArg (fun z => z.testBit k) h
     simp only [Nat.testBit_and, Nat.testBit_or] at this ⊢
     cases h1 : j.testBit k <;> cases h2 : n.testBit k <;> simp_all
 · rintro ⟨h1, h2⟩
   apply Nat.eq_of_testBit_eq; intro k
   have g1 := congrArg (fun z => z.testBit k) h1
   have g2 := congrArg (fun z => z.testBit k) h2
   simp only [Nat.testBit_and, Nat.testBit_or] at g1 g2 ⊢
   cases h3 : i.testBit k <;> cases h4 : j.testBit k <;> cases h5 : n.testBit k <;> simp_all
theorem sb_zero (n : Nat) : sb 0 n = true := by unfold sb; simp
theorem sb_pow (k n : Nat) : sb (2 ^ k) n = n.testBit k := by
 unfold sb
 rw [Bool.eq_iff_iff, beq_iff_eq]
 constructor
 · intro h
   have := congrArg (fun z => z.testBit k) h
   simpa only [Nat.testBit_and, Nat.testBit_two_pow_self, Bool.true_and] using this
 · intro h
   apply Nat.eq_of_testBit_eq; intro i
   rw [Nat.testBit_and, Nat.testBit_two_pow]
   by_cases hi : k = i
   · subst hi; rw [h, Bool.and_true]
   · rw [decide_eq_false hi, Bool.false_and]
def evF (n : Nat) : Nat → List Int → Int
 | _, [] => 0
 | i, x :: a => (bif sb i n then x else 0) + evF n (i + 1) a
def ev (n : Nat) (a : List Int) : Int := evF n 0 a
theorem evF_zs {n m : Nat} : ∀ {i : Nat}, evF n i (List.replicate m 0) = 0 := by
 induction m with
 | zero => intro i; rfl
 | succ m ih => intro i; rw [List.replicate_succ]; unfold evF; rw [ih]; cases sb i n <;> rfl
theorem ev_zs {n N : Nat} : ev n (zs N) = 0 := evF_zs
theorem evF_set {n : Nat} {y : Int} : ∀ {a : List Int} {i k : Nat}, k < a.length → evF n i (a.set k y) = evF n i a + (bif sb (i + k) n then y - co a k else 0)
 | [], _, _, h => by simp at h
 | x :: a, i, 0, _ => by
  rw [List.set_cons_zero]
  show (bif sb i n then y else 0) + evF n (i + 1) a = (bif sb i n then x else 0) + evF n (i + 1) a + (bif sb i n then y - x else 0)
  cases sb i n <;> simp only [cond_true, cond_false] <;> omega
 | x :: a, i, k + 1, h => by
  rw [List.set_cons_succ]
  have := evF_set (n := n) (y := y) (a := a) (i := i + 1) (k := k) (by simp at h; omega)
  rw [show i + 1 + k = i + (k + 1) by omega] at this
  show (bif sb i n then x else 0) + evF n (i + 1) (a.set k y) = (bif sb i n then x else 0) + evF n (i + 1) a + (bif sb (i + (k + 1)) n then y - co a k else 0)
  rw [this]
  omega
theorem evF_vadd {p k : Int} {n : Nat} : ∀ {a b : List Int} {i : Nat}, a.length = b.length → cg p (evF n i (vadd p k a b)) (evF n i a + k * evF n i b)
 | [], [], _, _ => ⟨0, by simp [vadd, evF]⟩
 | x :: a, y :: b, i, h => by
  have ih := evF_vadd (p := p) (k := k) (n := n) (a := a) (b := b) (i := i + 1) (by simpa using h)
  show cg p ((bif sb i n then (x + k * y) % p else 0) + evF n (i + 1) (vadd p k a b)) _
  have h1 : cg p (bif sb i n then (x + k * y) % p else 0) ((bif sb i n then x else 0) + k * (bif sb i n then y else 0)) := by
   cases sb i n
   · exact ⟨0, by simp⟩
   · exact cg.mod
  have := h1.add ih
  have e : (bif sb i n then x else 0) + k * (bif sb i n then y else 0) + (evF n (i + 1) a + k * evF n (i + 1) b) = evF n i (x :: a) + k * evF n i (y :: b) := by
   show _ = ((bif sb i n then x else 0) + evF n (i + 1) a) + k * ((bif sb i n then y else 0) + evF n (i + 1) b)
   grind
  rw [e] at this
  exact this
theorem ev_vadd {p k : Int} {n : Nat} {a b : List Int} (h : a.length = b.length) : cg p (ev n (vadd p k a b)) (ev n a + k * ev n b) := evF_vadd h
def evT (n : Nat) : List Term → Int
 | [] => 0
 | t :: A => (bif sb t.mono.toNat n then t.coeff else 0) + evT n A
theorem evT_sp {n : Nat} : ∀ {a : List Int} {i : Nat}, evT n (spF i a) = evF n i a
 | [], _ => rfl
 | x :: a, i => by
  have ih := evT_sp (n := n) (a := a) (i := i + 1)
  unfold spF evF
  cases hx : x == 0 with
  | true =>
   have : x = 0 := eq_of_beq hx
   subst this
   simp only [cond_true, ih]
   cases sb i n <;> simp
  | false =>
   simp only [cond_false]
   show (bif sb ((i : Int).toNat) n then x else 0) + evT n (spF (i + 1) a) = _
   rw [ih, Int.toNat_natCast]
theorem ev_sp {n : Nat} {a : List Int} : evT n (sp a) = ev n a := evT_sp
theorem ev_ms {p : Int} {N n : Nat} {acc : List Int} {t u : Term} (ha : acc.length = N) (hb : t.mono.toNat ||| u.mono.toNat < N) : cg p (ev n (ms p acc t u)) (ev n acc + (bif sb t.mono.toNat n then t.coeff else 0) * (bif sb u.mono.toNat n then u.coeff else 0)) := by
 unfold ev ms
 rw [evF_set (by omega), Nat.zero_add, sb_or]
 cases sb t.mono.toNat n with
 | false => exact ⟨0, by simp⟩
 | true =>
 cases sb u.mono.toNat n with
 | false => exact ⟨0, by simp⟩
 | true =>
  simp only [Bool.true_and, cond_true]
  obtain ⟨q, hq⟩ := cg.mod (p := p) (x := co acc (t.mono.toNat ||| u.mono.toNat) + t.coeff * u.coeff)
  exact ⟨q, by grind⟩
theorem ev_in {p : Int} {N n : Nat} {t : Term} (hp : 1 < p) : ∀ {B : List Term} {acc : List Int}, Dn p N acc → (∀ u ∈ B, t.mono.toNat ||| u.mono.toNat < N) → cg p (ev n (B.foldl (fun acc u => ms p acc t u) acc)) (ev n acc + (bif sb t.mono.toNat n then t.coeff else 0) * evT n B)
 | [], acc, h, _ => by
  show cg p (ev n acc) (ev n acc + _ * 0)
  exact ⟨0, by grind⟩
 | u :: B, acc, h, hb => by
  have h1 := ev_ms (p := p) (n := n) (t := t) (u := u) h.len (hb u (List.mem_cons_self ..))
  have h2 := ev_in hp (n := n) (t := t) (B := B) (ms_Dn hp h (t := t) (u := u)) (fun w hw => hb w (List.mem_cons_of_mem _ hw))
  refine h2.trans ?_
  obtain ⟨q, hq⟩ := h1
  refine ⟨q, ?_⟩
  show _ - (ev n acc + _ * ((bif sb u.mono.toNat n then u.coeff else 0) + evT n B)) = _
  grind
theorem ev_out {p : Int} {N n : Nat} {B : List Term} (hp : 1 < p) : ∀ {A : List Term} {acc : List Int}, Dn p N acc → (∀ t ∈ A, ∀ u ∈ B, t.mono.toNat ||| u.mono.toNat < N) → cg p (ev n (A.foldl (fun acc t => B.foldl (fun acc u => ms p acc t u) acc) acc)) (ev n acc + evT n A * evT n B)
 | [], acc, h, _ => by
  show cg p (ev n acc) (ev n acc + 0 * _)
  exact ⟨0, by grind⟩
 | t :: A, acc, h, hb => by
  have h1 := ev_in (n := n) (t := t) hp (B := B) h (hb t (List.mem_cons_self ..))
  have h2 := ev_out hp (n := n) (B := B) (A := A) (ms_in hp h (t := t) (B := B)) (fun w hw => hb w (List.mem_cons_of_mem _ hw))
  refine h2.trans ?_
  obtain ⟨q, hq⟩ := h1
  refine ⟨q, ?_⟩
  show _ - (ev n acc + ((bif sb t.mono.toNat n then t.coeff else 0) + evT n A) * evT n B) = _
  grind
theorem or_lt {p v : Int} (h : PV p v) {a b : List Int} (ha : Dn p (nN v) a) (hb : Dn p (nN v) b) : ∀ t ∈ sp a, ∀ u ∈ sp b, t.mono.toNat ||| u.mono.toNat < nN v := by
 intro t ht u hu
 obtain ⟨i, i1, i2, _⟩ := mem_sp ht
 obtain ⟨j, j1, j2, _⟩ := mem_sp hu
 have := ha.len; have := hb.len
 rw [i2, j2, Int.toNat_natCast, Int.toNat_natCast]
 unfold nN at *
 exact Nat.or_lt_two_pow (by omega) (by omega)
theorem ev_mul {p v : Int} (h : PV p v) {n : Nat} {a b : List Int} (ha : Dn p (nN v) a) (hb : Dn p (nN v) b) : cg p (ev n (mulT p (nN v) (sp a) (sp b))) (ev n a * ev n b) := by
 have := ev_out (n := n) (B := sp b) h.pos.1 (A := sp a) (zs_Dn h.pos.1) (or_lt h ha hb)
 rw [ev_zs, ev_sp, ev_sp, Int.zero_add] at this
 exact this
theorem ev_eD {N k n : Nat} (h : k < N) : ev n (eD N k) = bif sb k n then 1 else 0 := by
 unfold eD ev
 rw [evF_set (by simp [zs]; exact h), Nat.zero_add]
 have e : co (zs N) k = 0 := by unfold zs co; rw [List.getD_eq_getElem?_getD, List.getElem?_replicate, if_pos h]; rfl
 rw [e]
 have := ev_zs (n := n) (N := N)
 unfold ev at this
 rw [this]
 cases sb k n <;> rfl
theorem ev_lit {p v : Int} (h : PV p v) {n : Nat} {l : Int} (h0 : l ≠ 0) (h1 : -v ≤ l) (h2 : l ≤ v) : cg p (ev n (litD p (nN v) l)) (bif tl (bt' n) l then 1 else 0) := by
 have hN := nN_le h.v6
 unfold litD tl bt'
 cases hd : decide (0 < l) with
 | true =>
  have hl := of_decide_eq_true hd
  simp only [cond_true]
  rw [ev_eD (bt_lt (by omega) h2).2]
  unfold bt nN
  rw [sb_pow, show (l - 1).toNat = l.natAbs - 1 by omega]
  cases n.testBit (l.natAbs - 1) <;> exact ⟨0, by simp⟩
 | false =>
  have hl := of_decide_eq_false hd
  simp only [cond_false]
  have e := ev_vadd (p := p) (k := p - 1) (n := n) (a := eD (nN v) 0) (b := eD (nN v) (bt (-l))) (by simp [eD, zs])
  rw [ev_eD (by omega), ev_eD (bt_lt (u := -l) (by omega) (by omega)).2, sb_zero] at e
  refine e.trans ?_
  unfold bt nN
  rw [sb_pow, show (-l - 1).toNat = l.natAbs - 1 by omega]
  cases n.testBit (l.natAbs - 1)
  · exact ⟨0, by simp⟩
  · exact ⟨1, by simp; omega⟩
theorem ev_cl {p v : Int} (h : PV p v) {n : Nat} {c : List Int} (hc : ∀ l ∈ c, l ≠ 0 ∧ -v ≤ l ∧ l ≤ v) : cg p (ev n (clD p (nN v) c)) (bif tc (bt' n) c then 0 else 1) := by
 have hN := nN_le h.v6
 have key : ∀ (c : List Int) (a : List Int) (b : Bool), (∀ l ∈ c, l ≠ 0 ∧ -v ≤ l ∧ l ≤ v) → Dn p (nN v) a → cg p (ev n a) (bif b then 0 else 1) → cg p (ev n (c.foldl (fun acc l => mulT p (nN v) (sp acc) (sp (litD p (nN v) (-l)))) a)) (bif (b || tc (bt' n) c) then 0 else 1) := by
  intro c
  induction c with
  | nil => intro a b _ ha hb; rw [show tc (bt' n) [] = false from rfl, Bool.or_false]; exact hb
  | cons l c ih =>
   intro a b hl ha hb
   have h1 := hl l (List.mem_cons_self ..)
   have hD := litD_Dn (N := nN v) h.pos.1 (-l)
   have h2 := ev_lit h (n := n) (l := -l) (by omega) (by omega) (by omega)
   rw [tl_neg h1.1] at h2
   have h3 := (ev_mul h (n := n) ha hD).trans (hb.mul h2)
   have h4 := ih (mulT p (nN v) (sp a) (sp (litD p (nN v) (-l)))) (b || tl (bt' n) l) (fun x hx => hl x (List.mem_cons_of_mem _ hx)) (mulT_Dn h.pos.1 _ _) (by
    refine h3.trans ?_
    cases b <;> cases tl (bt' n) l <;> exact ⟨0, by simp⟩)
   rw [Bool.or_assoc] at h4
   exact h4
 have := key c (eD (nN v) 0) false hc (eD_Dn h.pos.1) (by rw [ev_eD (by omega), sb_zero]; exact cg.rfl')
 rw [Bool.false_or] at this
 exact this
end Go.PF
namespace Go.PF
open Go.Pu
theorem loop_l {σ α X B : Type} {xs : List α} {body : Nat → α → σ → Option (Lp σ X)} {k : σ → Option B} {lx : X → Option B} {R : B → Prop} (I : Nat → σ → Prop) {s0 : σ} (h0 : I 0 s0)
 (h : ∀ (i : Nat) x s, xs[i]? = some x → I i s → ∃ s', body i x s = some (.nx s') ∧ I (i + 1) s')
 (hk : ∀ s, I xs.length s → ∃ r, k s = some r ∧ R r) : ∃ r, bdR (forL xs body s0) k lx = some r ∧ R r := by
 have key : ∀ (m : List α) (j : Nat) (s : σ), j + m.length = xs.length → (∀ i y, m[i]? = some y → xs[j + i]? = some y) → I j s → ∃ s', forLFrom body m j s = some (.go s') ∧ I xs.length s' := by
  intro m
  induction m with
  | nil =>
   intro j s hj _ hI
   simp only [List.length_nil, Nat.add_zero] at hj
   subst hj
   exact ⟨s, rfl, hI⟩
  | cons y m ih =>
   intro j s hj hm hI
   obtain ⟨s', h1, h2⟩ := h j y s (by have := hm 0 y rfl; simpa using this) hI
   rw [forLFrom_nx h1]
   exact ih (j + 1) s' (by simp at hj; omega) (fun i z hz => by have := hm (i + 1) z (by simpa using hz); rwa [show j + (i + 1) = j + 1 + i by omega] at this) h2
 obtain ⟨s', h1, h2⟩ := key xs 0 s0 (by simp) (by simp) h0
 have h1' : forL xs body s0 = some (.go s') := h1
 rw [h1', bdR_go]
 exact hk s' h2
end Go.PF
namespace Go.PF
open Go.Pu
theorem loop_r {σ X B : Type} {m : Nat} {body : Nat → σ → Option (Lp σ X)} {k : σ → Option B} {lx : X → Option B} {R : B → Prop} (I : Nat → σ → Prop) {s0 : σ} (h0 : I 0 s0)
 (h : ∀ i s, i < m → I i s → (∃ s', body i s = some (.nx s') ∧ I (i + 1) s') ∨ ∃ x r, body i s = some (.rt x) ∧ lx x = some r ∧ R r) (hk : ∀ s, I m s → ∃ r, k s = some r ∧ R r) : ∃ r, bdR (forR 0 m body s0) k lx = some r ∧ R r := by
 have key : ∀ (n i : Nat) (s : σ), i + n = m → I i s → ∃ r, bdR (forFrom body n i s) k lx = some r ∧ R r := by
  intro n
  induction n with
  | zero => intro i s hi hI; rw [Nat.add_zero] at hi; subst hi; exact hk s hI
  | succ n ih =>
   intro i s hi hI
   unfold forFrom
   rcases h i s (by omega) hI with ⟨s', e, hI'⟩ | ⟨x, r, e, e2, hr⟩
   · rw [e]; exact ih (i + 1) s' (by omega) hI'
   · rw [e]; exact ⟨r, e2, hr⟩
 exact key m 0 s0 (by omega) h0
def satB (V : Nat) (K : List (List Int)) : Bool := (List.range (2 ^ V)).any (modB K)
theorem shl_vars {F : Cnf} (hF : cnfB F = true) : shlK true 64 1 F.vars = ((2 ^ F.vars.toNat : Nat) : Int) ∧ 2 ^ F.vars.toNat ≤ 4096 ∧ nn F.vars = some () ∧ chk (shlK true 64 1 F.vars) = some (2 ^ F.vars.toNat) := by
 have hv := cnfB_rng hF
 have hp : 2 ^ F.vars.toNat ≤ 2 ^ 12 := Nat.pow_le_pow_right (by omega) (by omega)
 have hs : shlK true 64 1 F.vars = ((2 ^ F.vars.toNat : Nat) : Int) := by
  have := shlK_nat (k := F.vars.toNat) (by omega)
  rwa [Int.toNat_of_nonneg hv.1] at this
 refine ⟨hs, hp, by unfold nn; rw [if_neg (by omega)], ?_⟩
 rw [hs]
 unfold chk
 rw [if_pos (by omega), Int.toNat_natCast]
theorem impl_IsSatisfiable_eq {F : Cnf} (hF : cnfB F = true) : impl_IsSatisfiable F = some (satB F.vars.toNat F.clauses, true) := by
 have hv := cnfB_rng hF; have hC := cnfB_isC hF; have hN := cnfB_len hF
 have hok : okCnf F := ⟨by unfold okI; omega, ⟨by omega, fun c h => (hC c h).ok⟩⟩
 obtain ⟨hs, hp, hnn, hck⟩ := shl_vars hF
 have key : ∃ r, impl_satisfiable F.vars F.clauses = some r ∧ r = satB F.vars.toNat F.clauses := by
  unfold impl_satisfiable
  rw [hnn, bd_some, hck, bd_some]
  have := loop_r (B := Bool) (m := 2 ^ F.vars.toNat) (s0 := false) (k := fun s => some s) (lx := fun x => some x) (R := fun r => r = satB F.vars.toNat F.clauses) (body := fun i156 s156 => bd (PF.impl_isModel F.clauses ((i156 : Nat) : Int)) (fun r256 => bd (bif r256 then bd (β := _) (some (true, false) : Option (Bool × Bool)) (fun s278 => some (s278.1, (!s278.2))) else some (s156, false)) (fun t273 => (bif t273.2 then some (Lp.rt t273.1) else some (Lp.nx t273.1)))))
   (fun i s => s = false ∧ ∀ j, j < i → modB F.clauses j = false) ⟨rfl, fun j hj => by omega⟩ (fun i s hi hs => by
    obtain ⟨rfl, hs⟩ := hs
    rw [impl_isModel_eq hC (by omega), bd_some]
    cases hm : modB F.clauses i with
    | true => exact .inr ⟨true, true, rfl, rfl, (List.any_eq_true.2 ⟨i, List.mem_range.2 hi, hm⟩).symm⟩
    | false => exact .inl ⟨false, rfl, rfl, fun j hj => by
     rcases Nat.lt_succ_iff_lt_or_eq.1 hj with h | rfl
     · exact hs j h
     · exact hm⟩) (fun s hs => ⟨s, rfl, by
    rw [hs.1]
    symm
    unfold satB
    rw [Bool.eq_false_iff]
    intro h
    obtain ⟨j, hj, hm⟩ := List.any_eq_true.1 h
    rw [hs.2 j (List.mem_range.1 hj)] at hm; cases hm⟩)
  obtain ⟨r, e, hr⟩ := this
  exact ⟨r, by rw [e, bd_some], hr⟩
 obtain ⟨r, e, rfl⟩ := key
 unfold impl_IsSatisfiable
 rw [impl_IsCnf_eq hok, bd_some, hF]
 simp only [Bool.not_true, cond_false]
 rw [e, bd_some]
end Go.PF
namespace Go.PF
open Go.Pu
theorem forR_fold {S X : Type} {α : Type} {xs : List α} {body : Nat → S → Option (Lp S X)} {F : S → α → S} (I : Nat → S → Prop) {s0 : S} (h0 : I 0 s0)
 (h : ∀ i x s, xs[i]? = some x → I i s → body i s = some (.nx (F s x)) ∧ I (i + 1) (F s x)) : forR 0 xs.length body s0 = some (.go (xs.foldl F s0)) := by
 have key : ∀ (m : List α) (k : Nat) (s : S), (∀ i y, m[i]? = some y → xs[k + i]? = some y) → I k s → forFrom body m.length k s = some (.go (m.foldl F s)) := by
  intro m
  induction m with
  | nil => intro k s _ _; rfl
  | cons y m ih =>
   intro k s hm hI
   obtain ⟨h1, h2⟩ := h k y s (by have := hm 0 y rfl; simpa using this) hI
   simp only [List.length_cons, forFrom, h1, List.foldl_cons]
   exact ih (k + 1) (F s y) (fun i z hz => by have := hm (i + 1) z (by simpa using hz); rwa [show k + (i + 1) = k + 1 + i by omega] at this) h2
 unfold forR
 exact key xs 0 s0 (by simp) h0
theorem chk_len {A : Type} {xs : List A} (h : xs.length ≤ 2) : chk (len xs) = some xs.length := by
 unfold chk; rw [if_pos (by rw [len_eq]; omega), len_eq]; simp
structure IsPv (n : Nat) (out : List (List Int)) : Prop where
 len : out.length = n
 asc : ∀ y ∈ out, Asc y
 sm : ∀ y ∈ out, ∀ z ∈ y, 1 ≤ z ∧ z ≤ 12
end Go.PF
namespace Go.PF
open Go.Pu
theorem take_rev {α : Type} {xs : List α} {k : Nat} {x : α} (hx : xs[k]? = some x) : (xs.take (k + 1)).zipIdx.reverse = (x, k) :: (xs.take k).zipIdx.reverse := by
 obtain ⟨hk, he⟩ := List.getElem?_eq_some_iff.1 hx
 rw [← he, List.take_succ_eq_append_getElem hk, List.zipIdx_append]
 simp [Nat.min_eq_left (Nat.le_of_lt hk)]
theorem iter_down {σ α X : Type} {xs : List α} {body : σ × Int → Option (Lp (σ × Int) X)} {F : σ → α × Nat → σ} (I : Nat → σ → Prop) {s0 : σ} (h0 : I xs.length s0)
 (h : ∀ (i : Nat) x s, xs[i]? = some x → I (i + 1) s → body (s, (i : Int)) = some (.nx (F s (x, i), (i : Int) - 1)) ∧ I i (F s (x, i))) (he : ∀ s, body (s, -1) = some (.bk (s, -1))) :
 iter body (s0, len xs - 1) = some (.go (xs.zipIdx.reverse.foldl F s0, -1)) ∧ I 0 (xs.zipIdx.reverse.foldl F s0) := by
 have key : ∀ (k : Nat) (s : σ), k ≤ xs.length → I k s → iter body (s, (k : Int) - 1) = some (.go ((xs.take k).zipIdx.reverse.foldl F s, -1)) ∧ I 0 ((xs.take k).zipIdx.reverse.foldl F s) := by
  intro k
  induction k with
  | zero => intro s _ hI; exact ⟨iter_bk (he s), hI⟩
  | succ k ih =>
   intro s hk hI
   obtain ⟨x, hx⟩ : ∃ x, xs[k]? = some x := ⟨_, List.getElem?_eq_getElem (by omega)⟩
   obtain ⟨h1, h2⟩ := h k x s hx hI
   rw [take_rev hx, List.foldl_cons, show ((k + 1 : Nat) : Int) - 1 = (k : Int) by omega, iter_nx h1]
   exact ih _ (by omega) h2
 have := key xs.length s0 (Nat.le_refl _) h0
 rwa [List.take_length] at this
theorem bdR_down {σ α X β : Type} {xs : List α} {body : σ × Int → Option (Lp (σ × Int) X)} {k : σ × Int → Option β} {l : X → Option β} {r : Option β} (F : σ → α × Nat → σ) (I : Nat → σ → Prop) {s0 : σ} (h0 : I xs.length s0)
 (h : ∀ (i : Nat) x s, xs[i]? = some x → I (i + 1) s → body (s, (i : Int)) = some (.nx (F s (x, i), (i : Int) - 1)) ∧ I i (F s (x, i))) (he : ∀ s, body (s, -1) = some (.bk (s, -1)))
 (hk : ∀ s, I 0 s → k (s, -1) = r) : bdR (iter body (s0, len xs - 1)) k l = r := by
 obtain ⟨h1, h2⟩ := iter_down I h0 h he
 rw [h1, bdR_go]; exact hk _ h2
def bAt (M : List Bool) (i : Nat) : Bool := (M[i]?).getD false
def setT (M : List Bool) (ks : List Int) : List Bool := ks.foldl (fun M k => M.set k.toNat true) M
theorem setT_len : ∀ {ks : List Int} {M : List Bool}, (setT M ks).length = M.length := by
 intro ks
 induction ks with
 | nil => intro M; rfl
 | cons k ks ih => intro M; unfold setT at ih ⊢; rw [List.foldl_cons, ih]; simp
theorem setT_out : ∀ {ks : List Int} {M : List Bool} {i j : Nat}, (∀ k ∈ ks, 0 ≤ k ∧ k < j) → j ≤ i → (setT M ks)[i]? = M[i]? := by
 intro ks
 induction ks with
 | nil => intro M i j _ _; rfl
 | cons k ks ih =>
  intro M i j h hi
  have h1 := h k (by simp)
  have := ih (M := M.set k.toNat true) (i := i) (fun z hz => h z (by simp [hz])) hi
  unfold setT at this ⊢
  rw [List.foldl_cons, this, List.getElem?_set_ne (by omega)]
theorem setT_in : ∀ {ks : List Int} {M : List Bool} {k : Int}, (∀ k ∈ ks, 0 ≤ k ∧ k < M.length) → (k ∈ ks ∨ bAt M k.toNat = true) → bAt (setT M ks) k.toNat = true := by
  intro ks
  induction ks with
  | nil => intro M k _ hk; rcases hk with h | h; · cases h
           · exact h
  | cons z ks ih =>
    intro M k h hk
    have h1 := h z (by simp)
    have h2 := ih (M := M.set z.toNat true) (k := k) (fun y hy => by have := h y (by simp [hy]); simpa using this) (by
      rcases hk with hk | hk
      · rcases List.mem_cons.1 hk with rfl | hk
        · right; unfold bAt; rw [List.getElem?_set_self (by omega)]; rfl
        · exact .inl hk
      · right
        unfold bAt at hk ⊢
        rw [List.getElem?_set]
        split
        · rw [if_pos (by omega)]; rfl
        · exact hk)
    unfold setT at h2 ⊢
    rw [List.foldl_cons]; exact h2
theorem setT_set {ks : List Int} : ∀ {M : List Bool} {j : Nat}, (∀ k ∈ ks, 0 ≤ k ∧ k < j) → (setT M ks).set j true = setT (M.set j true) ks := by
 induction ks with
 | nil => intro M j _; rfl
 | cons k ks ih =>
  intro M j h
  have h1 := h k (by simp)
  have := ih (M := M.set k.toNat true) (j := j) (fun z hz => h z (by simp [hz]))
  unfold setT at this ⊢
  rw [List.foldl_cons, List.foldl_cons, this, List.set_comm _ _ (by omega)]
def nst (M : List Bool) (p : ResStep × Nat) : List Bool := bif bAt M p.2 then setT M (prem p.1) else M
def rem (S : List ResStep) (k : Nat) (M : List Bool) : List Bool := (S.take k).zipIdx.reverse.foldl nst M
theorem uses_loop {us : List Int} {M : List Bool} {i : Nat} (hi : i < M.length) (hu : ∀ k ∈ us, 0 ≤ k ∧ k < i) (hl : us.length ≤ 2) {f : List Bool × Int → Option (Lp (List Bool × Int) Empty)}
 (hf : ∀ s, f s = bd (bif decide (s.2 < len us) then bd (ix s.1 (i : Int)) (fun x => some x) else some false) (fun t => bif t then bd (ix us s.2) (fun x => bd (ix s.1 x) (fun _ => bd (put s.1 x true) (fun xs => some (.nx (xs, wr (s.2 + 1)))))) else some (.bk (s.1, s.2)))) :
 ∃ k, iter f (M, 0) = some (.go (bif bAt M i then setT M us else M, k)) := by
 have hat : ∀ {M : List Bool}, i < M.length → ix M (i : Int) = some (bAt M i) := fun {M} h => by rw [ix_get]; unfold bAt; rw [List.getElem?_eq_getElem h]; rfl
 cases hb : bAt M i with
 | false =>
  refine ⟨0, iter_bk ?_⟩
  rw [hf]
  simp only [hat hi, hb]
  cases decide ((0 : Int) < len us) <;> rfl
 | true =>
  refine ⟨us.length, ?_⟩
  have := iter_foldI (X := Empty) (xs := us) (body := f) (F := fun M k => M.set k.toNat true) (s0 := M) (fun _ N => N.length = M.length ∧ bAt N i = true) ⟨rfl, hb⟩ (fun j k N hk hN => by
   have hj := (List.getElem?_eq_some_iff.1 hk).1
   have hkb := hu k (List.mem_of_getElem? hk)
   rw [hf]
   have hd : decide ((j : Int) < len us) = true := by rw [len_eq]; simp; omega
   obtain ⟨y, hy, _⟩ := ix_of (xs := N) hkb.1 (by omega)
   have hp : put N k true = some (N.set k.toNat true) := by
    have := put_ok (xs := N) (i := k.toNat) (x := true) (by omega)
    rwa [show ((k.toNat : Nat) : Int) = k by omega] at this
   simp only [hd, cond_true, hat (show i < N.length by omega), hN.2, bd_some, ix_get, hk, hy, hp]
   rw [wr_succ hj (by omega)]
   refine ⟨rfl, by simpa using hN.1, ?_⟩
   have h2 := hN.2
   unfold bAt at h2 ⊢
   rw [List.getElem?_set_ne (by omega)]; exact h2) (fun N => by
   rw [hf]
   have hd : decide ((us.length : Int) < len us) = false := by rw [len_eq]; simp
   simp only [hd, cond_false, bd_some])
  simp only [cond_true]
  exact this.1
theorem wr_down {i n : Nat} (h : i < n) (hn : n ≤ 9223372036854775807) : wr ((i : Int) - 1) = (i : Int) - 1 := wr_of _ (by omega) (by omega)
theorem ix_len {A : Type} {M : List A} {i : Nat} (h : i < M.length) : ∃ y, ix M (i : Int) = some y := ⟨_, by rw [ix_get, List.getElem?_eq_getElem h]⟩
end Go.PF
namespace Go.PF
open Go.Pu
structure Rv (xs : List Int) (i : Nat) (ys : List Int) : Prop where
 len : ys.length = xs.length
 at_ : ∀ m, m < xs.length → ys[m]? = if m < i ∨ xs.length ≤ m + i then xs[xs.length - 1 - m]? else xs[m]?
theorem Rv.step {xs ys : List Int} {i : Nat} (h : Rv xs i ys) (hi : i + i + 1 < xs.length) {a b : Int} (ha : ys[i]? = some a) (hb : ys[xs.length - 1 - i]? = some b) :
 Rv xs (i + 1) ((ys.set i b).set (xs.length - 1 - i) a) := by
 have hl := h.len
 refine ⟨by simp [hl], fun m hm => ?_⟩
 have h1 := h.at_ i (by omega); rw [ha, if_neg (by omega)] at h1
 have h2 := h.at_ (xs.length - 1 - i) (by omega); rw [hb, if_neg (by omega)] at h2
 rw [List.getElem?_set]
 by_cases e : xs.length - 1 - i = m
 · rw [if_pos e, if_pos (by simp [hl]; omega), if_pos (by omega), show xs.length - 1 - m = i by omega]; exact h1
 · rw [if_neg e, List.getElem?_set]
   by_cases e2 : i = m
   · subst e2; rw [if_pos rfl, if_pos (by omega), if_pos (by omega)]; exact h2
   · rw [if_neg e2, h.at_ m hm]
     by_cases c : m < i ∨ xs.length ≤ m + i
     · rw [if_pos c, if_pos (by omega)]
     · rw [if_neg c, if_neg (by omega)]
theorem Rv.fin {xs ys : List Int} {i : Nat} (h : Rv xs i ys) (hi : ¬ i + i + 1 < xs.length) : ys = xs.reverse := by
 have hl := h.len
 apply List.ext_getElem?
 intro m
 by_cases hm : m < xs.length
 · rw [h.at_ m hm, List.getElem?_reverse hm]
   split
   · rfl
   · congr 1; omega
 · rw [List.getElem?_eq_none (by omega), List.getElem?_eq_none (by simp; omega)]
theorem bdR_rev {β : Type} {xs : List Int} {body : List Int × Int × Int → Option (Lp (List Int × Int × Int) Empty)} {k : List Int × Int × Int → Option β} {l : Empty → Option β} {r : Option β}
 (h1 : ∀ (i : Nat) ys a b, i + i + 1 < xs.length → ys.length = xs.length → ys[i]? = some a → ys[xs.length - 1 - i]? = some b → body (ys, (i : Int), len xs - 1 - i) = some (.nx ((ys.set i b).set (xs.length - 1 - i) a, ((i + 1 : Nat) : Int), len xs - 1 - ((i + 1 : Nat) : Int))))
 (h2 : ∀ (i : Nat) ys, ¬ i + i + 1 < xs.length → ∃ p, body (ys, (i : Int), len xs - 1 - i) = some (.bk (ys, p))) (hk : ∀ p, k (xs.reverse, p) = r) : bdR (iter body (xs, 0, len xs - 1)) k l = r := by
 have key : ∀ (k i : Nat) ys, xs.length - i - i ≤ k → Rv xs i ys → ∃ p, iter body (ys, (i : Int), len xs - 1 - i) = some (.go (xs.reverse, p)) := by
  intro k
  induction k with
  | zero =>
   intro i ys hk hR
   obtain ⟨p, hp⟩ := h2 i ys (by omega)
   refine ⟨p, ?_⟩
   rw [iter_bk hp, hR.fin (by omega)]
  | succ k ih =>
   intro i ys hk hR
   by_cases hi : i + i + 1 < xs.length
   · obtain ⟨a, ha⟩ : ∃ a, ys[i]? = some a := ⟨_, List.getElem?_eq_getElem (by rw [hR.len]; omega)⟩
     obtain ⟨b, hb⟩ : ∃ b, ys[xs.length - 1 - i]? = some b := ⟨_, List.getElem?_eq_getElem (by rw [hR.len]; omega)⟩
     rw [iter_nx (h1 i ys a b hi hR.len ha hb)]
     exact ih _ _ (by omega) (hR.step hi ha hb)
   · obtain ⟨p, hp⟩ := h2 i ys hi
     exact ⟨p, by rw [iter_bk hp, hR.fin hi]⟩
 obtain ⟨p, hp⟩ := key xs.length 0 xs (by omega) ⟨rfl, fun m hm => by rw [if_neg (by omega)]⟩
 rw [show len xs - 1 - ((0 : Nat) : Int) = len xs - 1 by omega, show ((0 : Nat) : Int) = 0 from rfl] at hp
 rw [hp, bdR_go]; exact hk p
theorem slices_Reverse_eq {xs : List Int} (hl : xs.length ≤ lim) : slices_Reverse_int_int xs = some xs.reverse := by
 unfold slices_Reverse_int_int
 rw [wr_len (by unfold lim at hl; omega)]
 refine bdR_rev ?ha ?hb (fun p => rfl)
 case ha =>
  intro i ys a b hi hy h1 h2
  have hc : decide ((i : Int) < len xs - 1 - i) = true := by rw [len_eq]; simp; omega
  have hj : len xs - 1 - (i : Int) = ((xs.length - 1 - i : Nat) : Int) := by rw [len_eq]; omega
  have h3 : (ys.set i b)[xs.length - 1 - i]? = some b := by rw [List.getElem?_set_ne (by omega)]; exact h2
  unfold lim at hl
  simp only [hc, cond_true]
  rw [hj]
  simp only [ix_get, h1, h2, bd_some, put_ok (show i < ys.length by omega), h3, put_ok (show xs.length - 1 - i < (ys.set i b).length by simp; omega)]
  rw [wr_of _ (by omega) (by omega), wr_of _ (by omega) (by omega)]
  have e1 : ((xs.length - 1 - i : Nat) : Int) - 1 = len xs - 1 - ((i + 1 : Nat) : Int) := by rw [len_eq]; omega
  rw [e1]; rfl
 case hb =>
  intro i ys hi
  have hc : decide ((i : Int) < len xs - 1 - i) = false := by rw [len_eq]; simp; omega
  simp only [hc, cond_false]
  exact ⟨_, rfl⟩
end Go.PF
namespace Go.PF
open Go.Pu
theorem chk_lem {A : Type} {xs : List A} (h : xs.length ≤ 1000000) : chk (len xs) = some xs.length := by
 unfold chk; rw [if_pos (by rw [len_eq]; omega), len_eq]; simp
end Go.PF
namespace Go.PF
open Go.Pu
theorem index_at {v : Int} : ∀ {a b : List Int}, v ∉ a → slices_Index_int_int (a ++ v :: b) v = some ((a.length : Nat) : Int) := by
 intro a b hv
 unfold slices_Index_int_int
 have key : ∀ (a : List Int) (k : Nat), v ∉ a → forLFrom (S := Unit) (X := Int) (fun i22 y21 s22 => (bif (v == y21) then some (Lp.rt ((i22 : Nat) : Int)) else some (Lp.nx ()))) (a ++ v :: b) k () = some (.rt (((k + a.length : Nat) : Nat) : Int)) := by
  intro a
  induction a with
  | nil => intro k _; simp [forLFrom]
  | cons x a ih =>
   intro k h
   rw [List.mem_cons, not_or] at h
   rw [List.cons_append]
   unfold forLFrom
   rw [show (v == x) = false by rw [beq_eq_false_iff_ne]; exact h.1]
   simp only [cond_false]
   rw [ih (k + 1) h.2]
   simp; omega
 unfold forL
 rw [key a 0 hv]
 simp
end Go.PF
namespace Go.PF
open Go.Pu
def premP (x : PcStep) : List Int := bif x.kind == 2 then [x.a, x.b] else bif x.kind == 3 then [x.a] else []
structure IsU (S : List PcStep) : Prop where
 le : S.length ≤ 300
 poly : ∀ {x : PcStep}, x ∈ S → x.poly.length ≤ 64
 kind : ∀ {x : PcStep}, x ∈ S → x.kind = 1 ∨ x.kind = 2 ∨ x.kind = 3
 prem : ∀ {i : Nat} {x : PcStep}, S[i]? = some x → ∀ k ∈ premP x, 0 ≤ k ∧ k < i
theorem premP_len (x : PcStep) : (premP x).length ≤ 2 := by
 unfold premP; cases x.kind == 2 <;> cases x.kind == 3 <;> simp
def nstP (M : List Bool) (p : PcStep × Nat) : List Bool := bif bAt M p.2 then setT M (premP p.1) else M
theorem nst_lenP {M : List Bool} {p : PcStep × Nat} : (nstP M p).length = M.length := by unfold nstP; cases bAt M p.2 <;> simp [setT_len]
def remP (S : List PcStep) (k : Nat) (M : List Bool) : List Bool := (S.take k).zipIdx.reverse.foldl nstP M
def maskP (S : List PcStep) : List Bool := remP S S.length ((List.replicate S.length false).set (S.length - 1) true)
theorem rem_succP {S : List PcStep} {k : Nat} {x : PcStep} (hx : S[k]? = some x) (M : List Bool) : remP S (k + 1) M = remP S k (nstP M (x, k)) := by
 unfold remP; rw [take_rev hx, List.foldl_cons]
theorem rem_outP {S : List PcStep} (h : IsU S) : ∀ {k i : Nat} {M : List Bool}, k ≤ S.length → k ≤ i + 1 → (remP S k M)[i]? = M[i]? := by
 intro k
 induction k with
 | zero => intro i M _ _; rfl
 | succ k ih =>
  intro i M hk hi
  obtain ⟨x, hx⟩ : ∃ x, S[k]? = some x := ⟨_, List.getElem?_eq_getElem (by omega)⟩
  rw [rem_succP hx, ih (by omega) (by omega)]
  unfold nstP
  cases bAt M k with
  | true => exact setT_out (h.prem hx) (by omega)
  | false => rfl
theorem rem_lenP {S : List PcStep} : ∀ {k : Nat} {M : List Bool}, k ≤ S.length → (remP S k M).length = M.length := by
 intro k
 induction k with
 | zero => intro M _; rfl
 | succ k ih =>
  intro M hk
  obtain ⟨x, hx⟩ : ∃ x, S[k]? = some x := ⟨_, List.getElem?_eq_getElem (by omega)⟩
  rw [rem_succP hx, ih (by omega), nst_lenP]
theorem mask_lenP (S : List PcStep) : (maskP S).length = S.length := by unfold maskP; rw [rem_lenP (Nat.le_refl _)]; simp
theorem mask_premP {S : List PcStep} (h : IsU S) {i : Nat} {x : PcStep} (hx : S[i]? = some x) (hm : bAt (maskP S) i = true) : ∀ k ∈ premP x, bAt (maskP S) k.toNat = true := by
  intro k hk
  have hi := (List.getElem?_eq_some_iff.1 hx).1
  have key : ∀ (m : Nat) (M : List Bool), M.length = S.length → m ≤ S.length → (i < m ∨ bAt M k.toNat = true) → bAt (remP S m M) i = true → bAt (remP S m M) k.toNat = true := by
    intro m
    induction m with
    | zero => intro M hM _ h1 _; rcases h1 with h1 | h1; · omega
              · exact h1
    | succ m ih =>
      intro M hM hm' h1 h2
      obtain ⟨y, hy⟩ : ∃ y, S[m]? = some y := ⟨_, List.getElem?_eq_getElem (by omega)⟩
      rw [rem_succP hy] at h2 ⊢
      refine ih _ (by rw [nst_lenP, hM]) (by omega) ?_ h2
      by_cases e : i = m
      · subst e
        rw [hx] at hy; cases hy
        right
        have h3 : bAt M i = true := by
          have := rem_outP h (k := i) (i := i) (M := nstP M (x, i)) (by omega) (by omega)
          unfold bAt at h2 ⊢
          rw [this] at h2
          unfold nstP at h2
          cases hb : bAt M i with
          | true => exact hb
          | false => rw [hb] at h2; exact h2
        unfold nstP
        simp only [h3, cond_true]
        exact setT_in (fun z hz => by have := h.prem hx z hz; omega) (.inl hk)
      · rcases h1 with h1 | h1
        · exact .inl (by omega)
        · right
          unfold nstP
          cases bAt M m with
          | true => exact setT_in (fun z hz => by have := h.prem hy z hz; omega) (.inr h1)
          | false => exact h1
  have hk1 := h.prem hx k hk
  exact key _ _ (by simp) (Nat.le_refl _) (.inl hi) hm
def needP (S : List PcStep) : List Nat := (List.range S.length).filter (bAt (maskP S))
def needIP (S : List PcStep) : List Int := (needP S).map fun i => ((i : Nat) : Int)
theorem need_leP (S : List PcStep) : (needP S).length ≤ S.length := by
 have := List.length_filter_le (bAt (maskP S)) (List.range S.length); unfold needP; simpa using this
def tailNP (S : List PcStep) (k : Nat) : List Int := (((List.range' k (S.length - k)).filter (bAt (maskP S))).reverse).map fun i => ((i : Nat) : Int)
theorem tailN_stepP {S : List PcStep} {k : Nat} (hk : k < S.length) : tailNP S k = bif bAt (maskP S) k then tailNP S (k + 1) ++ [((k : Nat) : Int)] else tailNP S (k + 1) := by
 unfold tailNP
 rw [show S.length - k = (S.length - (k + 1)) + 1 by omega, List.range'_succ, List.filter_cons]
 cases bAt (maskP S) k <;> simp
def needToP (S : List PcStep) (k : Nat) : List Nat := (List.range k).filter (bAt (maskP S))
theorem needTo_allP (S : List PcStep) : needToP S S.length = needP S := rfl
theorem needTo_succP (S : List PcStep) (k : Nat) : needToP S (k + 1) = bif bAt (maskP S) k then needToP S k ++ [k] else needToP S k := by
 unfold needToP
 rw [List.range_succ, List.filter_append]
 cases h : bAt (maskP S) k <;> simp [h]
theorem needTo_leP (S : List PcStep) (k : Nat) : (needToP S k).length ≤ k := by
 have := List.length_filter_le (bAt (maskP S)) (List.range k); unfold needToP; simpa using this
theorem mask_ixP {S : List PcStep} {i : Nat} {x : PcStep} (hx : S[i]? = some x) : ix (maskP S) (i : Int) = some (bAt (maskP S) i) := by
 have hi := (List.getElem?_eq_some_iff.1 hx).1
 rw [ix_get]; unfold bAt; rw [List.getElem?_eq_getElem (by rw [mask_lenP]; exact hi)]; rfl
theorem needI_atP {S : List PcStep} {j : Nat} {k : Int} (hj : (needIP S)[j]? = some k) : ∃ i x, (needP S)[j]? = some i ∧ k = ((i : Nat) : Int) ∧ S[i]? = some x ∧ bAt (maskP S) i = true := by
 unfold needIP at hj
 rw [List.getElem?_map] at hj
 cases hn : (needP S)[j]? with
 | none => rw [hn] at hj; cases hj
 | some i =>
  rw [hn] at hj
  have hm := List.mem_of_getElem? hn
  unfold needP at hm
  rw [List.mem_filter, List.mem_range] at hm
  exact ⟨i, S[i], rfl, by simpa using hj.symm, List.getElem?_eq_getElem hm.1, hm.2⟩
theorem needI_lengthP (S : List PcStep) : (needIP S).length = (needP S).length := by unfold needIP; simp
def posNP (S : List PcStep) (k : Int) : Int := (((needToP S k.toNat).length : Nat) : Int)
def trimXP (S : List PcStep) (x : PcStep) : PcStep := bif x.kind == 2 then ⟨x.kind, x.poly, posNP S x.a, posNP S x.b, x.x, x.y⟩ else bif x.kind == 3 then ⟨x.kind, x.poly, posNP S x.a, x.b, x.x, x.y⟩ else x
def trimAtP (S : List PcStep) (i : Nat) : Option PcStep := (S[i]?).map (trimXP S)
def trimLP (S : List PcStep) (l : List Nat) : List PcStep := l.filterMap (trimAtP S)
theorem trimL_lenP {S : List PcStep} : ∀ {l : List Nat}, (∀ i ∈ l, i < S.length) → (trimLP S l).length = l.length := by
 intro l
 induction l with
 | nil => intro _; rfl
 | cons i l ih =>
  intro h
  have hi := h i (by simp)
  have := ih fun j hj => h j (by simp [hj])
  unfold trimLP at this ⊢
  have e : trimAtP S i = some (trimXP S S[i]) := by unfold trimAtP; rw [List.getElem?_eq_getElem hi]; rfl
  rw [List.filterMap_cons_some e, List.length_cons, List.length_cons, this]
theorem needTo_ltP {S : List PcStep} {k : Nat} : ∀ i ∈ needToP S k, i < k := fun i hi => by
 unfold needToP at hi; rw [List.mem_filter, List.mem_range] at hi; exact hi.1
theorem need_splitP {S : List PcStep} {k : Nat} (hk : k < S.length) (hm : bAt (maskP S) k = true) : ∃ r, needP S = needToP S k ++ k :: r := by
 refine ⟨(List.range' (k + 1) (S.length - (k + 1))).filter (bAt (maskP S)), ?_⟩
 unfold needP needToP
 have e : List.range S.length = List.range k ++ k :: List.range' (k + 1) (S.length - (k + 1)) := by
  have h1 := List.range'_append_1 (s := 0) (m := k) (n := S.length - k)
  rw [Nat.zero_add, show k + (S.length - k) = S.length by omega] at h1
  rw [List.range_eq_range', List.range_eq_range', ← List.range'_succ, show S.length - (k + 1) + 1 = S.length - k by omega]
  exact h1.symm
 rw [e, List.filter_append, List.filter_cons, if_pos hm]
theorem index_needP {S : List PcStep} {k : Int} (h0 : 0 ≤ k) (hk : k < S.length) (hm : bAt (maskP S) k.toNat = true) : slices_Index_int_int (needIP S) k = some (posNP S k) := by
 obtain ⟨r, hr⟩ := need_splitP (S := S) (k := k.toNat) (by omega) hm
 unfold needIP
 rw [hr, List.map_append, List.map_cons, show ((k.toNat : Nat) : Int) = k by omega, index_at, List.length_map]
 · rfl
 · intro hc
   obtain ⟨i, hi, he⟩ := List.mem_map.1 hc
   have := needTo_ltP i hi; omega
end Go.PF
namespace Go.PF
open Go.Pu
structure okP1 (P : List Term) : Prop where
 len : P.length ≤ 70
 ok : ∀ t ∈ P, okTerm t
structure okS1 (s : PcStep) : Prop where
 kind : okI s.kind
 poly : okP1 s.poly
 a : okI s.a
 b : okI s.b
 x : okI s.x
 y : okI s.y
theorem spF_len : ∀ {a : List Int} {i : Nat}, (spF i a).length ≤ a.length
 | [], _ => Nat.le_refl _
 | x :: a, i => by
  have := spF_len (a := a) (i := i + 1)
  unfold spF
  cases x == 0 <;> simp <;> omega
theorem sp_okP {p v : Int} (h : PV p v) {a : List Int} (ha : Dn p (nN v) a) : (sp a).length ≤ 64 ∧ ∀ t ∈ sp a, okTerm t := by
 have hN := (nN_le h.v6).2; have hp := h.pos
 have h1 : (sp a).length ≤ a.length := spF_len
 have := ha.len
 refine ⟨by omega, fun t ht => ?_⟩
 obtain ⟨j, j1, j2, j3⟩ := mem_sp ht
 have := ha.bd _ j3
 exact ⟨by rw [j2]; unfold okI; omega, by unfold okI; omega⟩
theorem sp_okP1 {p v : Int} (h : PV p v) {a : List Int} (ha : Dn p (nN v) a) : okP1 (sp a) := by
 have := sp_okP h ha
 exact ⟨by omega, this.2⟩
theorem set_Dn {p : Int} {N : Nat} {a : List Int} (ha : Dn p N a) {k : Nat} {x : Int} (hx : 0 ≤ x ∧ x < p) : Dn p N (a.set k x) :=
 ⟨by rw [List.length_set]; exact ha.len, fun y hy => by
  rcases List.mem_or_eq_of_mem_set hy with g | rfl
  · exact ha.bd y g
  · exact hx⟩
theorem okP1_app {P : List Term} (h : P.length ≤ 64 ∧ ∀ t ∈ P, okTerm t) {t : Term} (ht : okTerm t) : okP1 (P ++ [t]) :=
 ⟨by rw [List.length_append, List.length_singleton]; omega, fun u hu => by
  rcases List.mem_append.1 hu with g | g
  · exact h.2 u g
  · rw [List.mem_singleton] at g; subst g; exact ht⟩
theorem okI_sm {n : Int} (h : -1000000 ≤ n ∧ n ≤ 1000000) : okI n := by unfold okI; omega
theorem dr_poly {n : Nat} {c : l1Cur} (h : okC (n + 100) c) (p v : Int) : Dr n (spec_l1Cur_poly c p v) okP1 := by
 have hlim : lim = 4294967296 := rfl
 unfold spec_l1Cur_poly
 rw [spec_l18Prime_eq]
 cases hpv : pvB p v with
 | false =>
  simp only [Bool.not_false, cond_true]
  rw [app_ok (by simp; omega)]
  refine ⟨_, _, rfl, h.le, okP1_app (P := []) ⟨by simp, fun t ht => by cases ht⟩ ⟨okI_sm (by decide), okI_sm (by decide)⟩⟩
 | true =>
 have hP := pvB_iff.1 hpv
 have hp := hP.pos
 have hN := nN_le hP.v6
 simp only [Bool.not_true, cond_false]
 rw [nn_ok hP.v0, bd_some, zs_mk hP.v0 hP.v6, bd_some]
 refine (dr_among (n := n + 98) h (by simp)).bind fun k c1 h1 hk => ?_
 have hk9 : 0 ≤ k ∧ k ≤ 9 := by simp only [List.mem_cons, List.not_mem_nil, or_false] at hk; omega
 refine dr_loop (fun s => s.2.2.2.2.toNat) (fun s => okC (n + 10 + 4 * s.2.2.2.2.toNat) (l1Cur.mk s.2.1 s.2.2.1 s.2.2.2.1) ∧ 0 ≤ s.2.2.2.2 ∧ s.2.2.2.2 ≤ 9 ∧ Dn p (nN v) s.1)
  (fun s => okC (n + 10) (l1Cur.mk s.2.1 s.2.2.1 s.2.2.2.1) ∧ Dn p (nN v) s.1) ⟨h1.le (by dsimp only; omega), hk9.1, hk9.2, zs_Dn hp.1⟩ ?_ ?_
 · rintro ⟨a, cd, at_, sd, j⟩ ⟨g1, g2, g3, g4⟩
   simp only at g1 g2 g3 g4 ⊢
   cases hd : decide (0 < j) with
   | false => exact .inr ⟨_, rfl, g1.le, g4⟩
   | true =>
    have hj : 0 < j := of_decide_eq_true hd
    have hw : wr (j - 1) = j - 1 := wr_of _ (by omega) (by omega)
    left
    simp only [cond_true]
    have e0 : n + 10 + 4 * j.toNat = (n + 10 + 4 * (j - 1).toNat + 2) + 2 := by omega
    rw [e0] at g1
    obtain ⟨r, c2, e1, k1, k2⟩ := dr_pick g1 (len a)
    obtain ⟨x, c3, e2, k3, k4⟩ := dr_pick k1 p
    have hal := g4.len
    obtain ⟨y, hy, _⟩ := ix_of (xs := a) (i := r) k2.1 (by have := k2.2.2; rw [len_eq] at this; omega)
    have hpt : put a r x = some (a.set r.toNat x) := by unfold put; rw [if_pos ⟨k2.1, by have := k2.2.2; rw [len_eq] at this; omega⟩]
    rw [e1, bd_some]
    dsimp only
    rw [e2, bd_some]
    dsimp only
    rw [hy, bd_some, hpt, bd_some, hw]
    exact ⟨_, rfl, ⟨k3, by dsimp only; omega, by dsimp only; omega, set_Dn g4 ⟨k4.1, by omega⟩⟩, by dsimp only; omega⟩
 · rintro ⟨a, cd, at_, sd, j⟩ ⟨g1, g2⟩
   simp only at g1 g2 ⊢
   rw [spec_l18Sparse_eq (by omega) (by rw [g2.len]; omega), bd_some, map_tmod g2.bd]
   have hs := sp_okP hP g2
   have pl := shl_pow hP.v0 hP.v6
   refine (dr_pick (n := n + 8) g1 32).bind fun k c2 h2 _ => ?_
   show Dr n (bif (k == 0) then _ else _) _
   cases k == 0 with
   | true =>
    simp only [cond_true]
    try rw [nn_ok hP.v0]
    rw [bd_some]
    refine (dr_among (n := n) h2.le (by simp)).bind fun x c3 h3 hx => ?_
    rw [app_ok (by simp; omega)]
    refine ⟨_, _, rfl, h3, okP1_app hs ⟨?_, okI_sm (by dsimp only; omega)⟩⟩
    simp only [List.mem_cons, List.not_mem_nil, or_false] at hx
    rw [pl] at hx
    exact okI_sm (by dsimp only; omega)
   | false =>
   show Dr n (bif (k == 1) then _ else _) _
   cases k == 1 with
   | false => exact ⟨_, _, rfl, h2.le, by have := hs.1; omega, hs.2⟩
   | true =>
   simp only [cond_true]
   cases hd : decide (0 < len (sp a)) with
   | false => exact ⟨_, _, rfl, h2.le, by have := hs.1; omega, hs.2⟩
   | true =>
    have hl : 0 < (sp a).length := by have := of_decide_eq_true hd; rw [len_eq] at this; omega
    simp only [cond_true]
    refine (dr_among (n := n) h2.le (by simp)).bind fun x c3 h3 hx => ?_
    obtain ⟨y, hy, hg⟩ := ix0 hl
    obtain ⟨ys, hys⟩ := put_is (l := sp a) (i := 0) (Term.mk y.mono x) (by omega) (by omega)
    obtain ⟨_, _, rfl⟩ := put_some hys
    dsimp only
    rw [hy, bd_some, hys]
    simp only [List.mem_cons, List.not_mem_nil, or_false] at hx
    refine ⟨_, _, rfl, h3, by rw [List.length_set]; omega, fun t ht => ?_⟩
    rcases List.mem_or_eq_of_mem_set ht with g | rfl
    · exact hs.2 t g
    · exact ⟨(hs.2 y hg).1, okI_sm (by dsimp only; omega)⟩
theorem dr_cnf20 {n : Nat} {c : l1Cur} (h : okC (n + 2000) c) : ∃ p F c', spec_l1Cur_cnf20 c = some (p, F, c') ∧ okC n c' ∧ okI p ∧ SmC 100 12 F := by
 unfold spec_l1Cur_cnf20
 obtain ⟨r, c1, e1, h1, hr⟩ := dr_pick (n := n + 1990) (c := c) h.le 24
 rw [e1, bd_some]
 dsimp only
 have hq : wr (5 + wr (r.tdiv 11)) = ((5 + (r / 11).toNat : Nat) : Int) ∧ (r / 11).toNat ≤ 2 := by
  rw [Int.tdiv_eq_ediv_of_nonneg hr.1, wr_of (r / 11) (by omega) (by omega), wr_of _ (by omega) (by omega)]
  omega
 rw [hq.1, show (0 : Int) = ((0 : Nat) : Int) from rfl, cut_ok (Nat.zero_le _) (by have := hq.2; simp; omega), bd_some]
 obtain ⟨p, c2, e2, h2, hp⟩ := dr_among (n := n + 1988) (c := c1) h1 (l := ([2, 3, 3, 5, 2, 4, 7].take (5 + (r / 11).toNat)).drop 0) (by simp)
 rw [e2, bd_some]
 dsimp only
 have hp' := List.mem_of_mem_take (List.mem_of_mem_drop hp)
 simp only [List.mem_cons, List.not_mem_nil, or_false] at hp'
 have hpo : okI p := okI_sm (by omega)
 obtain ⟨F, c3, e3, h3, hF⟩ := dr_cnf (n := n + 900) (c := c2) h2.le
 rw [e3, bd_some]
 dsimp only
 obtain ⟨b, c4, e4, h4, _⟩ := dr_one (n := n + 800) (c := c3) h3.le 2
 rw [e4, bd_some]
 have tail : ∀ {cd at_ sd vs cl}, okC (n + 10) (l1Cur.mk cd at_ sd) → SmC 100 12 ⟨vs, cl⟩ → ∃ p' F' c', (bd (PF.spec_l1Cur_one (l1Cur.mk cd at_ sd) 24) (fun r127 => (bif r127.1 then bd (PF.spec_l1Cur_among r127.2 [6, 7]) (fun r146 => some (p, (Cnf.mk r146.1 cl), r146.2)) else some (p, (Cnf.mk vs cl), r127.2)))) = some (p', F', c') ∧ okC n c' ∧ okI p' ∧ SmC 100 12 F' := by
  intro cd at_ sd vs cl g1 g2
  obtain ⟨b, c5, e5, h5, _⟩ := dr_one (n := n + 8) g1 24
  rw [e5, bd_some]
  cases b with
  | false => exact ⟨_, _, _, rfl, h5.le, hpo, g2⟩
  | true =>
   obtain ⟨x, c6, e6, h6, hx⟩ := dr_among (n := n) (c := c5) h5.le (l := [6, 7]) (by simp)
   simp only [cond_true]
   rw [e6]
   simp only [List.mem_cons, List.not_mem_nil, or_false] at hx
   exact ⟨_, _, _, rfl, h6, hpo, okI_sm (by dsimp only; omega), g2.len, g2.cl⟩
 cases b with
 | false => exact tail h4.le hF
 | true =>
  obtain ⟨G, c5, e5, h5, hG⟩ := dr_hard (n := n + 100) (c := c4) h4.le
  simp only [cond_true]
  rw [e5, bd_some, bdR_go]
  exact tail h5.le (hG.le (by omega) (by omega))
end Go.PF
namespace Go.PF
open Go.Pu
def okPc (S : List PcStep) : Prop := S.length ≤ 301 ∧ ∀ s ∈ S, okS1 s
theorem okPc.ok {S : List PcStep} (h : okPc S) : okPs S := ⟨by have := h.1; omega, fun s hs => by have := (h.2 s hs).poly.len; omega⟩
theorem okPc_put {S : List PcStep} (h : okPc S) {k : Int} {s : PcStep} (h0 : 0 ≤ k) (h1 : k < S.length) (hs : okS1 s) : put S k s = some (S.set k.toNat s) ∧ okPc (S.set k.toNat s) ∧ (S.set k.toNat s).length = S.length := by
 refine ⟨by unfold put; rw [if_pos ⟨h0, h1⟩], ⟨by rw [List.length_set]; exact h.1, fun y hy => ?_⟩, List.length_set⟩
 rcases List.mem_or_eq_of_mem_set hy with g | rfl
 · exact h.2 y g
 · exact hs
def okDr (p : Int) (N : Nat) (s : PcStep) : Prop := okS1 s ∧ ∃ a, Dn p N a ∧ s.poly = sp a
theorem algB_iff {p : Int} {F : Cnf} (h : algB p F = true) : PV p F.vars ∧ cnfB F = true := by
 unfold algB at h
 have := (Bool.and_eq_true _ _).mp h
 exact ⟨pvB_iff.1 this.1, this.2⟩
theorem dr_pc {n : Nat} {c : l1Cur} (h : okC (n + 2000) c) {p : Int} {F : Cnf} (hF : okCnf F) : Dr n (spec_l1Cur_pc c p F) okPc := by
 have hlim : lim = 4294967296 := rfl
 unfold spec_l1Cur_pc
 rw [spec_l20Asked_eq hF, bd_some]
 cases ha : algB p F with
 | false => exact ⟨_, _, rfl, h.le, by simp, fun s hs => by cases hs⟩
 | true =>
 obtain ⟨hP, hC⟩ := algB_iff ha
 have hp := hP.pos
 have hv := hP.v0; have hv6 := hP.v6
 have hCl := cnfB_isC hC
 cases hl0 : (len F.clauses == 0) with
 | true => exact ⟨_, _, rfl, h.le, by simp, fun s hs => by cases hs⟩
 | false =>
 have hl : 0 < F.clauses.length := by
  have := ne_of_beq_false hl0
  rw [len_eq] at this; omega
 have hlN := cnfB_len hC
 simp only [Bool.not_true, cond_false]
 refine (dr_among (n := n + 1998) h (by simp)).bind fun k c1 h1 hk => ?_
 have hk9 : 1 ≤ k ∧ k ≤ 12 := by simp only [List.mem_cons, List.not_mem_nil, or_false] at hk; omega
 refine dr_loop (fun s => s.2.2.2.2.toNat) (fun s => okC (n + 1000 + 14 * s.2.2.2.2.toNat) (l1Cur.mk s.2.1 s.2.2.1 s.2.2.2.1) ∧ 0 ≤ s.2.2.2.2 ∧ s.1.length + s.2.2.2.2 = k ∧ ∀ y ∈ s.1, okDr p (nN F.vars) y)
  (fun s => okC (n + 1000) (l1Cur.mk s.2.1 s.2.2.1 s.2.2.2.1) ∧ s.1.length = k ∧ ∀ y ∈ s.1, okS1 y) ⟨h1.le (by dsimp only; omega), by dsimp only; omega, by dsimp only; simp, fun s hs => by cases hs⟩ ?_ ?_
 · rintro ⟨out, cd, at_, sd, j⟩ ⟨g1, g2, g3, g4⟩
   simp only at g1 g2 g3 g4 ⊢
   cases hd : decide (0 < j) with
   | false => exact .inr ⟨_, rfl, g1.le, by have := of_decide_eq_false hd; dsimp only; omega, fun s hs => (g4 s hs).1⟩
   | true =>
   have hj : 0 < j := of_decide_eq_true hd
   have hw : wr (j - 1) = j - 1 := wr_of _ (by omega) (by omega)
   left
   simp only [cond_true]
   rw [hw]
   have e0 : n + 1000 + 14 * j.toNat = (n + 1000 + 14 * (j - 1).toNat) + 14 := by omega
   rw [e0] at g1
   obtain ⟨M, hM⟩ : ∃ M, M = n + 1000 + 14 * (j - 1).toNat := ⟨_, rfl⟩
   rw [← hM] at g1
   have HI : ∀ {s' : List PcStep × List Int × Int × Int × Int}, okC M (l1Cur.mk s'.2.1 s'.2.2.1 s'.2.2.2.1) → s'.2.2.2.2 = j - 1 → s'.1.length = out.length + 1 → (∀ y ∈ s'.1, okDr p (nN F.vars) y) →
    (okC (n + 1000 + 14 * s'.2.2.2.2.toNat) (l1Cur.mk s'.2.1 s'.2.2.1 s'.2.2.2.1) ∧ 0 ≤ s'.2.2.2.2 ∧ s'.1.length + s'.2.2.2.2 = k ∧ ∀ y ∈ s'.1, okDr p (nN F.vars) y) ∧ s'.2.2.2.2.toNat < j.toNat := by
    intro s' q1 q2 q3 q4
    rw [q2, ← hM]
    exact ⟨⟨q1, by omega, by omega, q4⟩, by omega⟩
   -- a new step
   have fin : ∀ {s : PcStep} {c' : l1Cur}, okDr p (nN F.vars) s → okC M c' → ∃ s', (bd (app out [s]) fun xs => (some (Lp.nx (xs, c'.code, c'.at_, c'.seed, j - 1)) : Option (Lp (List PcStep × List Int × Int × Int × Int) Empty))) = some (.nx s') ∧ (okC (n + 1000 + 14 * s'.2.2.2.2.toNat) (l1Cur.mk s'.2.1 s'.2.2.1 s'.2.2.2.1) ∧ 0 ≤ s'.2.2.2.2 ∧ s'.1.length + s'.2.2.2.2 = k ∧ ∀ y ∈ s'.1, okDr p (nN F.vars) y) ∧ s'.2.2.2.2.toNat < j.toNat := by
    intro s c' hs hc
    rw [app_ok (by simp; omega)]
    refine ⟨_, rfl, HI hc rfl (by dsimp only; rw [List.length_append, List.length_singleton]) fun y hy => ?_⟩
    rcases List.mem_append.1 hy with g | g
    · exact g4 y g
    · rw [List.mem_singleton] at g; subst g; exact hs
   have ax : ∀ {c' : l1Cur}, okC (M + 2) c' → ∃ s', (bd (PF.spec_l1Cur_pick c' (len F.clauses)) (fun r450480 => bd (ix F.clauses r450480.1) (fun x474494 => bd (PF.spec_l18Clause p F.vars x474494) (fun r480488 => bd (app out [(PcStep.mk 1 r480488 r450480.1 0 0 0)]) (fun xs492488 => (some (Lp.nx (xs492488, r450480.2.code, r450480.2.at_, r450480.2.seed, j - 1)) : Option (Lp (List PcStep × List Int × Int × Int × Int) Empty))))))) = some (.nx s') ∧ (okC (n + 1000 + 14 * s'.2.2.2.2.toNat) (l1Cur.mk s'.2.1 s'.2.2.1 s'.2.2.2.1) ∧ 0 ≤ s'.2.2.2.2 ∧ s'.1.length + s'.2.2.2.2 = k ∧ ∀ y ∈ s'.1, okDr p (nN F.vars) y) ∧ s'.2.2.2.2.toNat < j.toNat := by
    intro c' hc
    obtain ⟨i, c2, e1, k1, k2⟩ := dr_pick hc (len F.clauses)
    have hk2 := k2.2.2
    rw [len_eq] at hk2
    obtain ⟨cl, hcl, hg⟩ := ix_of (xs := F.clauses) (i := i) k2.1 (by omega)
    rw [e1, bd_some]
    dsimp only
    rw [hcl, bd_some, spec_l18Clause_eq hP (hCl cl (List.mem_of_getElem? hg)), bd_some]
    have hD := clD_Dn (N := nN F.vars) hp.1 cl
    exact fin ⟨⟨okI_sm (by dsimp only; omega), sp_okP1 hP hD, okI_sm (by dsimp only; omega), okI_sm (by dsimp only; omega), okI_sm (by dsimp only; omega), okI_sm (by dsimp only; omega)⟩, _, hD, rfl⟩ k1
   cases hz : (len out == 0) with
   | true =>
    simp only [cond_true, bd_some]
    exact ax (c' := l1Cur.mk cd at_ sd) g1.le
   | false =>
   have ho : 0 < out.length := by
    have := ne_of_beq_false hz
    rw [len_eq] at this; omega
   simp only [cond_false]
   obtain ⟨b, c2, e1, k1, _⟩ := dr_one (n := M + 12) g1.le 3
   rw [e1, bd_some, bd_some]
   dsimp only
   cases b with
   | true => exact ax (c' := c2) k1.le
   | false =>
   simp only [cond_false]
   have two : ∀ {t : List Int × Int × Int × Bool}, okC (M + 10) (l1Cur.mk t.1 t.2.1 t.2.2.1) → (t.2.2.2 = true → 0 < F.vars) → ∃ s', (bif t.2.2.2 then bd (PF.spec_l1Cur_pick (l1Cur.mk t.1 t.2.1 t.2.2.1) (len out)) (fun r510537 => bd (PF.spec_l1Cur_pick r510537.2 F.vars) (fun r522537 => bd (ix out r510537.1) (fun x558558 => bd (PF.spec_l20Times p F.vars x558558.poly (wr (1 + r522537.1))) (fun r570552 => bd (app out [(PcStep.mk 3 r570552 r510537.1 0 (wr (1 + r522537.1)) 0)]) (fun xs585552 => (some (Lp.nx (xs585552, r522537.2.code, r522537.2.at_, r522537.2.seed, j - 1)) : Option (Lp (List PcStep × List Int × Int × Int × Int) Empty))))))) else bd (PF.spec_l1Cur_pick (l1Cur.mk t.1 t.2.1 t.2.2.1) (len out)) (fun r594568 => bd (PF.spec_l1Cur_pick r594568.2 (len out)) (fun r594576 => bd (PF.spec_l1Cur_pick r594576.2 p) (fun r594584 => bd (PF.spec_l1Cur_pick r594584.2 p) (fun r594592 => bd (ix out r594568.1) (fun x615606 => bd (ix out r594576.1) (fun x633606 => bd (PF.spec_l20Sum p F.vars x615606.poly r594584.1 x633606.poly r594592.1) (fun r645600 => bd (app out [(PcStep.mk 2 r645600 r594568.1 r594576.1 r594584.1 r594592.1)]) (fun xs666600 => (some (Lp.nx (xs666600, r594592.2.code, r594592.2.at_, r594592.2.seed, j - 1)) : Option (Lp (List PcStep × List Int × Int × Int × Int) Empty))))))))))) = some (.nx s') ∧ (okC (n + 1000 + 14 * s'.2.2.2.2.toNat) (l1Cur.mk s'.2.1 s'.2.2.1 s'.2.2.2.1) ∧ 0 ≤ s'.2.2.2.2 ∧ s'.1.length + s'.2.2.2.2 = k ∧ ∀ y ∈ s'.1, okDr p (nN F.vars) y) ∧ s'.2.2.2.2.toNat < j.toNat := by
    rintro ⟨cd, at_, sd, b⟩ q1 q2
    simp only at q1 q2 ⊢
    have at_out : ∀ i : Int, 0 ≤ i → (i = 0 ∨ i < len out) → ∃ y a, ix out i = some y ∧ Dn p (nN F.vars) a ∧ y.poly = sp a := fun i h0 h1 => by
     rw [len_eq] at h1
     obtain ⟨y, hy, hg⟩ := ix_of (xs := out) (i := i) h0 (by omega)
     obtain ⟨_, a, a1, a2⟩ := g4 y (List.mem_of_getElem? hg)
     exact ⟨y, a, hy, a1, a2⟩
    cases b with
    | true =>
     have hv1 := q2 rfl
     simp only [cond_true]
     obtain ⟨i, c3, e1, k1, k2⟩ := dr_pick (n := M + 8) q1 (len out)
     obtain ⟨u, c4, e2, k3, k4⟩ := dr_pick (n := M + 6) k1 F.vars
     obtain ⟨y, a, hy, a1, a2⟩ := at_out i k2.1 k2.2.2
     have hw1 : wr (1 + u) = 1 + u := wr_of _ (by omega) (by omega)
     have hu : u < F.vars := by omega
     rw [e1, bd_some]
     dsimp only
     rw [e2, bd_some]
     dsimp only
     rw [hy, bd_some, a2, hw1, spec_l20Times_eq hP a1 (by omega) (by omega), bd_some]
     have hD := mulT_Dn (N := nN F.vars) hp.1 (sp a) (sp (litD p (nN F.vars) (1 + u)))
     exact fin ⟨⟨okI_sm (by dsimp only; omega), sp_okP1 hP hD, okI_sm (by dsimp only; omega), okI_sm (by dsimp only; omega), okI_sm (by dsimp only; omega), okI_sm (by dsimp only; omega)⟩, _, hD, rfl⟩ k3.le
    | false =>
     simp only [cond_false]
     obtain ⟨i, c3, e1, k1, k2⟩ := dr_pick (n := M + 8) q1 (len out)
     obtain ⟨l, c4, e2, k3, k4⟩ := dr_pick (n := M + 6) k1 (len out)
     obtain ⟨x, c5, e3, k5, k6⟩ := dr_pick (n := M + 4) k3 p
     obtain ⟨z, c6, e4, k7, k8⟩ := dr_pick (n := M + 2) k5 p
     obtain ⟨y, a, hy, a1, a2⟩ := at_out i k2.1 k2.2.2
     obtain ⟨y', a', hy', a1', a2'⟩ := at_out l k4.1 k4.2.2
     rw [e1, bd_some]
     dsimp only
     rw [e2, bd_some]
     dsimp only
     rw [e3, bd_some]
     dsimp only
     rw [e4, bd_some]
     dsimp only
     rw [hy, bd_some, hy', bd_some, a2, a2', spec_l20Sum_eq hP ⟨by omega, by omega⟩ ⟨by omega, by omega⟩ a1 a1', bd_some]
     have hD := sumD_Dn (N := nN F.vars) (x := x) (y := z) hp.1 a1 a1'
     exact fin ⟨⟨okI_sm (by dsimp only; omega), sp_okP1 hP hD, okI_sm (by dsimp only; omega), okI_sm (by dsimp only; omega), okI_sm (by dsimp only; omega), okI_sm (by dsimp only; omega)⟩, _, hD, rfl⟩ k7.le
   cases hvv : decide (0 < F.vars) with
   | false =>
    simp only [cond_false, bd_some]
    exact two (t := (c2.code, c2.at_, c2.seed, false)) k1.le nofun
   | true =>
    simp only [cond_true]
    obtain ⟨b, c3, e2, k3, _⟩ := dr_one (n := M + 10) (c := c2) k1 2
    rw [show (l1Cur.mk c2.code c2.at_ c2.seed) = c2 from rfl, e2, bd_some, bd_some]
    exact two (t := (c3.code, c3.at_, c3.seed, b)) k3.le (fun _ => of_decide_eq_true hvv)
 · rintro ⟨out, cd, at_, sd, j⟩ ⟨g1, g2, g3⟩
   simp only at g1 g2 g3 ⊢
   have tail : ∀ {t : List PcStep × List Int × Int × Int}, okC (n + 700) (l1Cur.mk t.2.1 t.2.2.1 t.2.2.2) → 1 ≤ t.1.length ∧ t.1.length ≤ 12 → (∀ y ∈ t.1, okS1 y) → Dr n (bd (PF.spec_l1Cur_one (l1Cur.mk t.2.1 t.2.2.1 t.2.2.2) 40) (fun r676197 => (bif r676197.1 then bdR (iter (S := ((List PcStep) × (List Int) × Int × Int)) (X := Empty) (fun s676206 => bd (PF.spec_l1Cur_pick (l1Cur.mk s676206.2.1 s676206.2.2.1 s676206.2.2.2) 2) (fun r676308 => (bif (decide ((len s676206.1) < (wr (300 + r676308.1)))) then bd (ix s676206.1 0) (fun x676323 => bd (app s676206.1 [x676323]) (fun xs676332 => some (Lp.nx (xs676332, r676308.2.code, r676308.2.at_, r676308.2.seed)))) else some (Lp.bk (s676206.1, r676308.2.code, r676308.2.at_, r676308.2.seed))))) (t.1, r676197.2.code, r676197.2.at_, r676197.2.seed)) (fun s676206 => some (s676206.1, (l1Cur.mk s676206.2.1 s676206.2.2.1 s676206.2.2.2))) (fun x676206 => nomatch x676206) else some (t.1, r676197.2)))) okPc := by
    intro t q1 q2 q3
    refine (dr_one (n := n + 698) q1 40).bind fun b c2 h2 _ => ?_
    cases b with
    | false => exact ⟨_, _, rfl, h2.le, by omega, q3⟩
    | true =>
     simp only [cond_true]
     refine dr_loop (fun s => 301 - s.1.length) (fun s => okC (n + 2 + 2 * (301 - s.1.length)) (l1Cur.mk s.2.1 s.2.2.1 s.2.2.2) ∧ 1 ≤ s.1.length ∧ s.1.length ≤ 301 ∧ ∀ y ∈ s.1, okS1 y) (fun s => okC n (l1Cur.mk s.2.1 s.2.2.1 s.2.2.2) ∧ okPc s.1) ⟨h2.le (by dsimp only; omega), q2.1, by dsimp only; omega, q3⟩ ?_ (fun s hs => ⟨_, _, rfl, hs⟩)
     rintro ⟨os, cd, at_, sd⟩ ⟨k1, k2, k3, k4⟩
     simp only at k1 k2 k3 k4 ⊢
     have e0 : n + 2 + 2 * (301 - os.length) = (n + 2 * (301 - os.length)) + 2 := by omega
     rw [e0] at k1
     obtain ⟨b, c4, e2, m3, hb⟩ := dr_pick k1 2
     rw [e2, bd_some]
     have hb1 : b ≤ 1 := by omega
     have hw : wr (300 + b) = 300 + b := wr_of _ (by omega) (by omega)
     simp only
     rw [hw]
     cases hd : decide (len os < 300 + b) with
     | false => exact .inr ⟨_, rfl, m3.le, k3, k4⟩
     | true =>
      have hlt : (os.length : Int) < 300 + b := by have := of_decide_eq_true hd; rwa [len_eq] at this
      left
      obtain ⟨y, hy, hg⟩ := ix0 (l := os) (by omega)
      simp only [cond_true]
      rw [hy, bd_some, app_ok (by simp; omega), bd_some]
      refine ⟨_, rfl, ⟨m3.le (by dsimp only; rw [List.length_append, List.length_singleton]; omega), by dsimp only; rw [List.length_append, List.length_singleton]; omega, by dsimp only; rw [List.length_append, List.length_singleton]; omega, fun x hx => ?_⟩, by dsimp only; rw [List.length_append, List.length_singleton]; omega⟩
      rcases List.mem_append.1 hx with g | g
      · exact k4 x g
      · rw [List.mem_singleton] at g; subst g; exact k4 _ hg
   have ht : ∃ t, (bif ((len F.clauses) == 1) then bd (ix F.clauses 0) (fun x675649 => some ((len x675649) == 0)) else some false) = some t := by
    obtain ⟨y, hy, _⟩ := ix0 (l := F.clauses) hl
    rw [hy]
    cases (len F.clauses) == 1
    · exact ⟨_, rfl⟩
    · exact ⟨_, rfl⟩
   obtain ⟨t, ht⟩ := ht
   rw [ht, bd_some]
   have hS : ∃ S1, (bif t then bd (cut out 0 1) (fun xs675677 => some (Rs.go xs675677)) else some (Rs.go out)) = (some (Rs.go S1) : Option (Rs (List PcStep) Empty)) ∧ (1 ≤ S1.length ∧ S1.length ≤ 12) ∧ ∀ y ∈ S1, okS1 y := by
    cases t with
    | false => exact ⟨out, rfl, by omega, g3⟩
    | true =>
     simp only [cond_true]
     rw [show (0 : Int) = ((0 : Nat) : Int) from rfl, show (1 : Int) = ((1 : Nat) : Int) from rfl, cut_ok (by omega) (by omega), bd_some]
     exact ⟨_, rfl, by rw [List.drop_zero, List.length_take]; omega, fun y hy => g3 y (List.mem_of_mem_take (List.mem_of_mem_drop hy))⟩
   obtain ⟨S1, hS, hl1, hS2⟩ := hS
   rw [hS, bdR_go]
   have hS1 : okPc S1 := ⟨by omega, hS2⟩
   refine (dr_one (n := n + 998) g1 6).bind fun b c2 h2 _ => ?_
   dsimp only
   cases b with
   | false =>
    simp only [cond_false]
    rw [bdR_go]
    exact tail h2.le hl1 hS2
   | true =>
   simp only [cond_true]
   obtain ⟨i, c3, e1, k1, k2⟩ := dr_pick (n := n + 990) (c := c2) h2.le (len S1)
   obtain ⟨q, c4, e2, k3, k4⟩ := dr_pick (n := n + 980) (c := c3) k1.le 6
   have hi : i < S1.length := by have := k2.2.2; rw [len_eq] at this; omega
   obtain ⟨y, hy, hg⟩ := ix_of (xs := S1) (i := i) k2.1 hi
   have hyo := hS2 y (List.mem_of_getElem? hg)
   rw [e1, bd_some]
   dsimp only
   rw [e2, bd_some]
   dsimp only
   cases q == 0 with
   | true =>
    simp only [cond_true]
    obtain ⟨x, c5, e5, h5, hx⟩ := dr_among (n := n + 700) (c := c4) k3.le (l := [0, 1, 2, 3, 4]) (by simp)
    simp only [List.mem_cons, List.not_mem_nil, or_false] at hx
    have ho : okI x := by unfold okI; omega
    have pt := okPc_put (s := { y with kind := x }) hS1 k2.1 hi ⟨ho, hyo.poly, hyo.a, hyo.b, hyo.x, hyo.y⟩
    rw [e5, bd_some]
    dsimp only
    rw [hy, bd_some, pt.1, bd_some, bdR_go]
    exact tail h5 (by dsimp only; rw [pt.2.2]; exact hl1) pt.2.1.2
   | false =>
   simp only [cond_false]
   cases q == 1 with
   | true =>
    simp only [cond_true]
    obtain ⟨x, c5, e5, h5, hx⟩ := dr_among (n := n + 700) (c := c4) k3.le (l := [(-1), 0, 1, (len S1), 1099511627776]) (by simp)
    simp only [List.mem_cons, List.not_mem_nil, or_false, len_eq] at hx
    have ho : okI x := by unfold okI; omega
    have pt := okPc_put (s := { y with a := x }) hS1 k2.1 hi ⟨hyo.kind, hyo.poly, ho, hyo.b, hyo.x, hyo.y⟩
    rw [e5, bd_some]
    dsimp only
    rw [hy, bd_some, pt.1, bd_some, bdR_go]
    exact tail h5 (by dsimp only; rw [pt.2.2]; exact hl1) pt.2.1.2
   | false =>
   simp only [cond_false]
   cases q == 2 with
   | true =>
    simp only [cond_true]
    obtain ⟨x, c5, e5, h5, hx⟩ := dr_among (n := n + 700) (c := c4) k3.le (l := [(-1), 0, 1, (len S1)]) (by simp)
    simp only [List.mem_cons, List.not_mem_nil, or_false, len_eq] at hx
    have ho : okI x := by unfold okI; omega
    have pt := okPc_put (s := { y with b := x }) hS1 k2.1 hi ⟨hyo.kind, hyo.poly, hyo.a, ho, hyo.x, hyo.y⟩
    rw [e5, bd_some]
    dsimp only
    rw [hy, bd_some, pt.1, bd_some, bdR_go]
    exact tail h5 (by dsimp only; rw [pt.2.2]; exact hl1) pt.2.1.2
   | false =>
   simp only [cond_false]
   cases q == 3 with
   | true =>
    simp only [cond_true]
    obtain ⟨x, c5, e5, h5, hx⟩ := dr_among (n := n + 700) (c := c4) k3.le (l := [(-1), 0, 1, 2, 7]) (by simp)
    simp only [List.mem_cons, List.not_mem_nil, or_false] at hx
    have ho : okI x := by unfold okI; omega
    have pt := okPc_put (s := { y with x := x }) hS1 k2.1 hi ⟨hyo.kind, hyo.poly, hyo.a, hyo.b, ho, hyo.y⟩
    rw [e5, bd_some]
    dsimp only
    rw [hy, bd_some, pt.1, bd_some, bdR_go]
    exact tail h5 (by dsimp only; rw [pt.2.2]; exact hl1) pt.2.1.2
   | false =>
   simp only [cond_false]
   cases q == 4 with
   | true =>
    simp only [cond_true]
    obtain ⟨x, c5, e5, h5, hx⟩ := dr_among (n := n + 700) (c := c4) k3.le (l := [(-1), 0, 1, 7]) (by simp)
    simp only [List.mem_cons, List.not_mem_nil, or_false] at hx
    have ho : okI x := by unfold okI; omega
    have pt := okPc_put (s := { y with y := x }) hS1 k2.1 hi ⟨hyo.kind, hyo.poly, hyo.a, hyo.b, hyo.x, ho⟩
    rw [e5, bd_some]
    dsimp only
    rw [hy, bd_some, pt.1, bd_some, bdR_go]
    exact tail h5 (by dsimp only; rw [pt.2.2]; exact hl1) pt.2.1.2
   | false =>
   simp only [cond_false]
   cases q == 5 with
   | true =>
    simp only [cond_true]
    obtain ⟨P, c5, e5, h5, hx⟩ := dr_poly (n := n + 700) (c := c4) k3.le p F.vars
    have pt := okPc_put (s := { y with poly := P }) hS1 k2.1 hi ⟨hyo.kind, hx, hyo.a, hyo.b, hyo.x, hyo.y⟩
    rw [e5, bd_some]
    dsimp only
    rw [hy, bd_some, pt.1, bd_some, bdR_go]
    exact tail h5 (by dsimp only; rw [pt.2.2]; exact hl1) pt.2.1.2
   | false =>
   simp only [cond_false]
   rw [bdR_go]
   exact tail k3.le hl1 hS2
end Go.PF
namespace Go.PF
open Go.Pu
theorem pcd_at {p : Int} {F : Cnf} {S : List PcStep} (h : pcdB p F S = true) : S.length ≤ 300 ∧ ∀ i s, S[i]? = some s → pcB p F S i s = true := by
 unfold pcdB at h
 rw [Bool.and_eq_true] at h
 refine ⟨by have := of_decide_eq_true h.1; rw [len_eq] at this; omega, fun i s hs => ?_⟩
 have h2 := h.2
 rw [Bool.not_eq_true', anyI_false] at h2
 have := h2 i s hs
 rw [Nat.zero_add] at this
 simpa using this
theorem pcd_U {p : Int} {F : Cnf} {S : List PcStep} (hP : PV p F.vars) (h : pcdB p F S = true) : IsU S := by
 obtain ⟨h1, h2⟩ := pcd_at h
 have kn : ∀ (i : Nat) (s : PcStep), S[i]? = some s → s.poly.length ≤ 64 ∧ (s.kind = 1 ∨ s.kind = 2 ∨ s.kind = 3) ∧ ∀ k ∈ premP s, 0 ≤ k ∧ k < i := by
  intro i s hs
  have h3 := h2 i s hs
  unfold pcB at h3
  rw [Bool.and_eq_true] at h3
  obtain ⟨a, a1, a2⟩ := polyB_sp hP h3.1
  have h4 := h3.2
  refine ⟨by rw [← a2]; exact (sp_okP hP a1).1, ?_⟩
  have pre : ∀ k, preB p F.vars S i k = true → 0 ≤ k ∧ k < i := fun k hk => by
   unfold preB at hk
   rw [Bool.and_eq_true] at hk
   have := inB_iff.1 hk.1
   omega
  cases e1 : s.kind == 1 with
  | true =>
   have e : s.kind = 1 := eq_of_beq e1
   refine ⟨.inl e, fun k hk => ?_⟩
   unfold premP at hk
   rw [e] at hk
   cases hk
  | false =>
  rw [e1] at h4
  cases e2 : s.kind == 2 with
  | true =>
   rw [e2] at h4
   simp only [cond_false, cond_true, Bool.and_eq_true] at h4
   refine ⟨.inr (.inl (eq_of_beq e2)), fun k hk => ?_⟩
   unfold premP at hk
   rw [e2] at hk
   simp only [cond_true, List.mem_cons, List.not_mem_nil, or_false] at hk
   rcases hk with rfl | rfl
   · exact pre _ h4.1.1
   · exact pre _ h4.1.2.1
  | false =>
  rw [e2] at h4
  cases e3 : s.kind == 3 with
  | false => rw [e3] at h4; cases h4
  | true =>
   rw [e3] at h4
   simp only [cond_false, cond_true, Bool.and_eq_true] at h4
   refine ⟨.inr (.inr (eq_of_beq e3)), fun k hk => ?_⟩
   unfold premP at hk
   rw [e2, e3] at hk
   simp only [cond_false, cond_true, List.mem_cons, List.not_mem_nil, or_false] at hk
   subst hk
   exact pre _ h4.1.1
 refine ⟨h1, fun hx => ?_, fun hx => ?_, fun hx => (kn _ _ hx).2.2⟩
 · obtain ⟨i, hi, rfl⟩ := List.getElem_of_mem hx
   exact (kn i _ (List.getElem?_eq_getElem hi)).1
 · obtain ⟨i, hi, rfl⟩ := List.getElem_of_mem hx
   exact (kn i _ (List.getElem?_eq_getElem hi)).2.1
theorem needP_loop {S : List PcStep} (h : IsU S) {β : Type} {k : List Bool × Int → Option β} {l : Empty → Option β} : bdR (iter (S := ((List Bool) × Int)) (X := Empty) (fun s30058 => (bif (decide (0 ≤ s30058.2)) then (bif (s30058.2 == (wr ((len S) - 1))) then bd (ix s30058.1 s30058.2) (fun x30697 => bd (put s30058.1 s30058.2 true) (fun xs30702 => bd (ix S s30058.2) (fun x30713 => bdR (iter (S := ((List Bool) × Int)) (X := Empty) (fun s30725 => bd (bif (decide (s30725.2 < (len (PF.spec_l20Uses x30713)))) then bd (ix s30725.1 s30058.2) (fun x30899 => some x30899) else some false) (fun t30886 => (bif t30886 then bd (ix (PF.spec_l20Uses x30713) s30725.2) (fun x30916 => bd (ix s30725.1 x30916) (fun x30924 => bd (put s30725.1 x30916 true) (fun xs30929 => some (Lp.nx (xs30929, (wr (s30725.2 + 1))))))) else some (Lp.bk (s30725.1, s30725.2))))) (xs30702, 0)) (fun s30725 => some (Lp.nx (s30725.1, (wr (s30058.2 - 1))))) (fun x30725 => nomatch x30725)))) else bd (ix S s30058.2) (fun x30951 => bdR (iter (S := ((List Bool) × Int)) (X := Empty) (fun s30963 => bd (bif (decide (s30963.2 < (len (PF.spec_l20Uses x30951)))) then bd (ix s30963.1 s30058.2) (fun x31137 => some x31137) else some false) (fun t31124 => (bif t31124 then bd (ix (PF.spec_l20Uses x30951) s30963.2) (fun x31154 => bd (ix s30963.1 x31154) (fun x31162 => bd (put s30963.1 x31154 true) (fun xs31167 => some (Lp.nx (xs31167, (wr (s30963.2 + 1))))))) else some (Lp.bk (s30963.1, s30963.2))))) (s30058.1, 0)) (fun s30963 => some (Lp.nx (s30963.1, (wr (s30058.2 - 1))))) (fun x30963 => nomatch x30963))) else some (Lp.bk (s30058.1, s30058.2)))) (List.replicate S.length false, (wr ((len S) - 1)))) k l = k (maskP S, -1) := by
 have hS := h.le
 rw [show wr ((len S) - 1) = len S - 1 from wr_len (by omega)]
 have hI : ∀ M, (M.length = S.length ∧ remP S 0 (bif (0 == S.length) then M.set (S.length - 1) true else M) = maskP S) → M = maskP S := fun M hM => by
  have h2 := hM.2
  by_cases h0 : S.length = 0
  · have e : S = [] := List.eq_nil_of_length_eq_zero h0
    subst e
    have : M = [] := List.eq_nil_of_length_eq_zero hM.1
    subst this; rfl
  · rw [show (0 == S.length) = false by rw [beq_eq_false_iff_ne]; omega] at h2
    exact h2
 refine bdR_down (X := Empty) (xs := S) (fun M p => nstP (bif p.2 == S.length - 1 then M.set p.2 true else M) p) (s0 := List.replicate S.length false)
  (fun k M => M.length = S.length ∧ remP S k (bif (k == S.length) then M.set (S.length - 1) true else M) = maskP S) ⟨by simp, by simp [maskP]⟩ ?hh ?he ?hk
 case hk => intro M hM; rw [hI M hM]
 case he => intro M; rfl
 case hh =>
  intro i x M hx ⟨hM, hr⟩
  have hi := (List.getElem?_eq_some_iff.1 hx).1
  have hd : decide ((0 : Int) ≤ (i : Int)) = true := by simp
  have hix : ix S (i : Int) = some x := by rw [ix_get]; exact hx
  have hcmp : ((i : Int) == len S - 1) = (i == S.length - 1) := by
   rw [len_eq, Bool.eq_iff_iff, beq_iff_eq, beq_iff_eq]; omega
  have hwd : wr ((i : Int) - 1) = (i : Int) - 1 := wr_down hi (by omega)
  have key2 : ∀ N : List Bool, N.length = S.length → ∃ k, iter (S := List Bool × Int) (X := Empty) (fun s => bd (bif decide (s.2 < len (spec_l20Uses x)) then bd (ix s.1 (i : Int)) (fun x => some x) else some false) (fun t => bif t then bd (ix (spec_l20Uses x) s.2) (fun z => bd (ix s.1 z) (fun _ => bd (put s.1 z true) (fun xs => some (.nx (xs, wr (s.2 + 1)))))) else some (.bk (s.1, s.2)))) (N, 0) = some (.go (nstP N (x, i), k)) := fun N hN =>
   uses_loop (us := premP x) (M := N) (i := i) (by omega) (h.prem hx) (premP_len x) (fun s => rfl)
  have hstep : remP S i (nstP (bif i == S.length - 1 then M.set i true else M) (x, i)) = maskP S := by
   rw [← rem_succP hx]
   by_cases e : i = S.length - 1
   · have e1 : (i == S.length - 1) = true := by rw [beq_iff_eq]; exact e
     have e2 : (i + 1 == S.length) = true := by rw [beq_iff_eq]; omega
     rw [e2] at hr
     rw [e1]
     simp only [cond_true] at hr ⊢
     rw [e]; rw [e] at hr; exact hr
   · have e1 : (i == S.length - 1) = false := by rw [beq_eq_false_iff_ne]; exact e
     have e2 : (i + 1 == S.length) = false := by rw [beq_eq_false_iff_ne]; omega
     rw [e2] at hr
     rw [e1]
     exact hr
  have hlen : (nstP (bif i == S.length - 1 then M.set i true else M) (x, i)).length = S.length := by
   rw [nst_lenP]; cases (i == S.length - 1) <;> simp [hM]
  refine ⟨?_, hlen, ?_⟩
  · simp only [hd, cond_true, hcmp]
    obtain ⟨y, hy⟩ := ix_len (M := M) (i := i) (by omega)
    cases hc : (i == S.length - 1) with
    | true =>
     simp only [cond_true, hy, bd_some, put_ok (show i < M.length by omega), hix]
     obtain ⟨k, hk⟩ := key2 (M.set i true) (by simpa using hM)
     rw [hk, bdR_go, hwd]
    | false =>
     simp only [cond_false, hix, bd_some]
     obtain ⟨k, hk⟩ := key2 M hM
     rw [hk, bdR_go, hwd]
  · rw [show (i == S.length) = false by rw [beq_eq_false_iff_ne]; omega]
    exact hstep
theorem spec_movedP {S : List PcStep} (h : IsU S) {i : Nat} {x : PcStep} (hx : S[i]? = some x) {to : List Int} (ht : ∀ k : Int, k ∈ premP x → ix to k = some (posNP S k)) : spec_l20Moved x to = some (trimXP S x) := by
 have hm := List.mem_of_getElem? hx
 have hc := h.poly hm
 have hk := h.kind hm
 unfold spec_l20Moved spec_l20Terms trimXP
 unfold premP at ht
 rw [app_ok (by simp; unfold lim; omega), List.nil_append]
 simp only [bd_some]
 clear hm hx hc
 obtain ⟨kd, P, a, b, xx, y⟩ := x
 dsimp only at hk ht ⊢
 rcases hk with rfl | rfl | rfl
 · rfl
 · have h1 := ht a (by simp)
   have h2 := ht b (by simp)
   show bdR (bd (ix to a) _) _ _ = _
   rw [h1, bd_some, bdR_go]
   show bd (ix to b) _ = _
   rw [h2, bd_some]; rfl
 · have h1 := ht a (by simp)
   show bdR (bd (ix to a) _) _ _ = _
   rw [h1, bd_some, bdR_go]; rfl
noncomputable def trimVP (p : Int) (F : Cnf) (S : List PcStep) : List PcStep × Bool := bif algB p F && pcdB p F S then (trimLP S (needP S), true) else ([], false)
theorem spec_TrimPc_eq {p : Int} {F : Cnf} {S : List PcStep} (hF : okCnf F) (hS : okPs S) : spec_TrimPc p F S = some (trimVP p F S) := by
 unfold spec_TrimPc trimVP
 rw [spec_l20Good_eq hF hS, bd_some]
 cases hg : (algB p F && pcdB p F S) with
 | false => rfl
 | true =>
 rw [Bool.and_eq_true] at hg
 have hU := pcd_U (algB_iff hg.1).1 hg.2
 have hSl := hU.le
 simp only [Bool.not_true, cond_false, cond_true]
 rw [show len S = ((S.length : Nat) : Int) from rfl, mk2_ok (by unfold lim; omega), bd_some, mk2_ok (by unfold lim; omega), bd_some]
 refine (needP_loop hU).trans ?_
 obtain ⟨⟨out, to⟩, h1, h2, h3⟩ := forL_inv (X := Empty) (l := S) (s := ([], List.replicate S.length 0)) (body := fun i31194 y31193 s31194 => bd (ix (maskP S) ((i31194 : Nat) : Int)) (fun x31379 => (bif x31379 then bd (ix s31194.2 ((i31194 : Nat) : Int)) (fun x31388 => bd (put s31194.2 ((i31194 : Nat) : Int) (len s31194.1)) (fun xs31393 => bd (PF.spec_l20Moved y31193 xs31393) (fun r31411 => bd (app s31194.1 [r31411]) (fun xs31428 => some (Lp.nx (xs31428, xs31393)))))) else some (Lp.nx (s31194.1, s31194.2)))))
  (fun i s => s.1 = trimLP S (needToP S i) ∧ s.2.length = S.length ∧ ∀ k, k < i → bAt (maskP S) k = true → s.2[k]? = some (((needToP S k).length : Nat) : Int)) ⟨rfl, by simp, fun k hk => by omega⟩ (fun i x s hx ⟨hs, hl, ht⟩ => by
   obtain ⟨out, to⟩ := s
   dsimp only at hs hl ht ⊢
   subst hs
   have hi := (List.getElem?_eq_some_iff.1 hx).1
   rw [mask_ixP hx, bd_some, needTo_succP]
   cases hm : bAt (maskP S) i with
   | false =>
    refine ⟨_, rfl, rfl, hl, fun k hk hmk => ht k ?_ hmk⟩
    rcases Nat.lt_or_ge k i with h | h
    · exact h
    · have : k = i := by omega
      subst this; rw [hm] at hmk; cases hmk
   | true =>
    obtain ⟨y, hy⟩ := ix_len (M := to) (i := i) (by omega)
    have hlen : len (trimLP S (needToP S i)) = (((needToP S i).length : Nat) : Int) := by rw [len_eq, trimL_lenP (fun j hj => by have := needTo_ltP j hj; omega)]
    have hto : ∀ k, k < i + 1 → bAt (maskP S) k = true → (to.set i (((needToP S i).length : Nat) : Int))[k]? = some (((needToP S k).length : Nat) : Int) := fun k hk hmk => by
     by_cases e : k = i
     · subst e; rw [List.getElem?_set_self (by omega)]
     · rw [List.getElem?_set_ne (by omega)]; exact ht k (by omega) hmk
    simp only [cond_true, hy, bd_some, put_ok (show i < to.length by omega), hlen]
    rw [spec_movedP hU hx (fun k hk => by
     have hb := hU.prem hx k hk
     have hmk := mask_premP hU hx hm k hk
     have := hto k.toNat (by omega) hmk
     unfold ix
     rw [if_pos hb.1, this]; rfl), bd_some]
    have hle := needTo_leP S i
    rw [app_ok (by rw [trimL_lenP (fun j hj => by have := needTo_ltP j hj; omega)]; simp; unfold lim; omega), bd_some]
    refine ⟨_, rfl, ?_, by simpa using hl, hto⟩
    show _ = trimLP S (needToP S i ++ [i])
    unfold trimLP
    rw [List.filterMap_append]
    have e : trimAtP S i = some (trimXP S x) := by unfold trimAtP; rw [hx]; rfl
    rw [List.filterMap_cons_some e]; rfl)
 refine (congrArg (fun z => bdR z _ _) h1).trans ?_
 rw [bdR_go]
 exact congrArg (fun z => some (z, true)) h2
end Go.PF
