/- Helpers of the walks and plain laws. -/
import Derived.Test.YtnimmenfdndeoaaGreatNrPB
set_option linter.unusedVariables false
namespace Go.PF
open Go.Pu
def LtR (F : Cnf) (w : Int) (a b : List Int) : Prop := ∃ n m, Rk F w n a ∧ Rk F w m b ∧ (n < m ∨ (n = m ∧ cmpC a b < 0))
structure WI (F : Cnf) (w : Int) (r : Nat) (W : l10Work) : Prop where
 srt : SrtC W.sorted
 sm : ∀ c, c ∈ W.sorted ↔ Kn F w r c
 lm : ∀ c, c ∈ W.list ↔ Kn F w r c
 nd : W.list.Nodup
 l1 : W.rounds.length = W.list.length
 l2 : W.left.length = W.list.length
 l3 : W.right.length = W.list.length
 l4 : W.pivots.length = W.list.length
 at_ : ∀ (i : Nat) c, W.list[i]? = some c → ∃ n : Nat, W.rounds[i]? = some (n : Int) ∧ Rk F w n c ∧ (1 ≤ n → ∃ a b v : Int, W.left[i]? = some a ∧ W.right[i]? = some b ∧ W.pivots[i]? = some v ∧ 0 ≤ a ∧ a < i ∧ 0 ≤ b ∧ b < i ∧ Src F w n c (atC W.list a, atC W.list b, v))
 ord : W.list.Pairwise (LtR F w)
theorem ins_chain {B : Type} {L : List Int} {p : Nat} {x : Int} (hp : p ≤ L.length) (hl : L.length ≤ 100000) (k : List Int → Option B) :
 bd (cut L 0 (p : Int)) (fun xs => bd (spec_l1Own xs) fun r => bd (app r [x]) fun ys => bd (cut L (p : Int) (len L)) fun zs => bd (app ys zs) k) = k (L.take p ++ x :: L.drop p) := by
 have hcut : cut L 0 (p : Int) = some (L.take p) := by
  unfold cut
  rw [if_pos (by omega)]; simp
 have hcut2 : cut L (p : Int) (len L) = some (L.drop p) := by
  unfold cut
  rw [len_eq, if_pos (by omega)]; simp
 rw [hcut, bd_some, spec_l1Own_eq (by simp [lim]; omega), bd_some]
 have happ : app (L.take p) [x] = some (L.take p ++ [x]) := by
  unfold app; rw [if_pos (by simp [lim]; omega)]
 rw [happ, bd_some, hcut2, bd_some]
 have happ2 : app (L.take p ++ [x]) (L.drop p) = some (L.take p ++ [x] ++ L.drop p) := by
  unfold app; rw [if_pos (by simp [lim]; omega)]
 rw [happ2, bd_some]
 simp
theorem cT {B : Type} {p : Prop} {i : Decidable p} (h : p) {a b : B} : (bif @decide p i then a else b) = a := by rw [decide_eq_true h]; rfl
theorem cF {B : Type} {p : Prop} {i : Decidable p} (h : ¬ p) {a b : B} : (bif @decide p i then a else b) = b := by rw [decide_eq_false h]; rfl
theorem k11 {k : Nat} (h : 1 ≤ k) : k + 1 - 1 = k - 1 + 1 := by omega
abbrev rowsE (E : List Ent) : List Int × List Int × List Int × List (List Int) := (E.map (·.a), E.map (·.b), E.map (·.v), E.map (·.c))
theorem vsN_at {V : Int} {i : Nat} (h1 : 1 ≤ i) (h2 : (i : Int) ≤ V) : (vsN V)[i - 1]? = some (i : Int) := by
 unfold vsN
 rw [List.getElem?_map, List.getElem?_range' (by omega)]
 simp; omega
theorem vsN_len (V : Int) : (vsN V).length = V.toNat := by unfold vsN; simp
theorem take_flat {α β : Type} {l : List α} {f : α → List β} {i : Nat} {x : α} (h : l[i]? = some x) : (l.take (i + 1)).flatMap f = (l.take i).flatMap f ++ f x := by
 rw [List.take_add_one, h]; simp
theorem take_map1 {α β : Type} {l : List α} {f : α → β} {i : Nat} {x : α} (h : l[i]? = some x) : (l.take (i + 1)).map f = (l.take i).map f ++ [f x] := by
 rw [List.take_add_one, h]; simp
theorem spec_l10Round_eq {F : Cnf} {w : Int} (hF : Nar F) {W : l10Work} {r : Nat} (h : WI F w r W) (hr : 1 ≤ r) (hrb : r ≤ 10000) :
 ∃ q, spec_l10Round F.vars W w (r : Int) = some q ∧ WI F w (r + 1) q.1 ∧ (q.2 = true → W.list.length < q.1.list.length) ∧ (q.2 = false → ∀ c, Kn F w (r + 1) c → Kn F w r c) := by
 unfold spec_l10Round
 have hsm : ∀ c ∈ W.list, IsS F.vars c := fun c hc => hF.kn ((h.lm c).1 hc)
 have hfew := few h.nd hsm
 have hV : 0 ≤ F.vars := by
  have := hF.cnf
  unfold cnfB at this
  simp only [Bool.and_eq_true] at this
  exact (varsB_iff.1 this.1.1).1
 have hV6 := hF.le
 obtain ⟨o, eo, ho⟩ := spec_l10Order_eq h.nd hsm
 rw [eo, bd_some]
 have hol := ho.len
 have hcs : Cfg F.vars 4096 W.sorted := ⟨h.srt, by
  have := few (V := F.vars) (cl := W.sorted) (by
   rw [List.nodup_iff_pairwise_ne]
   refine h.srt.imp ?_
   intro a b hab e
   exact cmpC_irrefl a (e ▸ hab)) (fun c hc => hF.kn ((h.sm c).1 hc))
  exact this, fun c hc => (hF.kn ((h.sm c).1 hc)).c⟩
 have hkn : ∀ x, x ∈ o.map (atC W.list) ↔ Kn F w r x := fun x => by rw [ho.mem, List.take_length, h.lm]
 refine cnt_m (σ := List Int × List Int × List Int × List (List Int)) (fun s i => (s.1, s.2.1, s.2.2.1, s.2.2.2, i)) (n := o.length) (a := 0) (s0 := rowsE [])
  (I := fun i s => ∃ E, s = rowsE E ∧ New F w W.sorted W.list (((o.map (atC W.list)).take i).flatMap fun a => (o.map (atC W.list)).flatMap fun b => (vsN F.vars).map fun v => (a, b, v)) E) rfl (by omega) ?_ ?_ ?_ ?_
 · exact ⟨[], rfl, .nil, nofun, by simp⟩
 · rintro i s _ hi ⟨E, rfl, hE⟩
   left
   simp only []
   rw [len_eq, decide_eq_true (by omega), cond_true]
   obtain ⟨ai, hai⟩ : ∃ k, o[i]? = some k := ⟨_, List.getElem?_eq_getElem hi⟩
   have hair := ho.inr ai (List.mem_of_getElem? hai)
   obtain ⟨a1, a2⟩ := atC_ix (cl := W.list) hair.1 (by omega)
   have has := hsm _ (List.mem_of_getElem? a2)
   have hka : (o.map (atC W.list))[i]? = some (atC W.list ai) := by rw [List.getElem?_map, hai]; rfl
   obtain ⟨na, hra, hrka, _⟩ := h.at_ ai.toNat _ a2
   have hra' : ix W.rounds ai = some (na : Int) := by
    have := ix_nat hra; rwa [show ((ai.toNat : Nat) : Int) = ai by omega] at this
   simp only [ix_get, hai, bd_some, hra', a1]
   rw [take_flat hka]
   generalize hD : ((o.map (atC W.list)).take i).flatMap (fun a => (o.map (atC W.list)).flatMap fun b => (vsN F.vars).map fun v => (a, b, v)) = D at hE
   refine cnt_m (R := fun z => ∃ E', z = Lp.nx ((rowsE E').1, (rowsE E').2.1, (rowsE E').2.2.1, (rowsE E').2.2.2, ((i + 1 : Nat) : Int)) ∧ New F w W.sorted W.list (D ++ (o.map (atC W.list)).flatMap fun b => (vsN F.vars).map fun v => (atC W.list ai, b, v)) E')
    (σ := List Int × List Int × List Int × List (List Int)) (fun s i => (s.1, s.2.1, s.2.2.1, s.2.2.2, i)) (n := o.length) (a := 0) (s0 := rowsE E)
    (I := fun j s => ∃ E, s = rowsE E ∧ New F w W.sorted W.list (D ++ ((o.map (atC W.list)).take j).flatMap fun b => (vsN F.vars).map fun v => (atC W.list ai, b, v)) E) rfl (by omega) ?_ ?_ ?_ ?_ |> fun ⟨z, h1, E', h2, h3⟩ => ⟨rowsE E', h1.trans (congrArg some h2), E', rfl, h3⟩
   · exact ⟨E, rfl, by simpa using hE⟩
   · rintro j s _ hj ⟨E, rfl, hE⟩
     left
     simp only []
     rw [decide_eq_true (by omega), cond_true]
     obtain ⟨bi, hbi⟩ : ∃ k, o[j]? = some k := ⟨_, List.getElem?_eq_getElem hj⟩
     have hbir := ho.inr bi (List.mem_of_getElem? hbi)
     obtain ⟨b1, b2⟩ := atC_ix (cl := W.list) hbir.1 (by omega)
     have hbs := hsm _ (List.mem_of_getElem? b2)
     have hkb : (o.map (atC W.list))[j]? = some (atC W.list bi) := by rw [List.getElem?_map, hbi]; rfl
     obtain ⟨nb, hrb', hrkb, _⟩ := h.at_ bi.toNat _ b2
     have hrb'' : ix W.rounds bi = some (nb : Int) := by
      have := ix_nat hrb'; rwa [show ((bi.toNat : Nat) : Int) = bi by omega] at this
     simp only [ix_get, hbi, bd_some, hrb'', b1]
     rw [take_flat hkb, ← List.append_assoc]
     generalize hD2 : D ++ ((o.map (atC W.list)).take j).flatMap (fun b => (vsN F.vars).map fun v => (atC W.list ai, b, v)) = D2 at hE
     have wr1 : wr ((r : Int) - 1) = ((r - 1 : Nat) : Int) := by rw [wr_s (by omega) (by omega)]; omega
     have wj : wr ((j : Int) + 1) = ((j + 1 : Nat) : Int) := by rw [wr_s (by omega) (by omega)]; omega
     have htest : (bif decide (((na : Nat) : Int) < ((r - 1 : Nat) : Int)) then some (decide (((nb : Nat) : Int) < ((r - 1 : Nat) : Int))) else some false) = some (decide (na < r - 1) && decide (nb < r - 1)) := by
      by_cases g : na < r - 1
      · rw [decide_eq_true (by omega), decide_eq_true g, cond_true, Bool.true_and]
        exact congrArg some (decide_eq_decide.2 (by omega))
      · rw [decide_eq_false (by omega), decide_eq_false g]; rfl
     rw [wr1, htest, bd_some]
     by_cases hsk : na < r - 1 ∧ nb < r - 1
     · rw [decide_eq_true hsk.1, decide_eq_true hsk.2, Bool.and_true, cond_true]
       refine ⟨rowsE E, by rw [wj], E, rfl, hE.skip ?_⟩
       intro t ht c hc
       obtain ⟨v, hv, rfl⟩ := List.mem_map.1 ht
       have hv := vsN_mem.1 hv
       obtain ⟨p1, p2, p3⟩ := prodB_iff.1 hc
       left
       rw [h.sm]
       have : Kn F w (r - 1 + 1) c := .inr (.inr ⟨_, _, v, hrka.1.up (by omega), hrkb.1.up (by omega), hv.1, hv.2, p1, p2, p3⟩)
       rwa [show r - 1 + 1 = r by omega] at this
     · have : (decide (na < r - 1) && decide (nb < r - 1)) = false := by
        rw [Bool.eq_false_iff]
        intro g
        rw [Bool.and_eq_true, decide_eq_true_iff, decide_eq_true_iff] at g
        exact hsk g
       rw [this, cond_false]
       refine cnt_m (R := fun z => ∃ E', z = Lp.nx ((rowsE E').1, (rowsE E').2.1, (rowsE E').2.2.1, (rowsE E').2.2.2, ((j + 1 : Nat) : Int)) ∧ New F w W.sorted W.list (D2 ++ (vsN F.vars).map fun v => (atC W.list ai, atC W.list bi, v)) E')
        (σ := List Int × List Int × List Int × List (List Int)) (fun s i => (s.1, s.2.1, s.2.2.1, s.2.2.2, i)) (n := F.vars.toNat + 1) (a := 1) (s0 := rowsE E)
        (I := fun k s => ∃ E, s = rowsE E ∧ New F w W.sorted W.list (D2 ++ ((vsN F.vars).take (k - 1)).map fun v => (atC W.list ai, atC W.list bi, v)) E) rfl (by omega) ?_ ?_ ?_ ?_ |> fun ⟨z, h1, E', h2, h3⟩ => ⟨rowsE E', h1.trans (congrArg some h2), E', rfl, h3⟩
       · exact ⟨E, rfl, by simpa using hE⟩
       · rintro k s hk1 hk2 ⟨E, rfl, hE⟩
         left
         simp only []
         rw [decide_eq_true (by omega), cond_true]
         have hkV : (k : Int) ≤ F.vars := by omega
         have wk : wr ((k : Int) + 1) = ((k + 1 : Nat) : Int) := by rw [wr_s (by omega) (by omega)]; omega
         have hvk := vsN_at (V := F.vars) (i := k) hk1 hkV
         have htk : ((vsN F.vars).take (k + 1 - 1)).map (fun v => (atC W.list ai, atC W.list bi, v)) = ((vsN F.vars).take (k - 1)).map (fun v => (atC W.list ai, atC W.list bi, v)) ++ [(atC W.list ai, atC W.list bi, (k : Int))] := by
          rw [k11 hk1, take_map1 hvk]
         rw [htk, ← List.append_assoc]
         generalize hD3 : D2 ++ ((vsN F.vars).take (k - 1)).map (fun v => (atC W.list ai, atC W.list bi, v)) = D3 at hE
         have hla := has.c.len
         have hlb := hbs.c.len
         rw [spec_l2Resolve_eq (by simp only [lim]; omega), bd_some]
         have hfewE := hE.few
         have hcE := hE.cfg
         have skip1 : (∀ c, prodB w c (atC W.list ai, atC W.list bi, (k : Int)) = true → c ∈ W.sorted ∨ c ∈ E.map (·.c)) → ∃ s', (some (Lp.nx ((rowsE E).1, (rowsE E).2.1, (rowsE E).2.2.1, (rowsE E).2.2.2, wr ((k : Int) + 1))) : Option (Lp (List Int × List Int × List Int × List (List Int) × Int) Empty)) = some (Lp.nx (s'.1, s'.2.1, s'.2.2.1, s'.2.2.2, ((k + 1 : Nat) : Int))) ∧ ∃ E, s' = rowsE E ∧ New F w W.sorted W.list (D3 ++ [(atC W.list ai, atC W.list bi, (k : Int))]) E := by
          intro g
          refine ⟨rowsE E, by rw [wk], E, rfl, hE.skip ?_⟩
          intro t ht c hc
          have : t = (atC W.list ai, atC W.list bi, (k : Int)) := by simpa using ht
          subst this
          exact g c hc
         by_cases hok : (res (atC W.list ai) (atC W.list bi) (k : Int)).2 = true ∧ len (res (atC W.list ai) (atC W.list bi) (k : Int)).1 ≤ w
         · obtain ⟨hok1, hok2⟩ := hok
           generalize hc0 : (res (atC W.list ai) (atC W.list bi) (k : Int)).1 = c at hok2
           have hcS : IsS F.vars c := ⟨hc0 ▸ res_isC2 has.c hbs.c hok1, hF.le⟩
           rw [hok1, Bool.not_true, cond_false, decide_eq_false (by omega), cond_false, spec_l2At_eq hcs (by omega) hcS.c.small, bd_some, bd_some]
           rw [at_ge]
           by_cases hin : W.sorted.contains c = true
           · rw [hin, cond_true, bd_some, cond_true]
             refine skip1 fun c' hc' => .inl ?_
             rw [← (prodB_iff.1 hc').2.1]
             simp only []
             rw [hc0]
             exact List.contains_iff_mem.1 hin
           · rw [Bool.not_eq_true] at hin
             rw [hin, cond_false, spec_l2At_eq hcE (by omega) hcS.c.small, bd_some, bd_some, at_ge]
             by_cases hin2 : (E.map (·.c)).contains c = true
             · rw [hin2, cond_true]
               refine skip1 fun c' hc' => .inr ?_
               rw [← (prodB_iff.1 hc').2.1]
               simp only []
               rw [hc0]
               exact List.contains_iff_mem.1 hin2
             · rw [Bool.not_eq_true] at hin2
               rw [hin2, cond_false, spec_l2Place_eq hcE (by omega) hcS.c.small, bd_some, spec_l2Insert_eq hcE (by omega) hcS.c.small, bd_some]
               have hnot : c ∉ E.map (·.c) := fun g => by rw [List.contains_iff_mem.2 g] at hin2; cases hin2
               have hnot2 : c ∉ W.sorted := fun g => by rw [List.contains_iff_mem.2 g] at hin; cases hin
               have hple : plc (E.map (·.c)) c ≤ E.length := by have := plc_le (E.map (·.c)) c; simpa using this
               rw [ins_chain (L := (rowsE E).1) (p := plc (E.map (·.c)) c) (by simp []; omega) (by simp []; omega), ins_chain (L := (rowsE E).2.1) (p := plc (E.map (·.c)) c) (by simp []; omega) (by simp []; omega), ins_chain (L := (rowsE E).2.2.1) (p := plc (E.map (·.c)) c) (by simp []; omega) (by simp []; omega), putC_new hin2]
               have hnew := hE.put (e := ⟨ai, bi, (k : Int), c⟩) (prodB_iff.2 ⟨hok1, hc0, hok2⟩) hnot2 hnot ⟨hair.1, hair.2, hbir.1, hbir.2, hcS⟩
               refine ⟨rowsE (putE E ⟨ai, bi, (k : Int), c⟩), ?_, _, rfl, hnew⟩
               rw [wk]
               have e1 := putE_map E ⟨ai, bi, (k : Int), c⟩ (·.a)
               have e2 := putE_map E ⟨ai, bi, (k : Int), c⟩ (·.b)
               have e3 := putE_map E ⟨ai, bi, (k : Int), c⟩ (·.v)
               have e4 := putE_c E ⟨ai, bi, (k : Int), c⟩
               simp only []
               rw [e1, e2, e3, e4]
         · have hf : (bif (!(res (atC W.list ai) (atC W.list bi) (k : Int)).2) then true else (decide (w < (len (res (atC W.list ai) (atC W.list bi) (k : Int)).1)))) = true := by
            cases hb : (res (atC W.list ai) (atC W.list bi) (k : Int)).2
            · rfl
            · rw [Bool.not_true, cond_false, decide_eq_true_iff]
              have : ¬ len (res (atC W.list ai) (atC W.list bi) (k : Int)).1 ≤ w := fun g => hok ⟨hb, g⟩
              omega
           rw [hf, cond_true, bd_some, cond_true, bd_some, cond_true]
           refine skip1 fun c' hc' => ?_
           obtain ⟨p1, p2, p3⟩ := prodB_iff.1 hc'
           exact absurd ⟨p1, by rw [p2]; exact p3⟩ hok
       · intro s hs
         simp only []
         rw [decide_eq_false (by omega), cond_false]
       · rintro s ⟨E, rfl, hE⟩
         refine ⟨_, rfl, E, by rw [wj], ?_⟩
         rw [show F.vars.toNat + 1 - 1 = F.vars.toNat by omega, ← vsN_len, List.take_length] at hE
         exact hE
   · intro s hs
     simp only []
     rw [decide_eq_false (by omega), cond_false]
   · rintro s ⟨E, rfl, hE⟩
     have wi : wr ((i : Int) + 1) = ((i + 1 : Nat) : Int) := by rw [wr_s (by omega) (by omega)]; omega
     refine ⟨_, rfl, E, by rw [wi], ?_⟩
     rw [show o.length = (o.map (atC W.list)).length by simp, List.take_length] at hE
     exact hE
 · intro s hs
   simp only []
   rw [len_eq, decide_eq_false (by omega), cond_false]
 · rintro s ⟨E, rfl, hE⟩
   rw [show o.length = (o.map (atC W.list)).length by simp, List.take_length] at hE
   change New F w W.sorted W.list (tris F.vars (o.map (atC W.list))) E at hE
   have hfewE := hE.few
   have hcE := hE.cfg
   have hmk : ∀ e ∈ E, Src F w r e.c (atC W.list e.a, atC W.list e.b, e.v) := fun e he => ⟨_, ho.srt, hkn, (hE.one e he).1⟩
   have hrk : ∀ e ∈ E, Rk F w r e.c := fun e he => by
    obtain ⟨m1, m2, m3⟩ := (hmk e he).mk
    exact ⟨.inr (.inr ⟨_, _, _, m1, m2, m3⟩), fun g => (hE.one e he).2.1 ((h.sm _).2 g)⟩
   have hall : ∀ c, Kn F w (r + 1) c → Kn F w r c ∨ c ∈ E.map (·.c) := by
    rintro c (g | g | ⟨a, b, v, g1, g2, g3, g4, g5, g6, g7⟩)
    · exact .inl (Kn.up (n := 1) hr (.inl g))
    · exact .inl g
    · rcases hE.all (a, b, v) (tris_mem.2 ⟨(hkn a).2 g1, (hkn b).2 g2, g3, g4⟩) c (prodB_iff.2 ⟨g5, g6, g7⟩) with g | g
      · exact .inl ((h.sm c).1 g)
      · exact .inr g
   dsimp only [rowsE]
   refine cnt_m (σ := List (List Int) × List Int × List (List Int)) (fun s i => (s.1, s.2.1, s.2.2, i)) (n := (E.map (·.c)).length) (a := 0) (s0 := (W.list, W.rounds, W.sorted))
    (I := fun i s => s.1 = W.list ++ (E.map (·.c)).take i ∧ s.2.1 = W.rounds ++ List.replicate i (r : Int) ∧ Cfg F.vars (4096 + i) s.2.2 ∧ ∀ c, c ∈ s.2.2 ↔ c ∈ W.sorted ∨ c ∈ (E.map (·.c)).take i) rfl (by omega) ?_ ?_ ?_ ?_
   · exact ⟨by simp, by simp, hcs, by simp⟩
   · rintro i s _ hi ⟨g1, g2, g3, g4⟩
     left
     simp only []
     rw [cT (p := (i : Int) < len (E.map (·.c))) (by rw [len_eq]; omega)]
     obtain ⟨c, hc⟩ : ∃ c, (E.map (·.c))[i]? = some c := ⟨_, List.getElem?_eq_getElem hi⟩
     have hcI := hcE.cl c (List.mem_of_getElem? hc)
     simp only [List.length_map] at hi
     simp only [ix_get, hc, bd_some]
     have ha1 : app s.1 [c] = some (W.list ++ (E.map (·.c)).take (i + 1)) := by
      unfold app
      rw [if_pos (by rw [g1]; simp [lim]; omega), g1, List.take_add_one, hc]; simp
     have ha2 : app s.2.1 [(r : Int)] = some (W.rounds ++ List.replicate (i + 1) (r : Int)) := by
      unfold app
      rw [if_pos (by rw [g2]; have := h.l1; simp [lim]; omega), g2, List.replicate_succ']; simp
     rw [ha1, bd_some, ha2, bd_some, spec_l2Insert_eq g3 (by omega) hcI.small, bd_some]
     refine ⟨(W.list ++ (E.map (·.c)).take (i + 1), W.rounds ++ List.replicate (i + 1) (r : Int), putC s.2.2 c), by rw [wr_s (by omega) (by omega)]; rfl, rfl, rfl, g3.put hcI, fun x => ?_⟩
     show x ∈ putC s.2.2 c ↔ _
     rw [putC_mem, g4, List.take_add_one, hc]
     simp only [List.mem_append, Option.toList_some, List.mem_singleton]
     constructor
     · rintro (g | g | g)
       · exact .inr (.inr g)
       · exact .inl g
       · exact .inr (.inl g)
     · rintro (g | g | g)
       · exact .inr (.inl g)
       · exact .inr (.inr g)
       · exact .inl g
   · intro s hs
     simp only []
     rw [cF (p := ((E.map (·.c)).length : Int) < len (E.map (·.c))) (by rw [len_eq]; omega)]
   · rintro s ⟨g1, g2, g3, g4⟩
     simp only []
     rw [List.take_length] at g1 g4
     have hp1 : app W.left (E.map (·.a)) = some (W.left ++ E.map (·.a)) := by unfold app; rw [if_pos (by have := h.l2; simp [lim]; omega)]
     have hp2 : app W.right (E.map (·.b)) = some (W.right ++ E.map (·.b)) := by unfold app; rw [if_pos (by have := h.l3; simp [lim]; omega)]
     have hp3 : app W.pivots (E.map (·.v)) = some (W.pivots ++ E.map (·.v)) := by unfold app; rw [if_pos (by have := h.l4; simp [lim]; omega)]
     rw [hp1, bd_some, hp2, bd_some, hp3, bd_some]
     have hup : ∀ c, c ∈ E.map (·.c) → Kn F w (r + 1) c := fun c hc => by
      obtain ⟨e, he, rfl⟩ := List.mem_map.1 hc
      exact (hrk e he).1
     refine ⟨_, rfl, ⟨g3.srt, ?_, ?_, ?_, ?_, ?_, ?_, ?_, ?_, ?_⟩, ?_, ?_⟩
     · intro c
       rw [g4, h.sm]
       constructor
       · rintro (g | g)
         · exact .inr (.inl g)
         · exact hup c g
       · exact hall c
     · intro c
       rw [g1, List.mem_append, h.lm]
       constructor
       · rintro (g | g)
         · exact .inr (.inl g)
         · exact hup c g
       · exact hall c
     · rw [g1, List.nodup_append]
       refine ⟨h.nd, ?_, ?_⟩
       · rw [List.nodup_iff_pairwise_ne]
         refine hE.srt.imp ?_
         intro a b hab e
         exact cmpC_irrefl a (e ▸ hab)
       · intro a ha b hb e
         obtain ⟨x, hx, rfl⟩ := List.mem_map.1 hb
         exact (hrk x hx).2 (e ▸ (h.lm a).1 ha)
     · simp only [g1, g2, List.length_append, List.length_map, List.length_replicate]; have := h.l1; omega
     · simp only [g1, List.length_append, List.length_map]; have := h.l2; omega
     · simp only [g1, List.length_append, List.length_map]; have := h.l3; omega
     · simp only [g1, List.length_append, List.length_map]; have := h.l4; omega
     · intro i c hc
       simp only [g1, g2] at hc ⊢
       have i1 := h.l1
       have i2 := h.l2
       have i3 := h.l3
       have i4 := h.l4
       by_cases hi : i < W.list.length
       · rw [List.getElem?_append_left hi] at hc
         obtain ⟨n, q1, q2, q3⟩ := h.at_ i c hc
         refine ⟨n, by rw [List.getElem?_append_left (by omega)]; exact q1, q2, fun hn => ?_⟩
         obtain ⟨a, b, v, p1, p2, p3, p4, p5, p6, p7, p8⟩ := q3 hn
         refine ⟨a, b, v, by rw [List.getElem?_append_left (by omega)]; exact p1, by rw [List.getElem?_append_left (by omega)]; exact p2, by rw [List.getElem?_append_left (by omega)]; exact p3, p4, p5, p6, p7, ?_⟩
         rw [atC_app p4 (by omega), atC_app p6 (by omega)]
         exact p8
       · rw [List.getElem?_append_right (by omega), List.getElem?_map, Option.map_eq_some_iff] at hc
         obtain ⟨e, he, rfl⟩ := hc
         have hem := List.mem_of_getElem? he
         have hel := lt_of_get he
         obtain ⟨_, _, o1, o2, o3, o4, _⟩ := hE.one e hem
         refine ⟨r, ?_, hrk e hem, fun _ => ⟨e.a, e.b, e.v, ?_, ?_, ?_, o1, by omega, o3, by omega, ?_⟩⟩
         · rw [List.getElem?_append_right (by omega), List.getElem?_replicate, if_pos (by simp only [List.length_map]; omega)]
         · rw [List.getElem?_append_right (by omega), i2, List.getElem?_map, he]; rfl
         · rw [List.getElem?_append_right (by omega), i3, List.getElem?_map, he]; rfl
         · rw [List.getElem?_append_right (by omega), i4, List.getElem?_map, he]; rfl
         · rw [atC_app o1 o2, atC_app o3 o4]
           exact hmk e hem
     · rw [g1, List.pairwise_append]
       refine ⟨h.ord, ?_, ?_⟩
       · have := List.Pairwise.and_mem.1 hE.srt
         refine this.imp ?_
         rintro a b ⟨ha, hb, hab⟩
         obtain ⟨x, hx, rfl⟩ := List.mem_map.1 ha
         obtain ⟨y, hy, rfl⟩ := List.mem_map.1 hb
         exact ⟨r, r, hrk x hx, hrk y hy, .inr ⟨rfl, hab⟩⟩
       · intro a ha b hb
         obtain ⟨y, hy, rfl⟩ := List.mem_map.1 hb
         obtain ⟨q, q1, q2⟩ := ((h.lm a).1 ha).rk
         exact ⟨q, r, q2, hrk y hy, .inl q1⟩
     · intro g
       simp only [decide_eq_true_iff, len_eq, List.length_map] at g
       simp only [g1, List.length_append, List.length_map]
       omega
     · intro g c hc
       simp only [decide_eq_false_iff_not, len_eq, List.length_map] at g
       have : E = [] := List.eq_nil_of_length_eq_zero (by omega)
       subst this
       rcases hall c hc with g | g
       · exact g
       · exact absurd g (by simp)
end Go.PF
namespace Go.PF
open Go.Pu
structure WOk (F : Cnf) (w : Int) (W : l10Work) : Prop where
 ex : ∃ r, WI F w r W ∧ ∀ n c, Kn F w n c → Kn F w r c
theorem WI.few {F : Cnf} {w : Int} (hF : Nar F) {r : Nat} {W : l10Work} (h : WI F w r W) : W.list.length ≤ 4096 :=
 PF.few h.nd fun c hc => hF.kn ((h.lm c).1 hc)
theorem Nar.len {F : Cnf} (h : Nar F) : F.clauses.length ≤ 60 := by
 have := h.cnf
 unfold cnfB at this
 simp only [Bool.and_eq_true, len_eq] at this
 have := of_decide_eq_true this.1.2
 omega
theorem spec_l10Closure_eq {F : Cnf} {w : Int} (hF : Nar F) : ∃ W, spec_l10Closure F w = some W ∧ WOk F w W := by
 unfold spec_l10Closure
 have hFl := hF.len
 refine cnt_m (σ := List (List Int)) (fun s i => (s, i)) (n := F.clauses.length) (a := 0) (s0 := [])
  (I := fun i s => Cfg F.vars i s ∧ ∀ c, c ∈ s ↔ c ∈ F.clauses.take i ∧ len c ≤ w) rfl (by omega) ⟨⟨.nil, by simp, nofun⟩, by simp⟩ ?_ ?_ ?_
 · rintro i s _ hi ⟨g1, g2⟩
   left
   dsimp only []
   rw [cT (by rw [len_eq]; omega)]
   obtain ⟨c, hc⟩ : ∃ c, F.clauses[i]? = some c := ⟨_, List.getElem?_eq_getElem hi⟩
   have hcs := hF.ax (List.mem_of_getElem? hc)
   have hcl := hcs.c.len
   have wi : wr ((i : Int) + 1) = ((i + 1 : Nat) : Int) := by rw [wr_s (by omega) (by omega)]; omega
   simp only [ix_get, hc, bd_some, wi]
   have htk : ∀ x, x ∈ F.clauses.take (i + 1) ↔ x ∈ F.clauses.take i ∨ x = c := by
    intro x; rw [List.take_add_one, hc]; simp
   by_cases hl : len c ≤ w
   · rw [cT hl, spec_l1Own_eq (by simp only [lim]; omega), bd_some, spec_l2Insert_eq g1 (by omega) hcs.c.small, bd_some]
     refine ⟨putC s c, rfl, g1.put hcs.c, fun x => ?_⟩
     rw [putC_mem, g2, htk]
     constructor
     · rintro (g | ⟨g, g3⟩)
       · rw [g]; exact ⟨.inr rfl, hl⟩
       · exact ⟨.inl g, g3⟩
     · rintro ⟨g | g, g3⟩
       · exact .inr ⟨g, g3⟩
       · exact .inl g
   · rw [cF hl]
     refine ⟨s, rfl, ⟨g1.srt, by have := g1.len; omega, g1.cl⟩, fun x => ?_⟩
     rw [g2, htk]
     constructor
     · rintro ⟨g, g3⟩; exact ⟨.inl g, g3⟩
     · rintro ⟨g | g, g3⟩
       · exact ⟨g, g3⟩
       · rw [g] at g3; exact absurd g3 hl
 · intro s hs
   dsimp only []
   rw [cF (by rw [len_eq]; omega)]
 · rintro s ⟨g1, g2⟩
   rw [List.take_length] at g2
   have hsl := g1.len
   dsimp only []
   refine list_m (I := fun i t => t = (List.replicate i (0 : Int), List.replicate i (-1 : Int), List.replicate i (-1 : Int), List.replicate i (0 : Int), s.take i, ([] : List (List Int)))) rfl ?_ ?_
   · intro i y t hy ht
     left
     subst ht
     have hil := lt_of_get hy
     have e1 : app (s.take i) [y] = some (s.take (i + 1)) := by
      unfold app
      rw [if_pos (by simp [lim]; omega), List.take_add_one, hy]; rfl
     have e2 : ∀ x : Int, app (List.replicate i x) [x] = some (List.replicate (i + 1) x) := by
      intro x
      unfold app
      rw [if_pos (by simp [lim]; omega), List.replicate_succ']
     exact ⟨_, by simp only [e1, e2, bd_some], rfl⟩
   · intro t ht
     rw [List.take_length] at ht
     subst ht
     have hk1 : ∀ c, c ∈ s ↔ Kn F w 1 c := by
      intro c
      rw [g2]
      constructor
      · intro g; exact .inl g
      · rintro (g | g | ⟨a, b, v, g, _⟩)
        · exact g
        · exact g.elim
        · exact g.elim
     have hr0 : ∀ c ∈ s, Rk F w 0 c := fun c hc => ⟨(hk1 c).1 hc, fun g => g⟩
     refine iter_m (I := fun t => ∃ r : Nat, 1 ≤ r ∧ t.2.2.2.2.2.2.1 = (r : Int) ∧ WI F w r (l10Work.mk t.2.2.2.2.1 t.2.2.2.1 t.2.2.1 t.2.1 t.1 t.2.2.2.2.2.1) ∧ (t.2.2.2.2.2.2.2 = true → r ≤ t.2.2.2.2.1.length + 1) ∧ (t.2.2.2.2.2.2.2 = false → ∀ c, Kn F w r c → Kn F w (r - 1) c))
      (m := fun t => bif t.2.2.2.2.2.2.2 then 5000 - t.2.2.2.2.1.length else 0) ?_ ?_
     · refine ⟨1, by omega, rfl, ⟨g1.srt, hk1, hk1, ?_, ?_, ?_, ?_, ?_, ?_, ?_⟩, fun _ => by dsimp only []; omega, fun g => by cases g⟩
       · rw [List.nodup_iff_pairwise_ne]
         exact g1.srt.imp fun {a b} hab (e : a = b) => cmpC_irrefl a (by rw [← e] at hab; exact hab)
       · simp
       · simp
       · simp
       · simp
       · intro i c hc
         have hil := lt_of_get hc
         refine ⟨0, ?_, hr0 c (List.mem_of_getElem? hc), fun h => by omega⟩
         show (List.replicate s.length (0 : Int))[i]? = _
         rw [List.getElem?_replicate, if_pos hil]; rfl
       · have := List.Pairwise.and_mem.1 g1.srt
         exact this.imp fun {a b} ⟨ha, hb, hab⟩ => ⟨0, 0, hr0 a ha, hr0 b hb, .inr ⟨rfl, hab⟩⟩
     · rintro ⟨pv, rt, lf, rd, ls, sd, n, more⟩ ⟨r, h1, h2, h3, h4, h5⟩
       dsimp only [] at h2 h3 h4 h5 ⊢
       subst h2
       cases more
       · right; left
         refine ⟨_, rfl, _, rfl, ⟨r, h3, fun n c hn => ?_⟩⟩
         refine (Kn.stop (r := r - 1) (fun z hz => h5 rfl z ?_) hn).up (by omega)
         rwa [show r - 1 + 1 = r by omega] at hz
       · left
         have hfew : ls.length ≤ 4096 := h3.few hF
         have h4' := h4 rfl
         obtain ⟨q, e, q1, q2, q3⟩ := spec_l10Round_eq hF h3 h1 (by omega)
         rw [cond_true, e, bd_some]
         refine ⟨_, rfl, ⟨r + 1, by omega, ?_, q1, ?_, ?_⟩, ?_⟩
         · dsimp only []
           rw [wr_s (by omega) (by omega)]; omega
         · intro g
           have := q2 g
           dsimp only [] at this ⊢
           omega
         · intro g
           exact q3 g
         · dsimp only []
           cases hq : q.2
           · show (bif false then _ else 0) < 5000 - ls.length
             rw [cond_false]; omega
           · have := q2 hq
             dsimp only [] at this
             show (bif true then _ else 0) < 5000 - ls.length
             rw [cond_true]; omega
inductive Need (F : Cnf) (w : Int) (t : List Int) : List Int → Prop
 | self : Need F w t t
 | left {c : List Int} {n : Nat} {a b : List Int} {v : Int} : Need F w t c → 1 ≤ n → Rk F w n c → Src F w n c (a, b, v) → Need F w t a
 | right {c : List Int} {n : Nat} {a b : List Int} {v : Int} : Need F w t c → 1 ≤ n → Rk F w n c → Src F w n c (a, b, v) → Need F w t b
structure StOk (F : Cnf) (w : Int) (t : List Int) (S : List ResStep) : Prop where
 ord : (S.map (·.clause)).Pairwise (LtR F w)
 mem : ∀ c, c ∈ S.map (·.clause) ↔ Need F w t c
 ax : ∀ s ∈ S, Rk F w 0 s.clause → s.left = -1 ∧ s.pivot = 0 ∧ ∃ j : Nat, s.right = (j : Int) ∧ F.clauses[j]? = some s.clause ∧ ∀ k < j, F.clauses[k]? ≠ some s.clause
 rs : ∀ s ∈ S, ∀ n, 1 ≤ n → Rk F w n s.clause → ∃ a b v, ∃ i j : Nat, Src F w n s.clause (a, b, v) ∧ s.pivot = v ∧ s.left = (i : Int) ∧ s.right = (j : Int) ∧ (S.map (·.clause))[i]? = some a ∧ (S.map (·.clause))[j]? = some b
theorem LtR.irr {F : Cnf} {w : Int} {a : List Int} (h : LtR F w a a) : False := by
 obtain ⟨n, m, h1, h2, h3⟩ := h
 have := h1.uniq h2
 rcases h3 with g | ⟨_, g⟩
 · omega
 · exact cmpC_irrefl a g
theorem LtR.asym {F : Cnf} {w : Int} {a b : List Int} (h : LtR F w a b) (h' : LtR F w b a) : False := by
 obtain ⟨n, m, h1, h2, h3⟩ := h
 obtain ⟨m', n', h4, h5, h6⟩ := h'
 have e1 := h1.uniq h5
 have e2 := h2.uniq h4
 subst e1 e2
 rcases h3 with g | ⟨g0, g⟩ <;> rcases h6 with k | ⟨_, k⟩
 · omega
 · omega
 · omega
 · exact cmpC_irrefl a (cmpC_trans g k)
theorem ltR_ext {F : Cnf} {w : Int} : ∀ {xs ys : List (List Int)}, xs.Pairwise (LtR F w) → ys.Pairwise (LtR F w) → (∀ x, x ∈ xs ↔ x ∈ ys) → xs = ys
 | [], [], _, _, _ => rfl
 | [], y :: _, _, _, h => absurd ((h y).2 (by simp)) (by simp)
 | x :: _, [], _, _, h => absurd ((h x).1 (by simp)) (by simp)
 | x :: xs, y :: ys, h1, h2, h => by
  obtain ⟨a1, a2⟩ := List.pairwise_cons.1 h1
  obtain ⟨b1, b2⟩ := List.pairwise_cons.1 h2
  have e : x = y := by
   apply Classical.byContradiction
   intro hne
   have hx : x ∈ ys := by
    rcases List.mem_cons.1 ((h x).1 (by simp)) with g | g
    · exact absurd g hne
    · exact g
   have hy : y ∈ xs := by
    rcases List.mem_cons.1 ((h y).2 (by simp)) with g | g
    · exact absurd g.symm hne
    · exact g
   exact (a1 y hy).asym (b1 x hx)
  subst e
  congr 1
  refine ltR_ext a2 b2 fun z => ?_
  have hz := h z
  rw [List.mem_cons, List.mem_cons] at hz
  constructor
  · intro g
    rcases hz.1 (.inr g) with k | k
    · exact absurd (k ▸ a1 z g) fun q => q.irr
    · exact k
  · intro g
    rcases hz.2 (.inr g) with k | k
    · exact absurd (k ▸ b1 z g) fun q => q.irr
    · exact k
theorem ltR_nodup {F : Cnf} {w : Int} {xs : List (List Int)} (h : xs.Pairwise (LtR F w)) : xs.Nodup := by
 rw [List.nodup_iff_pairwise_ne]
 exact h.imp fun {a b} hab (e : a = b) => LtR.irr (a := a) (by rw [← e] at hab; exact hab)
theorem StOk.uniq {F : Cnf} {w : Int} {t : List Int} {S S' : List ResStep} (hk : ∀ c, Need F w t c → ∃ n, Rk F w n c) (h : StOk F w t S) (h' : StOk F w t S') : S = S' := by
 have hm : S.map (·.clause) = S'.map (·.clause) := ltR_ext h.ord h'.ord fun x => (h.mem x).trans (h'.mem x).symm
 have hnd := ltR_nodup h.ord
 apply List.ext_getElem?
 intro i
 have hi : (S.map (·.clause))[i]? = (S'.map (·.clause))[i]? := by rw [hm]
 rw [List.getElem?_map, List.getElem?_map] at hi
 cases hs : S[i]? with
 | none =>
  rw [hs] at hi
  cases hs' : S'[i]? with
  | none => rfl
  | some s' => rw [hs'] at hi; cases hi
 | some s =>
  rw [hs] at hi
  cases hs' : S'[i]? with
  | none => rw [hs'] at hi; cases hi
  | some s' =>
   rw [hs'] at hi
   have hc : s.clause = s'.clause := by simpa using hi
   have m1 := List.mem_of_getElem? hs
   have m2 := List.mem_of_getElem? hs'
   obtain ⟨n, hn⟩ := hk s.clause ((h.mem _).1 (List.mem_map.2 ⟨s, m1, rfl⟩))
   have hn' : Rk F w n s'.clause := hc ▸ hn
   congr 1
   obtain ⟨c1, l1, r1, p1⟩ := s
   obtain ⟨c2, l2, r2, p2⟩ := s'
   dsimp only [] at hc hn hn'
   subst hc
   by_cases h0 : n = 0
   · subst h0
     obtain ⟨a1, a2, j, a3, a4, a5⟩ := h.ax _ m1 hn
     obtain ⟨b1, b2, k, b3, b4, b5⟩ := h'.ax _ m2 hn
     dsimp only [] at a1 a2 a3 a4 a5 b1 b2 b3 b4 b5
     have : j = k := by
      apply Classical.byContradiction
      intro hne
      rcases Nat.lt_or_gt_of_ne hne with g | g
      · exact b5 j g a4
      · exact a5 k g b4
     subst this
     rw [a1, a2, a3, b1, b2, b3]
   · obtain ⟨a, b, v, i1, j1, s1, s2, s3, s4, s5, s6⟩ := h.rs _ m1 n (by omega) hn
     obtain ⟨a', b', v', i2, j2, u1, u2, u3, u4, u5, u6⟩ := h'.rs _ m2 n (by omega) hn
     dsimp only [] at s1 s2 s3 s4 u1 u2 u3 u4
     have e := s1.uniq u1
     simp only [Prod.mk.injEq] at e
     obtain ⟨rfl, rfl, rfl⟩ := e
     rw [← hm] at u5 u6
     have ei : i1 = i2 := (List.getElem?_inj (lt_of_get s5) hnd).1 (s5.trans u5.symm)
     have ej : j1 = j2 := (List.getElem?_inj (lt_of_get s6) hnd).1 (s6.trans u6.symm)
     subst ei ej
     rw [s2, s3, s4, u2, u3, u4]
theorem Need.rk {F : Cnf} {w : Int} {t : List Int} (ht : ∃ n, Kn F w n t) {c : List Int} (h : Need F w t c) : ∃ n, Rk F w n c := by
 have : ∃ n, Kn F w n c := by
  induction h with
  | self => exact ht
  | left _ _ _ hs _ => exact ⟨_, hs.mk.1⟩
  | right _ _ _ hs _ => exact ⟨_, hs.mk.2.1⟩
 obtain ⟨n, hn⟩ := this
 obtain ⟨q, _, hq⟩ := hn.rk
 exact ⟨q, hq⟩
theorem spec_l10Find_eq {W : l10Work} (hl : W.list.length ≤ 4096) (t : List Int) : ∃ r, spec_l10Find W t = some r ∧ ((r < 0 ∧ t ∉ W.list) ∨ ∃ i : Nat, r = (i : Int) ∧ W.list[i]? = some t) := by
 unfold spec_l10Find
 refine cnt_m (σ := Unit) (fun _ i => i) (n := W.list.length) (a := 0) (s0 := ()) (I := fun i _ => t ∉ W.list.take i) rfl (by omega) (by simp) ?_ ?_ ?_
 · rintro i ⟨⟩ _ hi hI
   rw [cT (by rw [len_eq]; omega)]
   obtain ⟨c, hc⟩ : ∃ c, W.list[i]? = some c := ⟨_, List.getElem?_eq_getElem hi⟩
   have wi : wr ((i : Int) + 1) = ((i + 1 : Nat) : Int) := by rw [wr_s (by omega) (by omega)]; omega
   simp only [ix_get, hc, bd_some, spec_l1Same_eq, wi]
   by_cases e : c = t
   · right
     rw [beq_iff_eq.2 e, cond_true]
     exact ⟨_, rfl, _, rfl, .inr ⟨i, rfl, by rw [hc, e]⟩⟩
   · left
     rw [beq_eq_false_iff_ne.2 e, cond_false]
     refine ⟨(), rfl, ?_⟩
     rw [List.take_add_one, hc]
     simp only [List.mem_append, Option.toList_some, List.mem_singleton, not_or]
     exact ⟨hI, fun g => e g.symm⟩
 · intro s hs
   rw [cF (by rw [len_eq]; omega)]
 · intro s hs
   rw [List.take_length] at hs
   exact ⟨_, rfl, .inl ⟨by omega, hs⟩⟩
end Go.PF
namespace Go.PF
open Go.Pu
theorem pw_get {A : Type} {R : A → A → Prop} {l : List A} (h : l.Pairwise R) {i j : Nat} {x y : A} (hij : i < j) (hx : l[i]? = some x) (hy : l[j]? = some y) : R x y := by
 have h1 := lt_of_get hx
 have h2 := lt_of_get hy
 have := List.pairwise_iff_getElem.1 h i j h1 h2 hij
 rw [List.getElem?_eq_getElem h1] at hx
 rw [List.getElem?_eq_getElem h2] at hy
 cases hx; cases hy
 exact this
theorem get_of_lt {A : Type} {l : List A} {i : Nat} (h : i < l.length) : ∃ x, l[i]? = some x := ⟨_, List.getElem?_eq_getElem h⟩
theorem put_at {A : Type} {xs : List A} {i : Nat} {x : A} (h : i < xs.length) : put xs (i : Int) x = some (xs.set i x) := by
 unfold put
 rw [if_pos (by omega)]; simp
theorem put_int {A : Type} {xs : List A} {i : Int} {x : A} (h0 : 0 ≤ i) (h : i < xs.length) : put xs i x = some (xs.set i.toNat x) := by
 unfold put
 rw [if_pos ⟨h0, h⟩]
theorem set_get {A : Type} {xs : List A} {i j : Nat} {x y : A} (h : (xs.set i x)[j]? = some y) : (i = j ∧ y = x) ∨ xs[j]? = some y := by
 rw [List.getElem?_set] at h
 split at h
 · split at h
   · left; exact ⟨by assumption, (Option.some.inj h).symm⟩
   · cases h
 · exact .inr h
theorem set_keep {A : Type} {xs : List A} {i j : Nat} {x : A} (h : xs[j]? = some x) : (xs.set i x)[j]? = some x := by
 have hl := lt_of_get h
 rw [List.getElem?_set]
 split
 · split
   · rfl
   · omega
 · exact h
theorem set_self {A : Type} {xs : List A} {i : Nat} {x : A} (h : i < xs.length) : (xs.set i x)[i]? = some x := by
 rw [List.getElem?_set, if_pos rfl, if_pos h]
theorem set_ne {A : Type} {xs : List A} {i j : Nat} {x : A} (h : i ≠ j) : (xs.set i x)[j]? = xs[j]? := by
 rw [List.getElem?_set, if_neg h]
structure Mks (F : Cnf) (w : Int) (W : l10Work) (t : List Int) (g : Nat) (i : Int) (N : List Bool) : Prop where
 len : N.length = W.list.length
 snd : ∀ j : Nat, N[j]? = some true → j ≤ g ∧ ∃ c, W.list[j]? = some c ∧ Need F w t c
 goal : N[g]? = some true
 cpl : ∀ k : Nat, i < (k : Int) → N[k]? = some true → ∀ (n : Nat) (a b : Int), 1 ≤ n → W.rounds[k]? = some (n : Int) → W.left[k]? = some a → W.right[k]? = some b → N[a.toNat]? = some true ∧ N[b.toNat]? = some true
theorem Mks.all {F : Cnf} {w : Int} {W : l10Work} {r : Nat} (h : WI F w r W) {t : List Int} {g : Nat} (hg : W.list[g]? = some t) {N : List Bool} (hN : Mks F w W t g (-1) N) :
 ∀ (j : Nat) c, W.list[j]? = some c → (N[j]? = some true ↔ Need F w t c) := by
 have key : ∀ c, Need F w t c → ∃ j : Nat, W.list[j]? = some c ∧ N[j]? = some true := by
  intro c hc
  induction hc with
  | self => exact ⟨g, hg, hN.goal⟩
  | @left c n a b v _ h1 h2 h3 ih =>
   obtain ⟨j, q1, q2⟩ := ih
   obtain ⟨n', p1, p2, p3⟩ := h.at_ j c q1
   have e := h2.uniq p2
   subst e
   obtain ⟨a', b', v', s1, s2, s3, s4, s5, s6, s7, s8⟩ := p3 h1
   have e := h3.uniq s8
   simp only [Prod.mk.injEq] at e
   obtain ⟨rfl, rfl, rfl⟩ := e
   have hj := lt_of_get q1
   exact ⟨a'.toNat, (atC_ix s4 (by omega)).2, (hN.cpl j (by omega) q2 n a' b' h1 p1 s1 s2).1⟩
  | @right c n a b v _ h1 h2 h3 ih =>
   obtain ⟨j, q1, q2⟩ := ih
   obtain ⟨n', p1, p2, p3⟩ := h.at_ j c q1
   have e := h2.uniq p2
   subst e
   obtain ⟨a', b', v', s1, s2, s3, s4, s5, s6, s7, s8⟩ := p3 h1
   have e := h3.uniq s8
   simp only [Prod.mk.injEq] at e
   obtain ⟨rfl, rfl, rfl⟩ := e
   have hj := lt_of_get q1
   exact ⟨b'.toNat, (atC_ix s6 (by omega)).2, (hN.cpl j (by omega) q2 n a' b' h1 p1 s1 s2).2⟩
 intro j c hc
 constructor
 · intro hj
   obtain ⟨_, c', q1, q2⟩ := hN.snd j hj
   rw [hc] at q1
   cases q1
   exact q2
 · intro hn
   obtain ⟨k, q1, q2⟩ := key c hn
   have : j = k := (List.getElem?_inj (lt_of_get hc) h.nd).1 (hc.trans q1.symm)
   rw [this]; exact q2
theorem Mks.step {F : Cnf} {w : Int} {W : l10Work} {r : Nat} (h : WI F w r W) {t : List Int} {g : Nat} {i : Nat} {N : List Bool} (hN : Mks F w W t g (i : Int) N) {a b : Int} {n : Nat} (hi : N[i]? = some true) (h1 : 1 ≤ n) (hr : W.rounds[i]? = some (n : Int))
 (ha : W.left[i]? = some a) (hb : W.right[i]? = some b) : 0 ≤ a ∧ a < i ∧ 0 ≤ b ∧ b < i ∧ Mks F w W t g ((i : Int) - 1) ((N.set a.toNat true).set b.toNat true) := by
 obtain ⟨hig, c, hc, hcn⟩ := hN.snd i hi
 obtain ⟨n', p1, p2, p3⟩ := h.at_ i c hc
 rw [hr] at p1
 have e : n = n' := by have := Option.some.inj p1; omega
 subst e
 obtain ⟨a', b', v', s1, s2, s3, s4, s5, s6, s7, s8⟩ := p3 h1
 rw [ha] at s1
 rw [hb] at s2
 cases s1; cases s2
 have hil := lt_of_get hc
 refine ⟨s4, s5, s6, s7, ?_, ?_, ?_, ?_⟩
 · simp [hN.len]
 · intro j hj
   rcases set_get hj with ⟨e, _⟩ | hj
   · subst e
     exact ⟨by omega, _, (atC_ix s6 (by omega)).2, .right hcn h1 p2 s8⟩
   · rcases set_get hj with ⟨e, _⟩ | hj
     · subst e
       exact ⟨by omega, _, (atC_ix s4 (by omega)).2, .left hcn h1 p2 s8⟩
     · exact hN.snd j hj
 · exact set_keep (set_keep hN.goal)
 · intro k hk hkt m a2 b2 m1 m2 m3 m4
   rw [set_ne (by omega), set_ne (by omega)] at hkt
   by_cases e : k = i
   · subst e
     rw [ha] at m3
     rw [hb] at m4
     cases m3; cases m4
     have hl : N.length = W.list.length := hN.len
     exact ⟨set_keep (set_self (by omega)), set_self (by simp; omega)⟩
   · obtain ⟨u1, u2⟩ := hN.cpl k (by omega) hkt m a2 b2 m1 m2 m3 m4
     exact ⟨set_keep (set_keep u1), set_keep (set_keep u2)⟩
structure Ste (F : Cnf) (w : Int) (W : l10Work) (t : List Int) (i : Nat) (S : List ResStep) (A : List Int) : Prop where
 alen : A.length = W.list.length
 slen : S.length ≤ i
 ord : (S.map (·.clause)).Pairwise (LtR F w)
 mem : ∀ c, c ∈ S.map (·.clause) ↔ Need F w t c ∧ ∃ j, j < i ∧ W.list[j]? = some c
 pos : ∀ (j : Nat) c, j < i → W.list[j]? = some c → Need F w t c → ∃ p : Nat, A[j]? = some (p : Int) ∧ (S.map (·.clause))[p]? = some c
 ax : ∀ s ∈ S, Rk F w 0 s.clause → s.left = -1 ∧ s.pivot = 0 ∧ ∃ j : Nat, s.right = (j : Int) ∧ F.clauses[j]? = some s.clause ∧ ∀ k < j, F.clauses[k]? ≠ some s.clause
 rs : ∀ s ∈ S, ∀ n, 1 ≤ n → Rk F w n s.clause → ∃ a b v, ∃ i j : Nat, Src F w n s.clause (a, b, v) ∧ s.pivot = v ∧ s.left = (i : Int) ∧ s.right = (j : Int) ∧ (S.map (·.clause))[i]? = some a ∧ (S.map (·.clause))[j]? = some b
theorem Ste.skip {F : Cnf} {w : Int} {W : l10Work} {t : List Int} {i : Nat} {S : List ResStep} {A : List Int} (h : Ste F w W t i S A) {c : List Int} (hc : W.list[i]? = some c) (hn : ¬ Need F w t c) : Ste F w W t (i + 1) S A := by
 refine ⟨h.alen, by have := h.slen; omega, h.ord, ?_, ?_, h.ax, h.rs⟩
 · intro x
   rw [h.mem]
   constructor
   · rintro ⟨g, j, h1, h2⟩; exact ⟨g, j, by omega, h2⟩
   · rintro ⟨g, j, h1, h2⟩
     by_cases e : j = i
     · subst e; rw [hc] at h2; cases h2; exact absurd g hn
     · exact ⟨g, j, by omega, h2⟩
 · intro j x hj hx hx2
   by_cases e : j = i
   · subst e; rw [hc] at hx; cases hx; exact absurd hx2 hn
   · exact h.pos j x (by omega) hx hx2
theorem Ste.add {F : Cnf} {w : Int} {W : l10Work} {r : Nat} (hW : WI F w r W) {t : List Int} {i : Nat} {S : List ResStep} {A : List Int} (h : Ste F w W t i S A) {s : ResStep} (hc : W.list[i]? = some s.clause) (hn : Need F w t s.clause)
 (hax : Rk F w 0 s.clause → s.left = -1 ∧ s.pivot = 0 ∧ ∃ j : Nat, s.right = (j : Int) ∧ F.clauses[j]? = some s.clause ∧ ∀ k < j, F.clauses[k]? ≠ some s.clause)
 (hrs : ∀ n, 1 ≤ n → Rk F w n s.clause → ∃ a b v, ∃ i j : Nat, Src F w n s.clause (a, b, v) ∧ s.pivot = v ∧ s.left = (i : Int) ∧ s.right = (j : Int) ∧ (S.map (·.clause))[i]? = some a ∧ (S.map (·.clause))[j]? = some b) :
 Ste F w W t (i + 1) (S ++ [s]) (A.set i (S.length : Int)) := by
 have hil := lt_of_get hc
 have keep : ∀ {p : Nat} {x : List Int}, (S.map (·.clause))[p]? = some x → ((S ++ [s]).map (·.clause))[p]? = some x := by
  intro p x hp
  rw [List.map_append, List.getElem?_append_left (lt_of_get hp)]
  exact hp
 refine ⟨by simp [h.alen], by have := h.slen; simp; omega, ?_, ?_, ?_, ?_, ?_⟩
 · rw [List.map_append, List.pairwise_append]
   refine ⟨h.ord, by simp, ?_⟩
   intro a ha b hb
   obtain ⟨_, j, h1, h2⟩ := (h.mem a).1 ha
   have : b = s.clause := by simpa using hb
   subst this
   exact pw_get hW.ord h1 h2 hc
 · intro x
   rw [List.map_append, List.mem_append, h.mem]
   simp only [List.map_cons, List.map_nil, List.mem_singleton]
   constructor
   · rintro (⟨g, j, h1, h2⟩ | g)
     · exact ⟨g, j, by omega, h2⟩
     · rw [g]; exact ⟨hn, i, by omega, hc⟩
   · rintro ⟨g, j, h1, h2⟩
     by_cases e : j = i
     · subst e; rw [hc] at h2; cases h2; exact .inr rfl
     · exact .inl ⟨g, j, by omega, h2⟩
 · intro j x hj hx hx2
   by_cases e : j = i
   · subst e
     rw [hc] at hx; cases hx
     refine ⟨S.length, set_self (by rw [h.alen]; exact hil), ?_⟩
     rw [List.map_append, List.getElem?_append_right (by simp)]
     simp
   · obtain ⟨p, p1, p2⟩ := h.pos j x (by omega) hx hx2
     exact ⟨p, by rw [set_ne (fun e2 => e e2.symm)]; exact p1, keep p2⟩
 · intro s' hs'
   rcases List.mem_append.1 hs' with g | g
   · exact h.ax s' g
   · have : s' = s := by simpa using g
     subst this; exact hax
 · intro s' hs' n hn1 hn2
   rcases List.mem_append.1 hs' with g | g
   · obtain ⟨a, b, v, p, q, u1, u2, u3, u4, u5, u6⟩ := h.rs s' g n hn1 hn2
     exact ⟨a, b, v, p, q, u1, u2, u3, u4, keep u5, keep u6⟩
   · have : s' = s := by simpa using g
     subst this
     obtain ⟨a, b, v, p, q, u1, u2, u3, u4, u5, u6⟩ := hrs n hn1 hn2
     exact ⟨a, b, v, p, q, u1, u2, u3, u4, keep u5, keep u6⟩
theorem spec_l10Derive_eq {F : Cnf} {w : Int} (hF : Nar F) {W : l10Work} {r : Nat} (h : WI F w r W) {t : List Int} {g : Nat} (hg : W.list[g]? = some t) :
 ∃ q, spec_l10Derive F W (g : Int) = some q ∧ StOk F w t q.1 ∧ q.2 = decide (len q.1 ≤ 200) := by
 unfold spec_l10Derive
 have hfew := h.few hF
 have hgl := lt_of_get hg
 have i1 := h.l1
 have i2 := h.l2
 have i3 := h.l3
 have i4 := h.l4
 have hFl := hF.len
 have e1 : mk2 (false : Bool) (len W.list) (len W.list) = some (List.replicate W.list.length false) := by
  unfold mk2; rw [len_eq, if_pos (by simp only [lim]; omega)]; simp
 have e2 : mk2 (0 : Int) (len W.list) (len W.list) = some (List.replicate W.list.length 0) := by
  unfold mk2; rw [len_eq, if_pos (by simp only [lim]; omega)]; simp
 have e3 : ix (List.replicate W.list.length false) (g : Int) = some false := by
  rw [ix_get, List.getElem?_replicate, if_pos hgl]
 rw [e1, bd_some, e2, bd_some, e3, bd_some, put_at (by simpa using hgl), bd_some]
 refine iter_m (I := fun s => -1 ≤ s.2 ∧ s.2 ≤ (g : Int) ∧ Mks F w W t g s.2 s.1) (m := fun s => (s.2 + 1).toNat) ?_ ?_
 · refine ⟨by omega, by omega, by simp, ?_, set_self (by simpa using hgl), ?_⟩
   · intro j hj
     rcases set_get hj with ⟨e, _⟩ | hj
     · subst e; exact ⟨by omega, t, hg, .self⟩
     · rw [List.getElem?_replicate] at hj
       split at hj <;> cases hj
   · intro k hk hkt
     rcases set_get hkt with ⟨e, _⟩ | hkt
     · dsimp only [] at hk; omega
     · rw [List.getElem?_replicate] at hkt
       split at hkt <;> cases hkt
 · rintro ⟨N, i⟩ ⟨hi1, hi2, hN⟩
   dsimp only [] at hi1 hi2 hN ⊢
   have hNl := hN.len
   by_cases hi0 : 0 ≤ i
   · left
     rw [cT hi0]
     obtain ⟨i, rfl⟩ : ∃ k : Nat, i = (k : Int) := ⟨i.toNat, by omega⟩
     have hil : i < W.list.length := by omega
     obtain ⟨x, hx⟩ := get_of_lt (l := N) (i := i) (by omega)
     obtain ⟨c, hc⟩ := get_of_lt (l := W.list) (i := i) hil
     obtain ⟨n, p1, p2, p3⟩ := h.at_ i c hc
     have wi : wr ((i : Int) - 1) = (i : Int) - 1 := wr_s (by omega) (by omega)
     simp only [ix_get, hx, bd_some, p1, wi]
     by_cases hxt : x = true ∧ 1 ≤ n
     · obtain ⟨rfl, hn⟩ := hxt
       rw [cond_true, bd_some, cT (by omega)]
       obtain ⟨a, b, v, s1, s2, s3, s4, s5, s6, s7, s8⟩ := p3 hn
       obtain ⟨_, _, _, _, hst⟩ := hN.step h hx hn p1 s1 s2
       have ea : ∃ y, ix N a = some y := by
        obtain ⟨y, hy, _⟩ := ix_of (xs := N) s4 (by omega); exact ⟨y, hy⟩
       obtain ⟨ya, ea⟩ := ea
       have eb : ∃ y, ix (N.set a.toNat true) b = some y := by
        obtain ⟨y, hy, _⟩ := ix_of (xs := N.set a.toNat true) s6 (by simp; omega); exact ⟨y, hy⟩
       obtain ⟨yb, eb⟩ := eb
       simp only [s1, bd_some, ea, put_int s4 (show a < N.length by omega), s2, eb, put_int (xs := N.set a.toNat true) s6 (by simp; omega)]
       exact ⟨_, rfl, ⟨by dsimp only []; omega, by dsimp only []; omega, hst⟩, by dsimp only []; omega⟩
     · have : (bd (bif x then some (decide ((0 : Int) < (n : Int))) else some false) fun t => some t) = some false := by
        cases x
        · rfl
        · have hn : n = 0 := by
           apply Classical.byContradiction
           intro q
           exact hxt ⟨rfl, by omega⟩
          subst hn; rfl
       rw [bd_test this, cond_false]
       refine ⟨_, rfl, ⟨by dsimp only []; omega, by dsimp only []; omega, hN.len, hN.snd, hN.goal, ?_⟩, by dsimp only []; omega⟩
       intro k hk hkt m a b m1 m2 m3 m4
       dsimp only [] at hk
       by_cases e : k = i
       · subst e
         rw [hx] at hkt
         rw [p1] at m2
         have : n = m := by have := Option.some.inj m2; omega
         exact absurd ⟨Option.some.inj hkt, by omega⟩ hxt
       · exact hN.cpl k (by omega) hkt m a b m1 m2 m3 m4
   · right; left
     rw [cF hi0]
     refine ⟨_, rfl, ?_⟩
     have hi : i = -1 := by omega
     subst hi
     dsimp only []
     have hall := hN.all h hg
     refine cnt_m (σ := List ResStep × List Int) (fun s i => (s.1, s.2, i)) (n := g + 1) (a := 0) (s0 := ([], List.replicate W.list.length 0)) (I := fun i s => Ste F w W t i s.1 s.2) rfl (by omega) ?_ ?_ ?_ ?_
     · exact ⟨by simp, by simp, by simp, fun c => ⟨nofun, fun ⟨_, j, hj, _⟩ => by omega⟩, fun j c hj => by omega, nofun, nofun⟩
     · rintro i ⟨S, A⟩ _ hi hS
       left
       dsimp only [] at hS ⊢
       rw [cT (by omega)]
       have hil : i < W.list.length := by omega
       obtain ⟨x, hx⟩ := get_of_lt (l := N) (i := i) (by omega)
       obtain ⟨c, hc⟩ := get_of_lt (l := W.list) (i := i) hil
       obtain ⟨n, p1, p2, p3⟩ := h.at_ i c hc
       have wi : wr ((i : Int) + 1) = ((i + 1 : Nat) : Int) := by rw [wr_s (by omega) (by omega)]; omega
       have hiff := hall i c hc
       have hsl := hS.slen
       have hal := hS.alen
       simp only [ix_get, hx, bd_some, wi]
       cases x
       · rw [Bool.not_false, cond_true]
         exact ⟨(S, A), rfl, hS.skip hc fun q => by have := hiff.2 q; rw [hx] at this; cases this⟩
       · have hn := hiff.1 hx
         rw [Bool.not_true, cond_false]
         obtain ⟨y, hy⟩ := get_of_lt (l := A) (i := i) (by omega)
         have hcs := hF.kn ((h.lm c).1 (List.mem_of_getElem? hc))
         have hcl := hcs.c.len
         have happ : ∀ s : ResStep, app S [s] = some (S ++ [s]) := fun s => by unfold app; rw [if_pos (by simp [lim]; omega)]
         simp only [hy, bd_some, put_at (show i < A.length by omega), p1, hc]
         rw [len_eq]
         by_cases hn0 : 1 ≤ n
         · rw [cT (by omega)]
           obtain ⟨a, b, v, s1, s2, s3, s4, s5, s6, s7, s8⟩ := p3 hn0
           have hA := (atC_ix (cl := W.list) s4 (by omega)).2
           have hB := (atC_ix (cl := W.list) s6 (by omega)).2
           obtain ⟨pa, pa1, pa2⟩ := hS.pos a.toNat _ (by omega) hA (.left hn hn0 p2 s8)
           obtain ⟨pb, pb1, pb2⟩ := hS.pos b.toNat _ (by omega) hB (.right hn hn0 p2 s8)
           have xa : ix (A.set i (S.length : Int)) a = some (pa : Int) := by
            have := ix_nat (xs := A.set i (S.length : Int)) (i := a.toNat) (x := (pa : Int)) (by rw [set_ne (by omega)]; exact pa1)
            rwa [show ((a.toNat : Nat) : Int) = a by omega] at this
           have xb : ix (A.set i (S.length : Int)) b = some (pb : Int) := by
            have := ix_nat (xs := A.set i (S.length : Int)) (i := b.toNat) (x := (pb : Int)) (by rw [set_ne (by omega)]; exact pb1)
            rwa [show ((b.toNat : Nat) : Int) = b by omega] at this
           simp only [spec_l1Own_eq (show c.length ≤ lim by simp only [lim]; omega), bd_some, s1, s2, s3, xa, xb, happ]
           refine ⟨(_, _), rfl, hS.add h (s := ⟨c, (pa : Int), (pb : Int), v⟩) hc hn (fun q => ?_) (fun m m1 m2 => ?_)⟩
           · have := p2.uniq q; omega
           · have := p2.uniq m2
             subst this
             exact ⟨_, _, v, pa, pb, s8, rfl, rfl, rfl, pa2, pb2⟩
         · have hn00 : n = 0 := by omega
           subst hn00
           rw [cF (by omega)]
           have hcm : c ∈ F.clauses := by
            rcases p2.1 with q | q | ⟨_, _, _, q, _⟩
            · exact q.1
            · exact q.elim
            · exact q.elim
           refine iter_m (R := fun z => ∃ s : List ResStep × List Int, z = Lp.nx (s.1, s.2, ((i + 1 : Nat) : Int)) ∧ Ste F w W t (i + 1) s.1 s.2) (I := fun s => ∃ k : Nat, s = (k : Int) ∧ c ∉ F.clauses.take k) (m := fun s => F.clauses.length - s.toNat) ?_ ?_ |> fun ⟨z, h1, s, h2, h3⟩ => ⟨s, h1.trans (congrArg some h2), h3⟩
           · exact ⟨0, rfl, by simp⟩
           · rintro s ⟨k, rfl, hk⟩
             have hkl : k < F.clauses.length := by
              apply Classical.byContradiction
              intro q
              rw [List.take_of_length_le (by omega)] at hk
              exact hk hcm
             obtain ⟨d, hd⟩ := get_of_lt (l := F.clauses) (i := k) hkl
             simp only [ix_get, hd, bd_some, spec_l1Same_eq]
             by_cases e : d = c
             · right; left
               subst e
               rw [show (!(d == d)) = false by simp, cond_false]
               refine ⟨_, rfl, ?_⟩
               unfold spec_l7Axiom
               simp only [ix_get, hd, bd_some, spec_l1Own_eq (show d.length ≤ lim by simp only [lim]; omega), happ]
               refine ⟨_, rfl, (_, _), rfl, hS.add h (s := ⟨d, -1, (k : Int), 0⟩) hc hn (fun _ => ⟨rfl, rfl, k, rfl, hd, fun m hm q => ?_⟩) (fun m m1 m2 => ?_)⟩
               · exact hk (List.mem_of_getElem? (i := m) (by rw [List.getElem?_take, if_pos hm]; exact q))
               · have := p2.uniq m2; omega
             · left
               rw [show (!(d == c)) = true by simp [e], cond_true]
               refine ⟨_, rfl, ⟨k + 1, by rw [wr_s (by omega) (by omega)]; omega, ?_⟩, ?_⟩
               · rw [List.take_add_one, hd]
                 simp only [List.mem_append, Option.toList_some, List.mem_singleton, not_or]
                 exact ⟨hk, fun q => e q.symm⟩
               · rw [wr_s (by omega) (by omega)]; omega
     · intro s hs
       dsimp only []
       rw [cF (by omega)]
     · rintro ⟨S, A⟩ hS
       dsimp only [] at hS ⊢
       refine ⟨_, rfl, ⟨hS.ord, fun c => ?_, hS.ax, hS.rs⟩, rfl⟩
       rw [hS.mem]
       constructor
       · exact fun q => q.1
       · intro q
         refine ⟨q, ?_⟩
         obtain ⟨m, hm⟩ := q.rk ⟨r, (h.lm t).1 (List.mem_of_getElem? hg)⟩
         -- a needed clause stands in the list: the marks reach it
         have hex : ∃ j : Nat, W.list[j]? = some c := by
          have : ∀ c, Need F w t c → ∃ j : Nat, W.list[j]? = some c := by
           intro c hc
           induction hc with
           | self => exact ⟨g, hg⟩
           | @left c n a b v _ h1 h2 h3 ih =>
            obtain ⟨j, q1⟩ := ih
            obtain ⟨n', p1, p2, p3⟩ := h.at_ j c q1
            have e := h2.uniq p2
            subst e
            obtain ⟨a', b', v', s1, s2, s3, s4, s5, s6, s7, s8⟩ := p3 h1
            have e := h3.uniq s8
            simp only [Prod.mk.injEq] at e
            obtain ⟨rfl, rfl, rfl⟩ := e
            have hj := lt_of_get q1
            exact ⟨a'.toNat, (atC_ix s4 (by omega)).2⟩
           | @right c n a b v _ h1 h2 h3 ih =>
            obtain ⟨j, q1⟩ := ih
            obtain ⟨n', p1, p2, p3⟩ := h.at_ j c q1
            have e := h2.uniq p2
            subst e
            obtain ⟨a', b', v', s1, s2, s3, s4, s5, s6, s7, s8⟩ := p3 h1
            have e := h3.uniq s8
            simp only [Prod.mk.injEq] at e
            obtain ⟨rfl, rfl, rfl⟩ := e
            have hj := lt_of_get q1
            exact ⟨b'.toNat, (atC_ix s6 (by omega)).2⟩
          exact this c q
         obtain ⟨j, hj⟩ := hex
         have := (hN.snd j ((hall j c hj).2 q)).1
         exact ⟨j, by omega, hj⟩
end Go.PF
