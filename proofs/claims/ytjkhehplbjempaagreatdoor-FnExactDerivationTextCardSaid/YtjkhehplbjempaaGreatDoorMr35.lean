/- Calls of which it is not told how often they draw (strings.Join): the base world's count of draws is set to nought. -/
import Derived.Test.YtjkhehplbjempaaGreatDoorMr34
import Derived.Test.YtjkhehplbjempaaGreatDoorDtPu5
import Derived.Shelf.Strings.OnBuilder
set_option linter.unusedVariables false
namespace Go.Mr
open Go.RowKit Go.Pu
def wz (w : World) : World := { w with drawn := 0 }
theorem below_z {B : Nat} {w w' : World} (h : Below B (wz w) w') : Below B w w' := ⟨h.os, h.tape, h.output, h.size, h.block⟩
theorem below_zz {B : Nat} {w w' : World} (h : Below B w w') : Below B (wz w) w' := ⟨h.os, h.tape, h.output, h.size, h.block⟩
theorem run_z {H : GH} {w w' : World} (hs : Sl H w) (h : Below w.heap.size w w') : Run w.heap.size H (wz w) H w' :=
  ⟨below_zz h, fun _ _ => rfl, fun b o hb => by
    have h1 := hs _ _ hb
    rw [h.block b (Array.getElem?_eq_some_iff.1 h1).1]; exact h1, Inc.rfl H, Nat.zero_le _, fun _ _ h => .inl h⟩
theorem St.init0 {H : GH} {w : World} (h : Sl H w) : St H (wz w) H w [] := ⟨run_z (w := w) h (Below.refl _ w), by simp, by simp, by simp⟩
theorem St.callX {H0 H H' : GH} {w0 w w' : World} {l : List MO} (h : St H0 w0 H w l) (hz : w0.drawn = 0) (k : Run w.heap.size H (wz w) H' w') : St H0 w0 H' w' l := by
  have kb := below_z k.bel
  refine ⟨⟨h.run.bel.trans (kb.mono h.size), fun b hb => (k.agr b (Nat.lt_of_lt_of_le hb h.size)).trans (h.run.agr b hb), k.sl, h.run.inc.tr k.inc, by rw [hz]; exact Nat.zero_le _, fun b o hb => (k.cel b o hb).elim (fun h1 => h.run.cel b o h1) .inr⟩,
    fun i o ho => (h.ok i o ho).kept kb.size fun b hb => kb.block b ((h.ok i o ho).lt b hb).2, fun i o b ho hb => ?_, h.dis⟩
  rw [k.agr b ((h.ok i o ho).lt b hb).2]
  exact h.out i o b ho hb
/-- strings.Join -/
theorem joinC {P : Program} {fid : Nat} {H : GH} {w : World} (hs : Sl H w) {v : Value} {xs : List ByteArray} (hp : RSl H eS 1 v xs) {sep r : ByteArray} (hr : joinS xs sep = some r)
    (k0 : ∀ (a : Option Addr) (c : Nat) (w : World), Calls P fid #[.slice a 0 c, .string sep] w fun e w' => e = .returned (.string ⟨#[]⟩) ∧ w' = w)
    (k1 : ∀ (bk o c : Nat) (w : World) (_ : ∀ (j : Nat) x, xs[j]? = some x → w.cell? ⟨bk, o + j, none⟩ = some (.string x)) (_ : bk < w.heap.size) (_ : xs.length ≤ 140737488355328) (_ : xs.length ≤ c)
      (_ : (Lib.join (xs.map (·.data.toList)) sep.data.toList).length ≤ 140737488355328),
      Calls P fid #[.slice (some ⟨bk, o, none⟩) xs.length c, .string sep] w fun e w' => e = .returned (.string ⟨(Lib.join (xs.map (·.data.toList)) sep.data.toList).toArray⟩) ∧ Below w.heap.size w w') :
    Calls P fid #[v, .string sep] w (Sc H (wz w) (.string r)) := by
  unfold joinS at hr
  split at hr
  · rename_i hh
    cases hr
    obtain ⟨a, cap, rfl, hc, hx⟩ := hp
    match xs, hh, hc, hx, k1 with
    | [], hh, hc, hx, k1 =>
      refine (k0 a cap w).mono ?_
      rintro _ w1 ⟨rfl, hw⟩
      subst hw
      exact ⟨rfl, run_z (w := w1) hs (Below.refl _ _)⟩
    | x :: xs, hh, hc, hx, k1 =>
      obtain ⟨p, cs0, rfl, hl0, hat0, hr0⟩ := hx 0 x rfl
      rw [Nat.zero_mul] at hat0
      obtain ⟨arr, e, fr, g1, g2, g3⟩ := hat0
      have hblk : (p.add 0).block = p.block := by unfold Addr.add; rw [if_pos rfl]
      have hspot : p.spot = none := by unfold Addr.add at g2; rw [if_pos rfl] at g2; exact g2
      rw [hblk] at g1
      have hp' : p = ⟨p.block, p.off, none⟩ := by cases p; cases hspot; rfl
      have hbk : p.block < w.heap.size := (Array.getElem?_eq_some_iff.1 (hs _ _ g1)).1
      have hcell : ∀ (j : Nat) y, (x :: xs)[j]? = some y → w.cell? ⟨p.block, p.off + j, none⟩ = some (.string y) := fun j y hj => by
        obtain ⟨p', cs, hpp, hl, hat, hr⟩ := hx j y hj
        cases hpp
        have hcs : cs = [.string y] := hr
        subst hcs
        have := hat.now hs 0 _ rfl
        rw [Nat.mul_one] at this
        have e2 : (p.add j).add 0 = ⟨p.block, p.off + j, none⟩ := by
          unfold Addr.add
          rw [if_pos rfl]
          split
          · rename_i hz; subst hz; rw [hp']; rfl
          · rfl
        rw [e2] at this; exact this
      rw [hp']
      refine (k1 p.block p.off cap w hcell hbk hh.2 hc.2.2 hh.1).mono ?_
      rintro _ _ ⟨rfl, hb⟩
      exact ⟨rfl, run_z (w := w) hs hb⟩
  · cases hr
end Go.Mr
