/- Elements told with the cell in which they lie: what a call leaves of a row is a part of it, cells and all (slices.CompactFunc). -/
import Derived.Test.YtdkkikkmnfjgiaaGreatMr9
import Derived.Test.YtdkkikkmnfjgiaaGreatEmPu2
set_option linter.unusedVariables false
namespace Go.Mr
open Go.RowKit Go.Pu
variable {A : Type} {En : Enc A} {H : GH}
def eCx (E : Enc A) : Enc (Value × A) := ⟨fun H cs p => cs = [p.1] ∧ E.rel H [p.1] p.2, fun hi ⟨h1, h2⟩ => ⟨h1, E.mono hi h2⟩,
  by rintro H cs x ⟨rfl, h⟩; exact E.one h, by rintro H cs x ⟨rfl, h⟩; exact E.dom h⟩
theorem eCx_open {cs : List Value} {x : Value × A} (h : (eCx En).rel H cs x) : ∃ v, cs = [v] ∧ x.1 = v ∧ En.rel H [v] x.2 := ⟨x.1, h.1, rfl, h.2⟩
theorem eCx_mk {v : Value} {x : Value × A} (e : x.1 = v) (h : En.rel H [v] x.2) : (eCx En).rel H [v] x := by subst e; exact ⟨rfl, h⟩
theorem els_pair {cells : List Value} {xs : List A} (h : Els H En 1 cells xs) : ∃ d : List (Value × A), Els H (eCx En) 1 cells d ∧ d.map (fun p => p.2) = xs ∧ d.map (fun p => p.1) = cells := by
  induction h with
  | nil => exact ⟨[], .nil, rfl, rfl⟩
  | snoc hp hc hx ih =>
    rename_i cells xs c x
    obtain ⟨d, h1, h2, h3⟩ := ih
    match c, hc, hx with
    | [c0], _, hx => exact ⟨d ++ [(c0, x)], .snoc h1 rfl ⟨rfl, hx⟩, by rw [List.map_append, h2]; rfl, by rw [List.map_append, h3]; rfl⟩
theorem pair_els {cells : List Value} {d : List (Value × A)} (h : Els H (eCx En) 1 cells d) : Els H En 1 cells (d.map fun p => p.2) ∧ d.map (fun p => p.1) = cells := by
  induction h with
  | nil => exact ⟨.nil, rfl⟩
  | snoc hp hc hx ih =>
    obtain ⟨v, rfl, e, hr⟩ := eCx_open hx
    obtain ⟨h1, h2⟩ := ih
    rw [List.map_append, List.map_append, h2]
    exact ⟨.snoc h1 rfl hr, by simp [e]⟩
theorem nd_sub {c c' : List Value} (h : c'.Sublist c) (hn : (bl c).Nodup) : (bl c').Nodup := by unfold bl at *; exact hn.sublist (h.filterMap _)
theorem nd_perm {c c' : List Value} (h : c'.Perm c) (hn : (bl c).Nodup) : (bl c').Nodup := by unfold bl at *; exact (h.filterMap _).nodup_iff.2 hn
theorem St.row_lim {w0 w : World} {H0 : GH} {l : List MO} {e n : Nat} {v : Value} (h : St H0 w0 H w l) {i : Nat} {cells : List Value} (hi : l[i]? = some (.row e 1 v n cells)) {G : GH} {xs : List A} (he : Els G En 1 cells xs) : xs.length ≤ 9223372036854775807 := by
  obtain ⟨⟨g1, g2⟩, g3⟩ := h.ok i _ hi
  have hlen := he.length
  rcases g2 with ⟨rfl, rfl⟩ | ⟨g, cap, cur, rfl, hg, hh, hle, hcm, hsz, htk⟩
  · omega
  · simp only [maxLen] at hcm; omega
end Go.Mr
