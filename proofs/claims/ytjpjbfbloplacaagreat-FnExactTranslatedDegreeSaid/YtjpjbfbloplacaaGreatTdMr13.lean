/- Writing into fresh data that is sealed: the marks. -/
import Derived.Test.YtjpjbfbloplacaaGreatTdMr12
namespace Go.Mr
open Go.RowKit Go.Pu

section
variable {P : Program} {w w' : World} {H0 H H' : GH} {w0 : World} {l : List MO} {e k n t : Nat} {v u : Value} {A : Type} {En : Enc A}

def Nest {A : Type} (G : GH) (En : Enc A) (k : Nat) (v : Value) (xs : List A) (c : List Value) : Prop :=
  RSl G En k v xs ∧ Els G En k c xs ∧ (∀ a len cap, v = .slice (some a) len cap → xs ≠ [] → CAt G a c) ∧ (bl c).Nodup ∧ ∀ b ∈ bl [v], b ∉ bl c

theorem St.sealRowN {xs : List A} (h : St H0 w0 H w l) {i : Nat} {cells : List Value} {l' : List MO} (hi : l[i]? = some (.row e k v n cells)) (he : Els (up w0.heap.size H) En k cells xs) (nd : (bl cells).Nodup) (hk : 0 < k) (hl : l.eraseIdx i = l') :
    ∃ H1, St H0 w0 H1 w l' ∧ Inc H H1 ∧ Nest (up w0.heap.size H1) En k v xs cells ∧ New H [v] := by
  obtain ⟨H1, h1, h2, h3, h4⟩ := h.sealRowU hi he hk hl
  refine ⟨H1, h1, h2, ⟨h3, he.mono (up_mono h2), ?_, nd, fun b hb hc => ?_⟩, h4⟩
  · rintro a len cap rfl hne
    obtain ⟨x, hx⟩ : ∃ x, xs[0]? = some x := by
      cases xs with
      | nil => exact absurd rfl hne
      | cons x xs => exact ⟨x, rfl⟩
    obtain ⟨a', cap', hv, _, g2⟩ := h3
    cases hv
    obtain ⟨p, cs, hp, _, ⟨arr, t, fr, g4, g5, _⟩, _⟩ := g2 0 x hx
    cases hp
    rw [Nat.zero_mul, Addr.add_zero'] at g4 g5
    obtain ⟨⟨k1, k2⟩, _⟩ := h.ok i _ hi
    rcases k2 with ⟨hv, _⟩ | ⟨g, cap', cur, hv, hg, hh, hle, hcm, hsz, htk⟩
    · cases hv
    · cases hv
      have hnow := h1.sl _ _ (upI _ _ g4)
      simp only at hnow
      rw [hh] at hnow
      cases hnow
      refine ⟨_, _, _, g4, rfl, fun j c hc => ?_⟩
      rw [← htk, List.getElem?_take] at hc
      split at hc
      · simpa using hc
      · cases hc
  · have := h4 b hb
    exact Els.dom (he.mono upI) b hc this

end
end Go.Mr
