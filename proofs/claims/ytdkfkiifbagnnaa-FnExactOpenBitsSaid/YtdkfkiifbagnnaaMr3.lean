/- Memory: what is sealed ('H': blocks that nobody writes any more), and what the call is still making ('MO'). -/
import Derived.Test.YtdkfkiifbagnnaaMr2
import Derived.Laws.AppendOwnNone
namespace Go.Mr
open Go.RowKit Go.Pu

abbrev GH := Nat → Option Obj
def Inc (H H' : GH) : Prop := ∀ b o, H b = some o → H' b = some o
def Sl (H : GH) (w : World) : Prop := ∀ b o, H b = some o → w.heap[b]? = some o
theorem Inc.rfl (H : GH) : Inc H H := fun _ _ h => h
theorem Inc.tr {A B C : GH} (h : Inc A B) (k : Inc B C) : Inc A C := fun b o x => k b o (h b o x)

/-- what may be sealed: cells, and maps -/
def still : Obj → Bool
  | .cells .. => true
  | .map .. => true
  | _ => false
theorem still_cells {o : Obj} (h : o.isCells = true) : still o = true := by cases o <;> first | rfl | cases h
/-- from (H, w) to (H', w'): below block B nothing has turned -/
structure Run (B : Nat) (H : GH) (w : World) (H' : GH) (w' : World) : Prop where
  bel : Below B w w'
  agr : ∀ b, b < B → H' b = H b
  sl : Sl H' w'
  inc : Inc H H'
  drw : w.drawn ≤ w'.drawn
  cel : ∀ b o, H' b = some o → H b = some o ∨ still o = true

theorem Run.refl (B : Nat) {H : GH} {w : World} (h : Sl H w) : Run B H w H w := ⟨Below.refl B w, fun _ _ => rfl, h, Inc.rfl H, Nat.le_refl _, fun _ _ h => .inl h⟩
theorem Run.mono {B B' : Nat} {H H' : GH} {w w' : World} (h : Run B H w H' w') (hB : B' ≤ B) : Run B' H w H' w' :=
  ⟨h.bel.mono hB, fun b hb => h.agr b (by omega), h.sl, h.inc, h.drw, h.cel⟩
theorem Run.tr {B B' : Nat} {H H' H'' : GH} {w w' w'' : World} (h : Run B H w H' w') (k : Run B' H' w' H'' w'') (hB : B ≤ B') : Run B H w H'' w'' :=
  ⟨h.bel.trans (k.bel.mono hB), fun b hb => (k.agr b (by omega)).trans (h.agr b hb), k.sl, h.inc.tr k.inc, Nat.le_trans h.drw k.drw, fun b o hb => (k.cel b o hb).elim (fun h1 => h.cel b o h1) .inr⟩

/-- blocks of the slices, among cells, that have elements -/
def neb : Value → Option Nat
  | .slice (some a) n _ => if n = 0 then none else some a.block
  | _ => none
def bl (cs : List Value) : List Nat := cs.filterMap neb
theorem bl_app (a b : List Value) : bl (a ++ b) = bl a ++ bl b := List.filterMap_append ..
theorem mem_bl {cs : List Value} {b : Nat} (h : b ∈ bl cs) : ∃ v ∈ cs, neb v = some b := List.mem_filterMap.1 h
theorem mem_bl1 {v : Value} {b : Nat} (h : neb v = some b) : b ∈ bl [v] := List.mem_filterMap.2 ⟨v, by simp, h⟩

/-- how data lie in cells -/
structure Enc (α : Type) where
  rel : GH → List Value → α → Prop
  mono : ∀ {H H' cs x}, Inc H H' → rel H cs x → rel H' cs x
  one : ∀ {H cs x}, rel H cs x → ∀ u ∈ cs, u.oneCell' = true
  dom : ∀ {H cs x}, rel H cs x → ∀ b ∈ bl cs, H b ≠ none

/-- sealed cells from p on -/
def CAt (H : GH) (p : Addr) (cs : List Value) : Prop :=
  ∃ arr e fr, H p.block = some (.cells arr e fr) ∧ p.spot = none ∧ ∀ (j : Nat) c, cs[j]? = some c → arr[p.off + j]? = some c
/-- cells from p on, now -/
def WAt (w : World) (p : Addr) (cs : List Value) : Prop := ∀ j c, cs[j]? = some c → w.cell? (p.add j) = some c

theorem CAt.mono {H H' : GH} {p : Addr} {cs : List Value} (h : CAt H p cs) (hi : Inc H H') : CAt H' p cs :=
  let ⟨arr, e, fr, h1, h2⟩ := h
  ⟨arr, e, fr, hi _ _ h1, h2⟩
theorem CAt.now {H : GH} {w : World} {p : Addr} {cs : List Value} (h : CAt H p cs) (hs : Sl H w) : WAt w p cs := by
  obtain ⟨arr, e, fr, h1, h2, h3⟩ := h
  intro j c hc
  have h4 := hs _ _ h1
  have h5 := h3 j c hc
  by_cases hj : j = 0
  · subst hj
    simp only [Nat.add_zero] at h5
    rw [Addr.add_zero']
    simp [World.cell?, h4, h2, h5]
  · simp [World.cell?, Addr.add, hj, h4, h5]

/-- a slice of sealed cells, k to an element -/
def RSl {α : Type} (H : GH) (E : Enc α) (k : Nat) (v : Value) (xs : List α) : Prop :=
  ∃ a cap, v = .slice a xs.length cap ∧ (xs.length ≤ maxLen ∧ (a = none → cap = 0) ∧ xs.length ≤ cap) ∧
    ∀ i x, xs[i]? = some x → ∃ p cs, a = some p ∧ cs.length = k ∧ CAt H (p.add (i * k)) cs ∧ E.rel H cs x

theorem RSl.mono {α : Type} {H H' : GH} {E : Enc α} {k : Nat} {v : Value} {xs : List α} (h : RSl H E k v xs) (hi : Inc H H') : RSl H' E k v xs :=
  let ⟨a, cap, h1, h2, h3⟩ := h
  ⟨a, cap, h1, h2, fun i x hx => let ⟨p, cs, g1, g2, g3, g4⟩ := h3 i x hx; ⟨p, cs, g1, g2, g3.mono hi, E.mono hi g4⟩⟩

theorem RSl.nil {α : Type} (H : GH) (E : Enc α) (k : Nat) : RSl H E k (.slice none 0 0) [] := ⟨none, 0, rfl, ⟨Nat.zero_le _, fun _ => rfl, Nat.le_refl _⟩, by simp⟩

/-- a slice value of n elements -/
def Ln (v : Value) (n : Nat) : Prop := ∃ a c, v = .slice a n c
theorem RSl.ln {α : Type} {H : GH} {E : Enc α} {k : Nat} {v : Value} {xs : List α} (h : RSl H E k v xs) : Ln v xs.length :=
  let ⟨a, cap, h1, _⟩ := h
  ⟨a, cap, h1⟩
theorem RSl.le {α : Type} {H : GH} {E : Enc α} {k : Nat} {v : Value} {xs : List α} (h : RSl H E k v xs) : xs.length ≤ maxLen := let ⟨_, _, _, h2, _⟩ := h; h2.1

/-- p is where element i of the slice v lies -/
def PtrOf (k : Nat) (v : Value) (i : Int) (p : Addr) : Prop := ∃ (a : Addr) (len cap : Nat), v = .slice (some a) len cap ∧ 0 ≤ i ∧ i < len ∧ p = a.add (i.toNat * k)

theorem RSl.at {α : Type} {H : GH} {E : Enc α} {k : Nat} {v : Value} {xs : List α} (h : RSl H E k v xs) {i : Int} {x : α} (hx : ix xs i = some x) :
    ∃ p cs, PtrOf k v i p ∧ cs.length = k ∧ CAt H p cs ∧ E.rel H cs x := by
  obtain ⟨a, cap, rfl, _, h3⟩ := h
  obtain ⟨h0, h1, h2⟩ := ix_some hx
  obtain ⟨p, cs, rfl, g2, g3, g4⟩ := h3 _ _ h2
  exact ⟨_, cs, ⟨p, _, _, rfl, h0, h1, rfl⟩, g2, g3, g4⟩

/-! the encodings -/
theorem RSl.one {α : Type} {H : GH} {E : Enc α} {k : Nat} {v : Value} {xs : List α} (h : RSl H E k v xs) : v.oneCell' = true := by
  obtain ⟨a, cap, rfl, _⟩ := h; rfl
theorem RSl.dom {α : Type} {H : GH} {E : Enc α} {k : Nat} {v : Value} {xs : List α} (h : RSl H E k v xs) : ∀ b ∈ bl [v], H b ≠ none := by
  obtain ⟨a, cap, rfl, _, h3⟩ := h
  intro b hb
  obtain ⟨u, hu, hn⟩ := mem_bl hb
  simp only [List.mem_singleton] at hu
  subst hu
  cases a with
  | none => cases hn
  | some a =>
    simp only [neb] at hn
    split at hn
    · cases hn
    · rename_i hne
      cases hn
      cases xs with
      | nil => exact absurd rfl hne
      | cons x xs =>
        obtain ⟨p, cs, hp, _, ⟨arr, e, fr, hb, _⟩, _⟩ := h3 0 x rfl
        cases hp
        rw [Nat.zero_mul, Addr.add_zero'] at hb
        rw [hb]; nofun
def eI : Enc Int := ⟨fun _ cs n => cs = [.int .i64 n], fun _ h => h, by intro H cs x h; subst h; simp [Value.oneCell'], by intro H cs x h; subst h; simp [bl, neb]⟩
def eB : Enc Bool := ⟨fun _ cs b => cs = [.bool b], fun _ h => h, by intro H cs x h; subst h; simp [Value.oneCell'], by intro H cs x h; subst h; simp [bl, neb]⟩
def eS : Enc ByteArray := ⟨fun _ cs s => cs = [.string s], fun _ h => h, by intro H cs x h; subst h; simp [Value.oneCell'], by intro H cs x h; subst h; simp [bl, neb]⟩
def eL {α : Type} (E : Enc α) (k : Nat) : Enc (List α) := ⟨fun H cs xs => ∃ v, cs = [v] ∧ RSl H E k v xs, fun hi ⟨v, h1, h2⟩ => ⟨v, h1, h2.mono hi⟩,
  by rintro H cs x ⟨v, rfl, h⟩; simpa using h.one, by rintro H cs x ⟨v, rfl, h⟩; exact h.dom⟩
theorem Enc.one1 {α : Type} {E : Enc α} {H : GH} {c : Value} {x : α} (h : E.rel H [c] x) : c.oneCell' = true := E.one h c (by simp)

/-- elements in a row of cells -/
inductive Els {α : Type} (H : GH) (E : Enc α) (k : Nat) : List Value → List α → Prop where
  | nil : Els H E k [] []
  | snoc {cells xs c x} : Els H E k cells xs → c.length = k → E.rel H c x → Els H E k (cells ++ c) (xs ++ [x])

theorem Els.mono {α : Type} {H H' : GH} {E : Enc α} {k : Nat} {cells : List Value} {xs : List α} (h : Els H E k cells xs) (hi : Inc H H') : Els H' E k cells xs := by
  induction h with
  | nil => exact .nil
  | snoc _ hc hx ih => exact .snoc ih hc (E.mono hi hx)
theorem Els.length {α : Type} {H : GH} {E : Enc α} {k : Nat} {cells : List Value} {xs : List α} (h : Els H E k cells xs) : cells.length = xs.length * k := by
  induction h with
  | nil => simp
  | snoc _ hc _ ih => simp [ih, hc, Nat.add_mul]
theorem Els.get {α : Type} {H : GH} {E : Enc α} {k : Nat} {cells : List Value} {xs : List α} (h : Els H E k cells xs) :
    ∀ i x, xs[i]? = some x → ∃ c, c.length = k ∧ E.rel H c x ∧ ∀ j u, c[j]? = some u → cells[i * k + j]? = some u := by
  induction h with
  | nil => intro i x hx; simp at hx
  | snoc hs hc hx ih =>
    rename_i cells xs c x0
    intro i x hi
    have hl := hs.length
    rcases Nat.lt_or_ge i xs.length with hlt | hge
    · rw [List.getElem?_append_left hlt] at hi
      obtain ⟨c', h1, h2, h3⟩ := ih i x hi
      refine ⟨c', h1, h2, fun j u hj => ?_⟩
      have := h3 j u hj
      rw [List.getElem?_append_left (List.getElem?_eq_some_iff.1 this).1]
      exact this
    · rw [List.getElem?_append_right hge] at hi
      have h0 : i - xs.length = 0 := by
        rcases Nat.eq_zero_or_pos (i - xs.length) with h | h
        · exact h
        · rw [List.getElem?_eq_none (by simp; omega)] at hi; cases hi
      rw [h0] at hi
      simp at hi
      subst hi
      refine ⟨c, hc, hx, fun j u hj => ?_⟩
      have : i = xs.length := by omega
      subst this
      rw [← hl, List.getElem?_append_right (by omega)]
      simpa using hj
theorem Els.app {α : Type} {H : GH} {E : Enc α} {k : Nat} {c1 c2 : List Value} {x1 x2 : List α} (h1 : Els H E k c1 x1) (h2 : Els H E k c2 x2) : Els H E k (c1 ++ c2) (x1 ++ x2) := by
  induction h2 with
  | nil => simpa using h1
  | snoc _ hc hx ih => rw [← List.append_assoc, ← List.append_assoc]; exact .snoc ih hc hx
theorem Els.one {α : Type} {H : GH} {E : Enc α} {k : Nat} {c : List Value} {x : α} (hc : c.length = k) (hx : E.rel H c x) : Els H E k c [x] := by
  simpa using Els.snoc (.nil : Els H E k [] []) hc hx

/-- a row of one's own that may begin within its block -/
def ownsRowO (w : World) (base : Nat) (e : TypeId) (size : Nat) (v : Value) (n : Nat) (xs : List Value) : Prop :=
  xs.length = n * size ∧
  ((v = .slice Option.none 0 0 ∧ n = 0) ∨
   ∃ g off cap cur, v = .slice (some ⟨g, off, Option.none⟩) n cap ∧ base ≤ g ∧ w.heap[g]? = some (.cells cur e (0, 0)) ∧ n ≤ cap ∧ cap ≤ maxLen ∧ off + cap * size ≤ cur.size ∧ (cur.toList.drop off).take (n * size) = xs)

/-- what the call is still making: a row, behind a slice value; a variable's block -/
inductive MO where
  | rowo (e : TypeId) (k : Nat) (v : Value) (n : Nat) (cells : List Value)
  | row (e : TypeId) (k : Nat) (v : Value) (n : Nat) (cells : List Value)
  | box (b : Nat) (t : TypeId) (cs : List Value)
  | raw (b : Nat) (o : Obj)
  | lb (n : Nat)

def MO.blk : MO → Option Nat
  | .rowo _ _ v _ _ => v.ownBlock
  | .row _ _ v _ _ => v.ownBlock
  | .box b _ _ => some b
  | .raw b _ => some b
  | .lb _ => none

def MO.ok (B : Nat) (w : World) : MO → Prop
  | .rowo e k v n cells => ownsRowO w B e k v n cells ∧ ∀ u ∈ cells, u.oneCell' = true
  | .row e k v n cells => w.ownsRow B e k v n cells ∧ ∀ u ∈ cells, u.oneCell' = true
  | .box b t cs => w.heap[b]? = some (.cells cs.toArray t (0, 0)) ∧ B ≤ b ∧ ∀ u ∈ cs, u.oneCell' = true
  | .raw b o => w.heap[b]? = some o ∧ B ≤ b
  | .lb n => n ≤ w.heap.size

/-- what may be sealed -/
def MO.isRaw : MO → Bool
  | .raw _ _ => true
  | _ => false

theorem MO.ok.lt {B : Nat} {w : World} {o : MO} (h : o.ok B w) : ∀ b, o.blk = some b → B ≤ b ∧ b < w.heap.size := by
  intro b hb
  cases o with
  | rowo e k v n cells =>
    rcases h.1.2 with ⟨rfl, _⟩ | ⟨g, off, cap, cur, rfl, hg, hh, r⟩
    · cases hb
    · cases hb; exact ⟨hg, (Array.getElem?_eq_some_iff.1 hh).1⟩
  | row e k v n cells => exact h.1.lt b hb
  | box b' t cs =>
    simp only [MO.blk, Option.some.injEq] at hb
    subst hb
    exact ⟨h.2.1, (Array.getElem?_eq_some_iff.1 h.1).1⟩
  | raw b' o' =>
    simp only [MO.blk, Option.some.injEq] at hb
    subst hb
    exact ⟨h.2, (Array.getElem?_eq_some_iff.1 h.1).1⟩
  | lb n => cases hb
theorem MO.ok.kept {B : Nat} {w w' : World} {o : MO} (h : o.ok B w) (hs : w.heap.size ≤ w'.heap.size) (hb : ∀ b, o.blk = some b → w'.heap[b]? = w.heap[b]?) : o.ok B w' := by
  cases o with
  | rowo e k v n cells =>
    refine ⟨⟨h.1.1, ?_⟩, h.2⟩
    rcases h.1.2 with hn | ⟨g, off, cap, cur, rfl, hg, hh, r⟩
    · exact .inl hn
    · exact .inr ⟨g, off, cap, cur, rfl, hg, by rw [hb g rfl]; exact hh, r⟩
  | row e k v n cells =>
    refine ⟨⟨h.1.1, ?_⟩, h.2⟩
    rcases h.1.2 with hn | ⟨g, cap, cur, rfl, hg, hh, r⟩
    · exact .inl hn
    · exact .inr ⟨g, cap, cur, rfl, hg, by rw [hb g rfl]; exact hh, r⟩
  | box b' t cs => exact ⟨by rw [hb b' rfl]; exact h.1, h.2⟩
  | raw b' o' => exact ⟨by rw [hb b' rfl]; exact h.1, h.2⟩
  | lb n => exact Nat.le_trans h hs

theorem MO.ok.cells {B : Nat} {w : World} {o : MO} (h : o.ok B w) (hr : o.isRaw = false) {b : Nat} {ob : Obj} (hb : o.blk = some b) (hw : w.heap[b]? = some ob) : ob.isCells = true := by
  cases o with
  | rowo e k v n cells =>
    rcases h.1.2 with ⟨rfl, _⟩ | ⟨g, off, cap, cur, rfl, hg, hh, _⟩
    · cases hb
    · cases hb; rw [hh] at hw; cases hw; rfl
  | row e k v n cells =>
    rcases h.1.2 with ⟨rfl, _⟩ | ⟨g, cap, cur, rfl, hg, hh, _⟩
    · cases hb
    · cases hb; rw [hh] at hw; cases hw; rfl
  | box b' t cs => cases hb; rw [h.1] at hw; cases hw; rfl
  | raw b' o' => cases hr
  | lb n => cases hb

/-- the state of a call: begun at (H0, w0); now (H, w); 'l' is what it is making -/
structure St (H0 : GH) (w0 : World) (H : GH) (w : World) (l : List MO) : Prop where
  run : Run w0.heap.size H0 w0 H w
  ok : ∀ (i : Nat) (o : MO), l[i]? = some o → o.ok w0.heap.size w
  out : ∀ (i : Nat) (o : MO) (b : Nat), l[i]? = some o → o.blk = some b → H b = none
  dis : ∀ (i j : Nat) (oi oj : MO) (b : Nat), l[i]? = some oi → l[j]? = some oj → oi.blk = some b → oj.blk = some b → i = j

section
variable {H0 H H' : GH} {w0 w w' : World} {l : List MO}

theorem St.init (h : Sl H w) : St H w H w [] := ⟨Run.refl _ h, by simp, by simp, by simp⟩
theorem St.sl (h : St H0 w0 H w l) : Sl H w := h.run.sl
theorem St.size (h : St H0 w0 H w l) : w0.heap.size ≤ w.heap.size := h.run.bel.size
theorem St.inc (h : St H0 w0 H w l) : Inc H0 H := h.run.inc

/-- what leaves all blocks there are alone -/
theorem St.call (h : St H0 w0 H w l) (k : Run w.heap.size H w H' w') : St H0 w0 H' w' l := by
  refine ⟨h.run.tr k h.size, fun i o ho => (h.ok i o ho).kept k.bel.size fun b hb => k.bel.block b ((h.ok i o ho).lt b hb).2, fun i o b ho hb => ?_, h.dis⟩
  rw [k.agr b ((h.ok i o ho).lt b hb).2]
  exact h.out i o b ho hb

theorem run_drew (hs : Sl H w) : Run w.heap.size H w H { w with drawn := w.drawn + 1 } := ⟨(Below.refl _ w).drew, fun _ _ => rfl, hs, Inc.rfl H, Nat.le_succ _, fun _ _ h => .inl h⟩

/-- one object is dropped -/
theorem St.drop (h : St H0 w0 H w l) (i : Nat) : St H0 w0 H w (l.eraseIdx i) := by
  have key : ∀ (j : Nat) (o : MO), (l.eraseIdx i)[j]? = some o → l[if j < i then j else j + 1]? = some o := by
    intro j o hj
    rw [List.getElem?_eraseIdx] at hj
    split at hj
    · rename_i hlt; rw [if_pos hlt]; exact hj
    · rename_i hlt; rw [if_neg hlt]; exact hj
  refine ⟨h.run, fun j o hj => h.ok _ o (key j o hj), fun j o b hj => h.out _ o b (key j o hj), fun j j' oj oj' b hj hj' h1 h2 => ?_⟩
  have := h.dis _ _ oj oj' b (key j oj hj) (key j' oj' hj') h1 h2
  split at this <;> split at this <;> omega

/-- a new block, an object of its own -/
theorem St.push (h : St H0 w0 H w l) (o : MO) (obj : Obj) (hok : o.ok w0.heap.size (w.alloc obj)) (hb : ∀ b, o.blk = some b → b = w.heap.size) :
    St H0 w0 H (w.alloc obj) (o :: l) := by
  have hr : Run w.heap.size H w H (w.alloc obj) := ⟨(Below.refl _ w).alloc (Nat.le_refl _) _, fun _ _ => rfl,
    fun b ob hb => by
      have := h.sl b ob hb
      rw [heap_alloc_old w obj (Array.getElem?_eq_some_iff.1 this).1]; exact this, Inc.rfl H, Nat.le_refl _, fun _ _ h => .inl h⟩
  have h' := h.call hr
  refine ⟨h'.run, fun i oi hi => ?_, fun i oi b hi hbi => ?_, fun i j oi oj b hi hj hbi hbj => ?_⟩
  · cases i with
    | zero => simp at hi; subst hi; exact hok
    | succ i => exact h'.ok i oi (by simpa using hi)
  · cases i with
    | zero =>
      simp at hi; subst hi
      have := hb b hbi
      subst this
      cases hh : H w.heap.size with
      | none => rfl
      | some ob => have := h.sl _ _ hh; simp at this
    | succ i => exact h'.out i oi b (by simpa using hi) hbi
  · have old : ∀ (i : Nat) oi, (o :: l)[i + 1]? = some oi → oi.blk = some b → b < w.heap.size := fun i oi hi hbi => ((h.ok i oi (by simpa using hi)).lt b hbi).2
    cases i with
    | zero => cases j with
      | zero => rfl
      | succ j =>
        simp at hi; subst hi
        have := hb b hbi; have := old j oj hj hbj; omega
    | succ i => cases j with
      | zero =>
        simp at hj; subst hj
        have := hb b hbj; have := old i oi hi hbi; omega
      | succ j => have := h.dis i j oi oj b (by simpa using hi) (by simpa using hj) hbi hbj; omega

/-- the object number i is written, or moved -/
theorem St.upd (h : St H0 w0 H w l) {i : Nat} {o o' : MO} (hi : l[i]? = some o) (hg : w.grownBy w' o.blk) (hdr : w.drawn ≤ w'.drawn) (hok : o'.ok w0.heap.size w') (hb : ∀ b, o'.blk = some b → o.blk = some b ∨ w.heap.size ≤ b) :
    St H0 w0 H w' (l.set i o') := by
  have hlo : ∀ b, o.blk = some b → w0.heap.size ≤ b := fun b hb => ((h.ok i o hi).lt b hb).1
  have hnone : ∀ b ob, H b = some ob → some b ≠ o.blk := fun b ob hh e => by rw [h.out i o b hi e.symm] at hh; cases hh
  have hsl : Sl H w' := fun b ob hh => by
    have := h.sl b ob hh
    rw [hg.block b (Array.getElem?_eq_some_iff.1 this).1 (hnone b ob hh)]; exact this
  refine ⟨⟨h.run.bel.grown hg h.size (fun b hb => hlo b hb), h.run.agr, hsl, h.run.inc, Nat.le_trans h.run.drw hdr, h.run.cel⟩, fun j oj hj => ?_, fun j oj b hj hbj => ?_, fun j j' oj oj' b hj hj' h1 h2 => ?_⟩
  · rw [List.getElem?_set] at hj
    split at hj
    · split at hj
      · cases hj; exact hok
      · cases hj
    · rename_i hne
      refine (h.ok j oj hj).kept hg.size fun b hb => ?_
      refine hg.block b ((h.ok j oj hj).lt b hb).2 fun e => ?_
      exact hne (h.dis i j o oj b hi hj e.symm hb)
  · rw [List.getElem?_set] at hj
    split at hj
    · split at hj
      · cases hj
        rcases hb b hbj with h1 | h1
        · exact h.out i o b hi h1
        · cases hh : H b with
          | none => rfl
          | some ob => have := h.sl _ _ hh; have := (Array.getElem?_eq_some_iff.1 this).1; omega
      · cases hj
    · exact h.out j oj b hj hbj
  · rw [List.getElem?_set] at hj hj'
    split at hj
    · split at hj
      · cases hj
        split at hj'
        · rename_i e _ e'; omega
        · rename_i e _ e'
          subst e
          rcases hb b h1 with h3 | h3
          · exact absurd (h.dis i j' o oj' b hi hj' h3 h2) e'
          · have := ((h.ok j' oj' hj').lt b h2).2; omega
      · cases hj
    · rename_i e
      split at hj'
      · split at hj'
        · cases hj'
          rename_i e' _
          subst e'
          rcases hb b h2 with h3 | h3
          · exact absurd (h.dis i j o oj b hi hj h3 h1) e
          · have := ((h.ok j oj hj).lt b h1).2; omega
        · cases hj'
      · exact h.dis j j' oj oj' b hj hj' h1 h2

/-- the object number i is written no more -/
theorem St.sealedS (h : St H0 w0 H w l) {i : Nat} {o : MO} (hi : l[i]? = some o) (hr : ∀ b ob, o.blk = some b → w.heap[b]? = some ob → still ob = true) :
    ∃ H', St H0 w0 H' w (l.eraseIdx i) ∧ Inc H H' ∧ ∀ b ob, o.blk = some b → w.heap[b]? = some ob → H' b = some ob := by
  classical
  let H' : GH := fun b => if o.blk = some b then w.heap[b]? else H b
  have hinc : Inc H H' := fun b ob hh => by
    show (if o.blk = some b then w.heap[b]? else H b) = some ob
    split
    · exact h.sl b ob hh
    · exact hh
  refine ⟨H', ?_, hinc, fun b ob hb hw => by show (if o.blk = some b then w.heap[b]? else H b) = some ob; rw [if_pos hb]; exact hw⟩
  have h' := h.drop i
  refine ⟨⟨h.run.bel, fun b hb => ?_, fun b ob hh => ?_, h.run.inc.tr hinc, h.run.drw, fun b ob hh => ?_⟩, h'.ok, fun j oj b hj hbj => ?_, h'.dis⟩
  · show (if o.blk = some b then w.heap[b]? else H b) = H0 b
    rw [if_neg]
    · exact h.run.agr b hb
    · intro e; have := ((h.ok i o hi).lt b e).1; omega
  · have hh' : (if o.blk = some b then w.heap[b]? else H b) = some ob := hh
    split at hh'
    · exact hh'
    · exact h.sl b ob hh'
  · have hh' : (if o.blk = some b then w.heap[b]? else H b) = some ob := hh
    split at hh'
    · rename_i e; exact .inr (hr _ _ e hh')
    · exact h.run.cel b ob hh'
  · show (if o.blk = some b then w.heap[b]? else H b) = none
    rw [if_neg]
    · exact h'.out j oj b hj hbj
    · intro e
      rw [List.getElem?_eraseIdx] at hj
      split at hj
      · have := h.dis i j o oj b hi hj e hbj; omega
      · have := h.dis i (j + 1) o oj b hi hj e hbj; omega
theorem St.sealed (h : St H0 w0 H w l) {i : Nat} {o : MO} (hi : l[i]? = some o) (hr : o.isRaw = false := by rfl) :
    ∃ H', St H0 w0 H' w (l.eraseIdx i) ∧ Inc H H' ∧ ∀ b ob, o.blk = some b → w.heap[b]? = some ob → H' b = some ob :=
  h.sealedS hi fun _ _ hb hw => still_cells ((h.ok i o hi).cells hr hb hw)
end
end Go.Mr
