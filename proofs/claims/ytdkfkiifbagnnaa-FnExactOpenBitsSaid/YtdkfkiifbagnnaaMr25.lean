/- Maps of one's own, whose keys are compared at once. -/
import Derived.Test.YtdkfkiifbagnnaaMr24
namespace Go.Mr
open Go.RowKit Go.Pu
/-- a map's object, and what it holds -/
def MapOf {K V : Type} (ek : K → Value) (en : V → Value) (o : Obj) (m : List (K × V)) : Prop :=
  ∃ es clock, o = .map es clock ∧ es.toList.map (fun e => (e.key, e.val)) = m.map fun p => (ek p.1, en p.2)
/-- keys that are compared at once -/
structure KeyNow (P : Program) (kt : TypeId) {K : Type} [BEq K] (ek : K → Value) : Prop where
  kd : ∃ kd, (∀ w, (underlying kt).run P w = .ok kd w) ∧ ∀ a b, Instr.sameNow kd (ek a) (ek b) = some (a == b)
  eq : ∀ a b : K, (a == b) = true → a = b
  bits : ∀ a, Instr.sameBits 10000 (ek a) (ek a) = true
  chk : ∀ e a w, (Instr.checkKey e 10000 kt (ek a)).run P w = .ok () w
section
variable {H0 H : GH} {w0 w : World} {l : List MO} {P : Program} {K V : Type} {ek : K → Value} {en : V → Value} {kt et t : TypeId} {o : Obj} {m : List (K × V)} {i b : Nat}
theorem chk_int (h : ∀ w, (underlying kt).run P w = .ok (.int .i64) w) (n : Nat) (e : Bool) (a : Int) (w : World) : (Instr.checkKey e (n + 1) kt (.int .i64 a)).run P w = .ok () w := by
  simp [Instr.checkKey, h]
theorem KeyNow.int (h : ∀ w, (underlying kt).run P w = .ok (.int .i64) w) : KeyNow P kt (Value.int .i64) := by
  refine ⟨⟨_, h, fun a b => ?_⟩, fun a b h => by simpa using h, fun a => ?_, fun e a w => chk_int h 9999 e a w⟩
  · simp [Instr.sameNow]
  · simp [Instr.sameBits]
def mfind [BEq K] : List (K × V) → K → Option (Nat × V)
  | [], _ => none
  | p :: m, k => bif k == p.1 then some (0, p.2) else (mfind m k).map fun z => (z.1 + 1, z.2)
theorem mget_find [BEq K] : ∀ (m : List (K × V)) (k : K), mget m k = (mfind m k).map (·.2)
  | [], _ => rfl
  | p :: m, k => by
    simp only [mget, mfind]
    cases k == p.1 with
    | true => rfl
    | false => simp only [cond_false]; rw [mget_find m k]; cases mfind m k <;> rfl
theorem mput_none [BEq K] : ∀ {m : List (K × V)} {k : K} (v : V), mfind m k = none → mput m k v = m ++ [(k, v)]
  | [], _, _, _ => rfl
  | p :: m, k, v, h => by
    simp only [mfind, mput] at h ⊢
    cases hk : k == p.1 with
    | true => rw [hk] at h; cases h
    | false =>
      rw [hk] at h
      simp only [cond_false, List.cons_append] at h ⊢
      rw [mput_none v (by cases hf : mfind m k with
        | none => rfl
        | some z => rw [hf] at h; cases h)]
theorem mput_some [BEq K] : ∀ {m : List (K × V)} {k : K} {j : Nat} {u : V} (v : V), mfind m k = some (j, u) → mput m k v = m.set j (k, v) ∧ j < m.length ∧ ∃ p, m[j]? = some p ∧ (k == p.1) = true
  | [], _, _, _, _, h => by cases h
  | p :: m, k, j, u, v, h => by
    simp only [mfind, mput] at h ⊢
    cases hk : k == p.1 with
    | true => rw [hk] at h; cases h; exact ⟨rfl, Nat.zero_lt_succ _, p, rfl, hk⟩
    | false =>
      rw [hk] at h
      simp only [cond_false] at h ⊢
      cases hf : mfind m k with
      | none => rw [hf] at h; cases h
      | some z =>
        rw [hf] at h; cases h
        obtain ⟨h1, h2, q, h3, h4⟩ := mput_some v (m := m) (k := k) (j := z.1) (u := z.2) hf
        exact ⟨by rw [h1]; rfl, by simpa using h2, q, by simpa using h3, h4⟩
theorem findNow_eq [BEq K] {kd : TypeDesc} (hk : ∀ a b, Instr.sameNow kd (ek a) (ek b) = some (a == b)) (k : K) : ∀ (es : List MapEntry) (m : List (K × V)) (i : Nat), es.map (fun e => (e.key, e.val)) = m.map (fun p => (ek p.1, en p.2)) →
    Instr.findNow kd (ek k) es i = some ((mfind m k).map fun z => (i + z.1, en z.2))
  | [], [], _, _ => rfl
  | [], _ :: _, _, h => by cases h
  | _ :: _, [], _, h => by cases h
  | e :: es, p :: m, i, h => by
    simp only [List.map_cons, List.cons.injEq, Prod.mk.injEq] at h
    obtain ⟨⟨h1, h2⟩, h3⟩ := h
    have := findNow_eq hk k es m (i + 1) h3
    simp only [Instr.findNow, h1, hk, mfind]
    cases k == p.1 with
    | true => simp [h2]
    | false =>
      simp only [this, cond_false]
      cases mfind m k with
      | none => rfl
      | some z => simp; omega
theorem St.makeMap (S : St H0 w0 H w l) (t : TypeId) (ek : K → Value) (en : V → Value) :
    ∃ b o w1, (Instr.makeMap t Option.none).run P w = .ok (.map (some b)) w1 ∧ St H0 w0 H w1 (.raw b o :: l) ∧ MapOf ek en o [] :=
  ⟨w.heap.size, .map #[] 0, w.alloc (.map #[] 0), rfl, S.push (.raw w.heap.size (.map #[] 0)) _ ⟨heap_alloc_new w _, S.size⟩ (fun b hb => by simpa [MO.blk] using hb.symm), _, _, rfl, rfl⟩
theorem St.mapGet [BEq K] (S : St H0 w0 H w l) (hi : l[i]? = some (.raw b o)) (hm : MapOf ek en o m) (ht : ∀ w, (underlying t).run P w = .ok (.map kt et) w) (kn : KeyNow P kt ek) {z : V} (hz : ∀ w, (zeroValue et).run P w = .ok (en z) w) (k : K) :
    (Instr.lookup t (.map (some b)) (ek k) false).run P w = .ok (en ((mget m k).getD z)) w := by
  obtain ⟨es, c, rfl, he⟩ := hm
  have hb := S.rawAt hi
  obtain ⟨kd, h1, h2⟩ := kn.kd
  have hf := findNow_eq h2 k es.toList m 0 he
  rw [mget_find]
  cases hq : mfind m k with
  | none => rw [hq] at hf; simp [Instr.lookup, ht, getObj, Sem.run, hb, kn.chk, Instr.findKey, h1, hf, hz]
  | some z => rw [hq] at hf; simp [Instr.lookup, ht, getObj, Sem.run, hb, kn.chk, Instr.findKey, h1, hf]
theorem St.mapGetOk [BEq K] (S : St H0 w0 H w l) (hi : l[i]? = some (.raw b o)) (hm : MapOf ek en o m) (ht : ∀ w, (underlying t).run P w = .ok (.map kt et) w) (kn : KeyNow P kt ek) {z : V} (hz : ∀ w, (zeroValue et).run P w = .ok (en z) w) (k : K) :
    (Instr.lookup t (.map (some b)) (ek k) true).run P w = .ok (.tuple #[en ((mget m k).getD z), .bool (mget m k).isSome]) w := by
  obtain ⟨es, c, rfl, he⟩ := hm
  have hb := S.rawAt hi
  obtain ⟨kd, h1, h2⟩ := kn.kd
  have hf := findNow_eq h2 k es.toList m 0 he
  rw [mget_find]
  cases hq : mfind m k with
  | none => rw [hq] at hf; simp [Instr.lookup, ht, getObj, Sem.run, hb, kn.chk, Instr.findKey, h1, hf, hz]
  | some z => rw [hq] at hf; simp [Instr.lookup, ht, getObj, Sem.run, hb, kn.chk, Instr.findKey, h1, hf]
theorem St.mapPut [BEq K] (S : St H0 w0 H w l) (hi : l[i]? = some (.raw b o)) (hm : MapOf ek en o m) (ht : ∀ w, (underlying t).run P w = .ok (.map kt et) w) (kn : KeyNow P kt ek) (k : K) (v : V) :
    ∃ o1 w1, (Instr.mapUpdate t (.map (some b)) (ek k) (en v)).run P w = .ok () w1 ∧ St H0 w0 H w1 (l.set i (.raw b o1)) ∧ MapOf ek en o1 (mput m k v) := by
  obtain ⟨es, c, rfl, he⟩ := hm
  have hb := S.rawAt hi
  obtain ⟨kd, h1, h2⟩ := kn.kd
  have hf := findNow_eq h2 k es.toList m 0 he
  cases hq : mfind m k with
  | none =>
    rw [hq] at hf
    refine ⟨.map (es.push { key := ek k, val := en v, born := c }) (c + 1), _, ?_, S.rawPut _ hi, _, _, rfl, ?_⟩
    · simp [Instr.mapUpdate, ht, getObj, setObj, Sem.run, hb, kn.chk, Instr.findKey, h1, hf, World.putObj]
    · rw [mput_none v hq]; simp [he]
  | some z =>
    obtain ⟨j, u⟩ := z
    rw [hq] at hf
    obtain ⟨p1, p2, p, p3, p4⟩ := mput_some v hq
    have hlen : es.toList.length = m.length := by have := congrArg List.length he; simpa using this
    have hj : j < es.size := by simp at hlen; omega
    have hkey : es[j].key = ek k := by
      have := congrArg (fun l => l[j]?) he
      simp only [List.getElem?_map, p3, Option.map_some, Array.getElem?_toList, Array.getElem?_eq_getElem hj, Option.some.injEq, Prod.mk.injEq] at this
      rw [this.1, kn.eq _ _ p4]
    refine ⟨.map (es.modify j fun e => { e with key := ek k, val := en v }) c, _, ?_, S.rawPut _ hi, _, _, rfl, ?_⟩
    · simp [Instr.mapUpdate, ht, getObj, setObj, Sem.run, hb, kn.chk, Instr.findKey, h1, hf, Instr.keyThatStays, hkey, kn.bits, World.putObj, hj]
    · rw [p1]
      apply List.ext_getElem?
      intro n
      have hn := congrArg (fun l => l[n]?) he
      simp only [List.getElem?_map, Array.getElem?_toList] at hn
      simp only [List.getElem?_map, Array.getElem?_toList, Array.getElem?_modify, List.getElem?_set]
      by_cases hjn : j = n
      · subst hjn
        rw [if_pos rfl, if_pos rfl, if_pos p2, Array.getElem?_eq_getElem hj]; rfl
      · rw [if_neg hjn, if_neg hjn]; exact hn
theorem E.makeMap {f : Fm} {d : Option Tmp} {ty : TypeId} {pos : String} {aft : Array Edge} {gd : Option (Nat × Bool)} {v : Value} {w' : World} (h : (Instr.makeMap t Option.none).run P w = .ok v w') :
    (execOp (ev f) ⟨d, .makeMap t Option.none, ty, pos, aft, gd⟩).run P w = .ok (.value v) w' := by
  simp [execOp, h]
theorem E.lookup {f : Fm} {d : Option Tmp} {ty : TypeId} {pos : String} {aft : Array Edge} {gd : Option (Nat × Bool)} {x y : Operand} {u z v : Value} {ok : Bool} (hx : ev f x = u) (hy : ev f y = z) (h : (Instr.lookup t u z ok).run P w = .ok v w) :
    (execOp (ev f) ⟨d, .lookup t x y ok, ty, pos, aft, gd⟩).run P w = .ok (.value v) w := by
  subst hx hy; simp [execOp, h]
theorem E.mapUpdate {f : Fm} {ty : TypeId} {pos : String} {aft : Array Edge} {gd : Option (Nat × Bool)} {x y q : Operand} {u z v : Value} {w' : World} (hx : ev f x = u) (hy : ev f y = z) (hq : ev f q = v) (h : (Instr.mapUpdate t u z v).run P w = .ok () w') :
    (execOp (ev f) ⟨none, .mapUpdate t x y q, ty, pos, aft, gd⟩).run P w = .ok .skip w' := by
  subst hx hy hq; simp [execOp, h]
theorem E.lenM {f : Fm} {d : Option Tmp} {ty : TypeId} {pos : String} {aft : Array Edge} {gd : Option (Nat × Bool)} {x : Operand} (ht : ∀ w, (underlying t).run P w = .ok (.map kt et) w) (S : St H0 w0 H w l) (hi : l[i]? = some (.raw b o)) (hm : MapOf ek en o m) (hx : ev f x = .map (some b)) :
    (execOp (ev f) ⟨d, .call ⟨.builtin .len, #[x], #[t]⟩, ty, pos, aft, gd⟩).run P w = .ok (.value (.int .i64 (Pu.len m))) w := by
  obtain ⟨es, c, rfl, he⟩ := hm
  have hb := S.rawAt hi
  have hlen : es.size = m.length := by have := congrArg List.length he; simpa using this
  simp [execOp, resolve, invoke, builtin, Builtin.len_, hx, ht, getObj, Sem.run, hb, goInt, Pu.len, hlen]
theorem E.indexArr {f : Fm} {d : Option Tmp} {ty : TypeId} {pos : String} {aft : Array Edge} {gd : Option (Nat × Bool)} {x y : Operand} {n e k j off : Nat} {p : Addr} {kk : IntKind} (ht : ∀ w, (underlying t).run P w = .ok (.array n e) w) (hs : ∀ w, (sizeOf e).run P w = .ok k w)
    (hx : ev f x = .pointer (some p)) (hy : ev f y = .int kk ((j : Nat) : Int)) (h1 : j < n) (ho : j * k = off) : (execOp (ev f) ⟨d, .indexAddr t x y, ty, pos, aft, gd⟩).run P w = .ok (.value (.pointer (some (p.add off)))) w := by
  subst ho
  simp [execOp, hx, hy, Instr.indexAt, asIntOf, ht, hs, Instr.sureAddr, h1]
theorem E.indexArrN {f : Fm} {d : Option Tmp} {ty : TypeId} {pos : String} {aft : Array Edge} {gd : Option (Nat × Bool)} {x y : Operand} {n e k j off a c : Nat} {p : Addr} {kk : IntKind} (ht : ∀ w, (underlying t).run P w = .ok (.array n e) w) (hs : ∀ w, (sizeOf e).run P w = .ok k w)
    (hx : ev f x = .pointer (some (p.add a))) (hy : ev f y = .int kk ((j : Nat) : Int)) (h1 : j < n) (ho : j * k = off) (h : a + off = c) : (execOp (ev f) ⟨d, .indexAddr t x y, ty, pos, aft, gd⟩).run P w = .ok (.value (.pointer (some (p.add c)))) w := by
  subst h; rw [← addr_add_add]; exact E.indexArr ht hs hx hy h1 ho
end
end Go.Mr
