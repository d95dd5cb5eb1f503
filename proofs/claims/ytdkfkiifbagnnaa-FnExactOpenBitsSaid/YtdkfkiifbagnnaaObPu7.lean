/- Formulas as trees. -/
import Derived.Test.YtdkfkiifbagnnaaObPu6
namespace Go.Pu
/-- a formula: no node, or a node with its sign, its parts and its text -/
inductive Fo where
  | nil : Fo
  | node (op : Int) (a b : Fo) (text : ByteArray) : Fo
/-- what lies in a node -/
@[ext] structure FoN where
  op : Int
  a : Fo
  b : Fo
  text : ByteArray
def Fo.get : Fo → Option FoN
  | .nil => none
  | .node op a b tx => some ⟨op, a, b, tx⟩
def Fo.isNil : Fo → Bool
  | .nil => true
  | .node .. => false
def FoN.fo (n : FoN) : Fo := .node n.op n.a n.b n.text
theorem Fo.get_some {t : Fo} {n : FoN} (h : t.get = some n) : t = n.fo := by
  cases t with
  | nil => cases h
  | node op a b tx => cases h; rfl
theorem FoN.get_fo (n : FoN) : n.fo.get = some n := rfl
end Go.Pu
