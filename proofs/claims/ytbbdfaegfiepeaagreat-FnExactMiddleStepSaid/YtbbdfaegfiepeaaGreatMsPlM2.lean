/- MiddleStep: the tables, computed. -/
import Derived.Test.YtbbdfaegfiepeaaGreatMsPlM1
set_option linter.unusedVariables false
namespace Go.PF
open Go.Pu
def cnfT (n : Int) : Bool := match c_spec_l17Cnf n, c_impl_Pigeonhole (wr (n + 1)) n with
  | some p, some (q, b) => b && (p.vars == q.vars && (p.clauses == q.clauses && cnfB p))
  | _, _ => false
theorem cnfT1 : cnfT 1 = true := by decide +kernel
theorem cnfT2 : cnfT 2 = true := by decide +kernel
theorem cnfT3 : cnfT 3 = true := by decide +kernel
def leftT (U : List Int) (n : Int) (a : Nat) : Bool := match c_spec_l28Critical n a, c_impl_leftOf U n a with
  | some x, some y => x == y && decide (0 ≤ x)
  | _, _ => false
theorem leftT1 : (List.range 4).all (leftT [1] 1) = true := by decide +kernel
theorem leftT2 : (List.range 64).all (leftT [1, 2] 2) = true := by decide +kernel
theorem leftT3a : (List.range' 0 1024).all (leftT [1, 2, 3] 3) = true := by decide +kernel
theorem leftT3b : (List.range' 1024 1024).all (leftT [1, 2, 3] 3) = true := by decide +kernel
theorem leftT3c : (List.range' 2048 1024).all (leftT [1, 2, 3] 3) = true := by decide +kernel
theorem leftT3d : (List.range' 3072 1024).all (leftT [1, 2, 3] 3) = true := by decide +kernel
end Go.PF
