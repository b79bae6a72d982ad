/- Structs are compared, field by field. Printed by a program of ours. -/
import Derived.Test.YtmdjnohdkhepjaaDoorPT
import Derived.Test.YtmdjnohdkhepjaaDoorEq
namespace Go.Proofs.YtmdjnohdkhepjaaDoor
set_option linter.unusedSimpArgs false
set_option linter.unusedVariables false
open Go.RowKit
set_option maxRecDepth 100000
theorem eqIn_Val {d : Nat} {a0 b0 : Int} {a1 b1 : Int} : sflat Tryd.prog (Op.equalIn (d + 2) 42 (.agg #[.int .i64 a0, .int .i64 a1]) (.agg #[.int .i64 b0, .int .i64 b1])) = some ((decide (a0 = b0) && decide (a1 = b1))) := by
  rw [eqIn_struct Tryd.underlying42 (by kernel_rfl)]
  simp only [sfields, if_und, sf_part Tryd.underlying3 rfl, eqIn_int Tryd.underlying3, List.getElem?_toArray, List.getElem?_cons_zero, List.getElem?_cons_succ, Option.bind_some, ite_sm, Bool.and_true, String.reduceBEq, ne_eq, String.reduceEq, not_false_eq_true, if_true]
theorem sf_eqVal {x y : Operand} {a0 b0 : Int} {a1 b1 : Int} : sflat Tryd.prog (do eqGuard .eql 42 x y (.agg #[.int .i64 a0, .int .i64 a1]) (.agg #[.int .i64 b0, .int .i64 b1]); binOp .eql 42 (.agg #[.int .i64 a0, .int .i64 a1]) (.agg #[.int .i64 b0, .int .i64 b1])) = some (.bool ((decide (a0 = b0) && decide (a1 = b1)))) := (sf_eqAgg (by kernel_rfl) eqIn_Val).1
theorem sf_neVal {x y : Operand} {a0 b0 : Int} {a1 b1 : Int} : sflat Tryd.prog (do eqGuard .neq 42 x y (.agg #[.int .i64 a0, .int .i64 a1]) (.agg #[.int .i64 b0, .int .i64 b1]); binOp .neq 42 (.agg #[.int .i64 a0, .int .i64 a1]) (.agg #[.int .i64 b0, .int .i64 b1])) = some (.bool (!(decide (a0 = b0) && decide (a1 = b1)))) := (sf_eqAgg (by kernel_rfl) eqIn_Val).2
attribute [push_cast] sf_eqVal sf_neVal
end Go.Proofs.YtmdjnohdkhepjaaDoor
