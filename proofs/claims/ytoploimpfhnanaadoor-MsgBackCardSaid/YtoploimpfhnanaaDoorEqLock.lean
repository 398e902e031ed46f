/- Two locks alike are equal. -/
import Derived.Test.YtoploimpfhnanaaDoorMsgC
import Derived.Laws.StructEq
import Derived.Outline
namespace Go.Proofs.YtoploimpfhnanaaDoor
open Go.RowKit

theorem eql_span (a b : Int) (w : World) : (Op.equalIn 9999 76 (.agg #[.int .i64 a, .int .i64 b]) (.agg #[.int .i64 a, .int .i64 b])).run Tryd.prog w = .ok true w := by
  have u3 := Tryd.underlying3
  have hS : Tryd.prog.underlying 76 = some (.struct (Tryd.prog.fieldsOf 76)) := by kernel_rfl
  have hp : Tryd.prog.stoodInHeld 76 = false := by kernel_rfl
  rw [show (9999 : Nat) = 9998 + 1 from rfl, run_equalIn_agg w 9998 76 _ _ hS hp]
  simp only [Program.fieldsOf, Tryd.underlying76]
  go_simp
theorem eql_lock (a b m : Int) (w : World) : (binOp .eql 78 (.agg #[.int .i64 a, .int .i64 b, .int .i64 m]) (.agg #[.int .i64 a, .int .i64 b, .int .i64 m])).run Tryd.prog w = .ok (.bool true) w := by
  have u3 := Tryd.underlying3
  have hS : Tryd.prog.underlying 78 = some (.struct (Tryd.prog.fieldsOf 78)) := by kernel_rfl
  have hp : Tryd.prog.stoodInHeld 78 = false := by kernel_rfl
  have hs := eql_span a b
  rw [run_eql_struct, show (10000 : Nat) = 9999 + 1 from rfl, run_equalIn_agg w 9999 78 _ _ hS hp]
  simp only [Program.fieldsOf, Tryd.underlying78]
  go_simp
end Go.Proofs.YtoploimpfhnanaaDoor
