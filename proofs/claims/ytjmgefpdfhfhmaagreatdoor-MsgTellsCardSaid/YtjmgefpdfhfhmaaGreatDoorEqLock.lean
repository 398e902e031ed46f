/- Two locks alike are equal. -/
import Derived.Test.YtjmgefpdfhfhmaaGreatDoorMsgC
import Derived.Laws.StructEq
import Derived.Outline
namespace Go.Proofs.YtjmgefpdfhfhmaaGreatDoor
open Go.RowKit

theorem eql_span (a b : Int) (w : World) : (Op.equalIn 9999 66 (.agg #[.int .i64 a, .int .i64 b]) (.agg #[.int .i64 a, .int .i64 b])).run Tryz.prog w = .ok true w := by
  have u3 := Tryz.underlying3
  have hS : Tryz.prog.underlying 66 = some (.struct (Tryz.prog.fieldsOf 66)) := by kernel_rfl
  have hp : Tryz.prog.stoodInHeld 66 = false := by kernel_rfl
  rw [show (9999 : Nat) = 9998 + 1 from rfl, run_equalIn_agg w 9998 66 _ _ hS hp]
  simp only [Program.fieldsOf, Tryz.underlying66]
  go_simp
theorem eql_lock (a b m : Int) (w : World) : (binOp .eql 68 (.agg #[.int .i64 a, .int .i64 b, .int .i64 m]) (.agg #[.int .i64 a, .int .i64 b, .int .i64 m])).run Tryz.prog w = .ok (.bool true) w := by
  have u3 := Tryz.underlying3
  have hS : Tryz.prog.underlying 68 = some (.struct (Tryz.prog.fieldsOf 68)) := by kernel_rfl
  have hp : Tryz.prog.stoodInHeld 68 = false := by kernel_rfl
  have hs := eql_span a b
  rw [run_eql_struct, show (10000 : Nat) = 9999 + 1 from rfl, run_equalIn_agg w 9999 68 _ _ hS hp]
  simp only [Program.fieldsOf, Tryz.underlying68]
  go_simp
end Go.Proofs.YtjmgefpdfhfhmaaGreatDoor
