/- '==' and '!=' at a state of health. -/
import Derived.Test.YtlkdngjpbohgaaaHer
import Derived.Laws.StructEq
namespace Go.Proofs.Ytlkdngjpbohgaaa
open Go.RowKit Go.Sort
theorem guardHlt : Try.prog.eqGuardType Try.prog.depth 32 = false := by kernel_rfl
theorem eqHlt (w : World) (a c : Bool) (b d : Int) : (Op.equalIn 10000 32 (.agg #[.bool a, .int .i64 b]) (.agg #[.bool c, .int .i64 d])).run Try.prog w = .ok (a == c && b == d) w := by
  have hS : Try.prog.underlying 32 = some (.struct (Try.prog.fieldsOf 32)) := by kernel_rfl
  have hp : Try.prog.stoodInHeld 32 = false := by kernel_rfl
  have u3 := Try.underlying3
  have a3 := Try.isAgg3
  have z3 := Try.sizeOf3
  have u4 := Try.underlying4
  have a4 := Try.isAgg4
  have z4 := Try.sizeOf4
  rw [show (10000 : Nat) = 9999 + 1 from rfl, run_equalIn_agg w 9999 32 _ _ hS hp]
  simp only [Program.fieldsOf, Try.underlying32]
  go_simp
  cases a <;> cases c <;> by_cases h2 : b = d <;> simp [h2]
theorem eqlHlt (w : World) (a c : Bool) (b d : Int) : (binOp .eql 32 (.agg #[.bool a, .int .i64 b]) (.agg #[.bool c, .int .i64 d])).run Try.prog w = .ok (.bool (a == c && b == d)) w := by
  rw [run_eql_struct, eqHlt]; rfl
theorem neqHlt (w : World) (a c : Bool) (b d : Int) : (binOp .neq 32 (.agg #[.bool a, .int .i64 b]) (.agg #[.bool c, .int .i64 d])).run Try.prog w = .ok (.bool (!(a == c && b == d))) w := by
  rw [run_neq_struct, eqHlt]; rfl
end Go.Proofs.Ytlkdngjpbohgaaa
