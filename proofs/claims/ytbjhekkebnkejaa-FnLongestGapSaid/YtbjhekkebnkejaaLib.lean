/- slices.Clip, slices.Clone and the program's clone at the element types of this seat; what the append law asks of each type. -/
import Derived.Test.YtbjhekkebnkejaaRows
import Derived.Test.YtbjhekkebnkejaaData
namespace Go.Proofs.Ytbjhekkebnkejaa
open Go.RowKit Go.Sort

theorem eiWin : EI Try.prog 48 47 eWin := EI.mk' Try.underlying48 (z := .agg #[.int .i64 0, .int .i64 0, .bool false]) (n := 24) (by kernel_rfl) (by decide) rfl
theorem infoWin : (Try.prog.info? 47).map (fun i => (i.zero, i.size, i.bytes)) = some (some (.agg #[.int .i64 0, .int .i64 0, .bool false]), eWin.sz, 24) := by kernel_rfl


theorem eiSlt : EI Try.prog 23 35 eSlt := EI.mk' Try.underlying23 (z := .agg #[.int .i64 0, .int .i64 0]) (n := 16) (by kernel_rfl) (by decide) rfl
theorem infoSlt : (Try.prog.info? 35).map (fun i => (i.zero, i.size, i.bytes)) = some (some (.agg #[.int .i64 0, .int .i64 0]), eSlt.sz, 16) := by kernel_rfl



theorem eiInt : EI Try.prog 43 3 eInt := EI.mk' Try.underlying43 (z := .int .i64 0) (n := 8) (by kernel_rfl) (by decide) rfl
theorem infoInt : (Try.prog.info? 3).map (fun i => (i.zero, i.size, i.bytes)) = some (some (.int .i64 0), eInt.sz, 8) := by kernel_rfl




end Go.Proofs.Ytbjhekkebnkejaa
