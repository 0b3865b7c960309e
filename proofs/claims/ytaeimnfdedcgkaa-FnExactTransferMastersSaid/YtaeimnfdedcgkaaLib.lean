/- slices.Clip, slices.Clone and the program's clone at the element types of this seat; what the append law asks of each type. -/
import Derived.Test.YtaeimnfdedcgkaaRows
import Derived.Test.YtaeimnfdedcgkaaData
namespace Go.Proofs.Ytaeimnfdedcgkaa
open Go.RowKit Go.Sort

theorem eiWin : EI Try.prog 23 39 eWin := EI.mk' Try.underlying23 (z := .agg #[.int .i64 0, .int .i64 0, .bool false]) (n := 24) (by kernel_rfl) (by decide) rfl
theorem infoWin : (Try.prog.info? 39).map (fun i => (i.zero, i.size, i.bytes)) = some (some (.agg #[.int .i64 0, .int .i64 0, .bool false]), eWin.sz, 24) := by kernel_rfl

theorem eiPrt : EI Try.prog 32 37 ePrt := EI.mk' Try.underlying32 (z := .agg #[.slice none 0 0, .int .i64 0]) (n := 32) (by kernel_rfl) (by decide) rfl
theorem infoPrt : (Try.prog.info? 37).map (fun i => (i.zero, i.size, i.bytes)) = some (some (.agg #[.slice none 0 0, .int .i64 0]), ePrt.sz, 32) := by kernel_rfl




theorem eiInt : EI Try.prog 56 3 eInt := EI.mk' Try.underlying56 (z := .int .i64 0) (n := 8) (by kernel_rfl) (by decide) rfl
theorem infoInt : (Try.prog.info? 3).map (fun i => (i.zero, i.size, i.bytes)) = some (some (.int .i64 0), eInt.sz, 8) := by kernel_rfl
theorem callClipInt (A : Option Addr) (n c : Nat) (hn : n ≤ c) (w : World) :
    Calls Try.prog 66 #[.slice A n c] w fun e w' => e = .returned (.slice A n n) ∧ w = w' := by
  go_enter Try.func66, Try.ntmps66
  go_wp2
  go_ret
  refine ⟨?_, rfl⟩
  rcases A with _ | a
  · simp
  · simp



theorem eiTrn : EI Try.prog 49 25 eTrn := EI.mk' Try.underlying49 (z := .agg #[.int .i64 0, .int .i64 0, .bool false]) (n := 24) (by kernel_rfl) (by decide) rfl
theorem infoTrn : (Try.prog.info? 25).map (fun i => (i.zero, i.size, i.bytes)) = some (some (.agg #[.int .i64 0, .int .i64 0, .bool false]), eTrn.sz, 24) := by kernel_rfl
theorem callClipTrn (A : Option Addr) (n c : Nat) (hn : n ≤ c) (w : World) :
    Calls Try.prog 61 #[.slice A n c] w fun e w' => e = .returned (.slice A n n) ∧ w = w' := by
  go_enter Try.func61, Try.ntmps61
  go_wp2
  go_ret
  refine ⟨?_, rfl⟩
  rcases A with _ | a
  · simp
  · simp

end Go.Proofs.Ytaeimnfdedcgkaa
