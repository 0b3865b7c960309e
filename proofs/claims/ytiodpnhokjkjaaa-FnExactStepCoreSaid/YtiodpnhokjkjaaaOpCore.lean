/- Opening an argument that is a core, or a list of instructions. -/
import Derived.Test.YtiodpnhokjkjaaaExo
import Derived.Test.YtiodpnhokjkjaaaLib
import Derived.Test.YtiodpnhokjkjaaaCor
import Derived.Lib.SmallJoins
namespace Go.Proofs.Ytiodpnhokjkjaaa
open Go.RowKit Go.Sort Go.ChangeShapes Go.WideShapes Go.Deep
section
variable {H : Type} {enc : TypeId × Value → H} {w : World} {base : Nat} {sp : Nat → Bool} {hd : Bool}
theorem maxLen_eq : maxLen ≤ 9223372036854775807 := by decide
theorem elem_int (fuel : Nat) (cs : List Value) (x : DataW H × List MemPlace) (h : DataW.trod enc Try.prog w base sp hd fuel 3 cs = some x) : ∃ a : Int, cs = eInt.enc a ∧ True := by
  obtain ⟨m0, e0, _, _⟩ := DataW.trod_int Try.underlying3 h
  exact ⟨m0, e0, trivial⟩
theorem elem_ord (fuel : Nat) (cs : List Value) (x : DataW H × List MemPlace) (h : DataW.trod enc Try.prog w base sp hd fuel 89 cs = some x) : ∃ a : Ord3, cs = eOrd.enc a ∧ True := by
  obtain ⟨y0, y1, y2, n, _, hl, h0, h1, h2⟩ := trod_struct3 Try.underlying89 h
  have hl3 : cs.length = 3 := hl.trans (by kernel_rfl)
  obtain ⟨c0, c1, c2, rfl⟩ := list3 hl3
  clear hl hl3
  obtain ⟨m0, e0, _, _⟩ := DataW.trod_int Try.underlying3 h0
  obtain ⟨m1, e1, _, _⟩ := DataW.trod_int Try.underlying3 h1
  obtain ⟨m2, e2, _, _⟩ := DataW.trod_int Try.underlying3 h2
  rw [show Try.prog.cellsOf 3 = 1 from by kernel_rfl] at e0 e1 e2
  simp at e0 e1 e2
  subst e0; subst e1; subst e2
  exact ⟨⟨m0, m1, m2⟩, rfl, trivial⟩
set_option maxRecDepth 100000 in
theorem open_ords {r : Reach} {b0 : Nat} {v : Value} {d : DataW H} {p : List MemPlace} (hv : Value.okWide Try.prog w r b0 44 v) (h : DataW.Trod enc Try.prog w base sp hd 44 v d p) :
    ∃ (A : Option Addr) (c : Nat) (os : List Ord3), v = .slice A os.length c ∧ os.length ≤ 9223372036854775807 ∧ Rd eOrd w w.heap.size A os := by
  obtain ⟨A0, l0, c0, rfl⟩ := okWide_slice Try.underlying44 hv
  obtain ⟨fuel, hf⟩ := h
  obtain ⟨A, c, xs, e0, hc, hm, hrd, _⟩ := open_rd eOrd _ Try.underlying44 (by kernel_rfl) elem_ord hf
  simp [Value.cells] at e0
  obtain ⟨rfl, rfl, rfl⟩ := e0
  exact ⟨A0, c0, xs, rfl, by have := maxLen_eq; omega, hrd⟩
set_option maxRecDepth 100000 in
theorem open_core {r : Reach} {b0 : Nat} {v : Value} {d : DataW H} {p : List MemPlace} (hv : Value.okWide Try.prog w r b0 43 v) (h : DataW.Trod enc Try.prog w base sp hd 43 v d p) :
    ∃ (A : Option Addr) (c : Nat) (x : Cor), v = .agg #[.slice A x.cs.length c, .int .i64 x.at', .bool x.stop] ∧ x.cs.length ≤ 9223372036854775807 ∧ Rd eInt w w.heap.size A x.cs := by
  obtain ⟨v0, v1, v2, y0, y1, y2, n, rfl, _, _, h0, h1, h2⟩ := Go.Joins.open_agg3 Try.underlying43 (by kernel_rfl) (by kernel_rfl) hv h
  obtain ⟨A, c, xs, e0, hc, hm, hrd, _⟩ := open_rd eInt _ Try.underlying31 (by kernel_rfl) elem_int h0
  obtain ⟨m1, e1, _, _⟩ := DataW.trod_int Try.underlying3 h1
  obtain ⟨m2, e2, _⟩ := DataW.trod_bool Try.underlying4 h2
  simp at e0 e1 e2
  subst e0; subst e1; subst e2
  exact ⟨A, c, ⟨xs, m1, m2⟩, rfl, by have := maxLen_eq; show xs.length ≤ _; omega, hrd⟩
end
end Go.Proofs.Ytiodpnhokjkjaaa
