/- Opening an argument that is modes. -/
import Derived.Test.YtapkgncmjinedaaExo
import Derived.Test.YtapkgncmjinedaaLib
import Derived.Lib.SmallJoins
namespace Go.Proofs.Ytapkgncmjinedaa
open Go.RowKit Go.Sort Go.ChangeShapes Go.WideShapes Go.Deep
section
variable {H : Type} {enc : TypeId × Value → H} {w : World} {base : Nat} {sp : Nat → Bool} {hd : Bool}
theorem maxLen_eq : maxLen ≤ 9223372036854775807 := by decide
theorem elem_slt (fuel : Nat) (cs : List Value) (x : DataW H × List MemPlace) (h : DataW.trod enc Try.prog w base sp hd fuel 117 cs = some x) : ∃ a : Slt, cs = eSlt.enc a ∧ True := by
  obtain ⟨y0, y1, n, _, hl, h0, h1⟩ := trod_struct2 Try.underlying117 h
  have hl2 : cs.length = 2 := hl.trans (by kernel_rfl)
  obtain ⟨c0, c1, rfl⟩ := list2 hl2
  clear hl hl2
  obtain ⟨m0, e0, _, _⟩ := DataW.trod_int Try.underlying3 h0
  obtain ⟨m1, e1, _, _⟩ := DataW.trod_int Try.underlying3 h1
  rw [show Try.prog.cellsOf 3 = 1 from by kernel_rfl] at e0 e1
  simp at e0 e1
  subst e0; subst e1
  exact ⟨⟨m0, m1⟩, rfl, trivial⟩
theorem elem_tab (fuel : Nat) (cs : List Value) (x : DataW H × List MemPlace) (h : DataW.trod enc Try.prog w base sp hd fuel 109 cs = some x) : ∃ a : Tab, cs = eTab.enc a ∧ (Rd eSlt w w.heap.size a.A a.slots ∧ a.slots.length ≤ a.c ∧ a.slots.length ≤ 9223372036854775807) := by
  obtain ⟨A, c, xs, e0, hc, hm, hrd, _⟩ := open_rd eSlt (fun _ => True) Try.underlying109 (by kernel_rfl) elem_slt h
  exact ⟨⟨A, c, xs⟩, e0, hrd, hc, by have := maxLen_eq; show xs.length ≤ _; omega⟩
set_option maxRecDepth 100000 in
theorem open_modes {r : Reach} {b0 : Nat} {v : Value} {d : DataW H} {p : List MemPlace} (hv : Value.okWide Try.prog w r b0 59 v) (h : DataW.Trod enc Try.prog w base sp hd 59 v d p) :
    ∃ (A : Option Addr) (c : Nat) (ts : List Tab) (now next : Int), v = .agg #[.slice A ts.length c, .int .i64 now, .int .i64 next] ∧ ts.length ≤ 9223372036854775807 ∧ Rd eTab w w.heap.size A ts ∧ ∀ p, p ∈ ts → Rd eSlt w w.heap.size p.A p.slots ∧ p.slots.length ≤ p.c ∧ p.slots.length ≤ 9223372036854775807 := by
  obtain ⟨v0, v1, v2, y0, y1, y2, n, rfl, _, _, h0, h1, h2⟩ := Go.Joins.open_agg3 Try.underlying59 (by kernel_rfl) (by kernel_rfl) hv h
  obtain ⟨A, c, xs, e0, hc, hm, hrd, hq⟩ := open_rd eTab _ Try.underlying57 (by kernel_rfl) elem_tab h0
  obtain ⟨m1, e1, _, _⟩ := DataW.trod_int Try.underlying3 h1
  obtain ⟨m2, e2, _, _⟩ := DataW.trod_int Try.underlying3 h2
  simp at e0 e1 e2
  subst e0; subst e1; subst e2
  exact ⟨A, c, xs, m1, m2, rfl, by have := maxLen_eq; omega, hrd, hq⟩
end
end Go.Proofs.Ytapkgncmjinedaa
