/- Opening an argument that is a list of partitions, or a transfer. -/
import Derived.Test.YtaeimnfdedcgkaaExo
import Derived.Test.YtaeimnfdedcgkaaLib
import Derived.Lib.SmallJoins
namespace Go.Proofs.Ytaeimnfdedcgkaa
open Go.RowKit Go.Sort Go.ChangeShapes Go.WideShapes Go.Deep
section
variable {H : Type} {enc : TypeId × Value → H} {w : World} {base : Nat} {sp : Nat → Bool} {hd : Bool}
theorem maxLen_eq : maxLen ≤ 9223372036854775807 := by decide
theorem elem_win (fuel : Nat) (cs : List Value) (x : DataW H × List MemPlace) (h : DataW.trod enc Try.prog w base sp hd fuel 100 cs = some x) : ∃ a : Win, cs = eWin.enc a ∧ True := by
  obtain ⟨y0, y1, y2, n, _, hl, h0, h1, h2⟩ := trod_struct3 Try.underlying100 h
  have hl3 : cs.length = 3 := hl.trans (by kernel_rfl)
  obtain ⟨c0, c1, c2, rfl⟩ := list3 hl3
  · clear hl hl3
    obtain ⟨m0, e0, _, _⟩ := DataW.trod_int Try.underlying3 h0
    obtain ⟨m1, e1, _, _⟩ := DataW.trod_int Try.underlying3 h1
    obtain ⟨m2, e2, _⟩ := DataW.trod_bool Try.underlying4 h2
    rw [show Try.prog.cellsOf 3 = 1 from by kernel_rfl] at e0 e1
    rw [show Try.prog.cellsOf 4 = 1 from by kernel_rfl] at e2
    simp at e0 e1 e2
    subst e0; subst e1; subst e2
    exact ⟨⟨m0, m1, m2⟩, rfl, trivial⟩
theorem elem_prt (fuel : Nat) (cs : List Value) (x : DataW H × List MemPlace) (h : DataW.trod enc Try.prog w base sp hd fuel 77 cs = some x) : ∃ a : Prt, cs = ePrt.enc a ∧ (Rd eWin w w.heap.size a.A a.wins ∧ a.wins.length ≤ a.c ∧ a.wins.length ≤ 9223372036854775807) := by
  obtain ⟨y0, y1, n, _, hl, h0, h1⟩ := trod_struct2 Try.underlying77 h
  have hl2 : cs.length = 2 := hl.trans (by kernel_rfl)
  obtain ⟨c0, c1, rfl⟩ := list2 hl2
  · clear hl hl2
    obtain ⟨A, c, xs, e0, hc, hm, hrd, _⟩ := open_rd eWin (fun _ => True) Try.underlying75 (by kernel_rfl) elem_win h0
    obtain ⟨m1, e1, _, _⟩ := DataW.trod_int Try.underlying3 h1
    rw [show Try.prog.cellsOf 75 = 1 from by kernel_rfl] at e0
    rw [show Try.prog.cellsOf 3 = 1 from by kernel_rfl] at e1
    simp at e0 e1
    subst e0; subst e1
    exact ⟨⟨A, c, xs, m1⟩, rfl, hrd, hc, by have := maxLen_eq; show xs.length ≤ _; omega⟩
theorem open_parts {r : Reach} {b0 : Nat} {v : Value} {d : DataW H} {p : List MemPlace} (hv : Value.okWide Try.prog w r b0 43 v) (h : DataW.Trod enc Try.prog w base sp hd 43 v d p) :
    ∃ (A : Option Addr) (c : Nat) (ps : List Prt), v = .slice A ps.length c ∧ ps.length ≤ c ∧ ps.length ≤ 9223372036854775807 ∧ Rd ePrt w w.heap.size A ps ∧ ∀ p, p ∈ ps → Rd eWin w w.heap.size p.A p.wins ∧ p.wins.length ≤ p.c ∧ p.wins.length ≤ 9223372036854775807 := by
  obtain ⟨A0, l0, c0, rfl⟩ := okWide_slice Try.underlying43 hv
  obtain ⟨fuel, hf⟩ := h
  obtain ⟨A, c, xs, e0, hc, hm, hrd, hq⟩ := open_rd ePrt _ Try.underlying43 (by kernel_rfl) elem_prt hf
  simp [Value.cells] at e0
  obtain ⟨rfl, rfl, rfl⟩ := e0
  exact ⟨A0, c0, xs, rfl, hc, by have := maxLen_eq; omega, hrd, hq⟩
theorem open_trn {r : Reach} {b0 : Nat} {v : Value} {d : DataW H} {p : List MemPlace} (hv : Value.okWide Try.prog w r b0 59 v) (h : DataW.Trod enc Try.prog w base sp hd 59 v d p) :
    ∃ t : Trn, v = .agg #[.int .i64 t.place, .int .i64 t.count, .bool t.write] := by
  obtain ⟨v0, v1, v2, y0, y1, y2, n, rfl, _, _, h0, h1, h2⟩ := Go.Joins.open_agg3 Try.underlying59 (by kernel_rfl) (by kernel_rfl) hv h
  obtain ⟨m0, e0, _, _⟩ := DataW.trod_int Try.underlying3 h0
  obtain ⟨m1, e1, _, _⟩ := DataW.trod_int Try.underlying3 h1
  obtain ⟨m2, e2, _⟩ := DataW.trod_bool Try.underlying4 h2
  simp at e0 e1 e2
  subst e0; subst e1; subst e2
  exact ⟨⟨m0, m1, m2⟩, rfl⟩
end
end Go.Proofs.Ytaeimnfdedcgkaa
