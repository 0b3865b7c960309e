/- Words for a region that lays two literal rows and draws two numbers, in any order. No statement of the program stands here. -/
import Derived.Test.YtonhkadbiepedaaDrw
import Derived.Test.YtonhkadbiepedaaBox
namespace Go.Proofs.Ytonhkadbiepedaa
open Go.RowKit Go.Sort

theorem row7 {q : Int} (h0 : 0 ≤ q) (h1 : q < 7) : ∃ kk jj : Nat, q = (kk : Int) ∧ jj < 3 ∧ (#[Value.int .i64 0, .int .i64 0, .int .i64 0, .int .i64 0, .int .i64 0, .int .i64 1, .int .i64 2] : Array Value)[kk]? = some (.int .i64 jj) ∧ kk < 7 := by
  have : q = 0 ∨ q = 1 ∨ q = 2 ∨ q = 3 ∨ q = 4 ∨ q = 5 ∨ q = 6 := by omega
  rcases this with rfl | rfl | rfl | rfl | rfl | rfl | rfl
  · exact ⟨0, 0, rfl, by omega, rfl, by omega⟩
  · exact ⟨1, 0, rfl, by omega, rfl, by omega⟩
  · exact ⟨2, 0, rfl, by omega, rfl, by omega⟩
  · exact ⟨3, 0, rfl, by omega, rfl, by omega⟩
  · exact ⟨4, 0, rfl, by omega, rfl, by omega⟩
  · exact ⟨5, 1, rfl, by omega, rfl, by omega⟩
  · exact ⟨6, 2, rfl, by omega, rfl, by omega⟩
theorem row3 {jj : Nat} (h : jj < 3) (a b c : Int) : ∃ x : Int, (#[Value.int .i64 a, .int .i64 b, .int .i64 c] : Array Value)[jj]? = some (.int .i64 x) := by
  have : jj = 0 ∨ jj = 1 ∨ jj = 2 := by omega
  rcases this with rfl | rfl | rfl
  · exact ⟨a, rfl⟩
  · exact ⟨b, rfl⟩
  · exact ⟨c, rfl⟩
theorem cell_lt {w : World} {b : Nat} {o : Obj} (h : w.heap[b]? = some o) : b < w.heap.size := (Array.getElem?_eq_some_iff.1 h).1
theorem gne {a b g : Nat} (_ : a < b) (h : g < a) : some a ≠ some g := by simp; omega
theorem cellOf {w : World} {b : Nat} {cs : Array Value} {T : TypeId} {k : Nat} {v : Value} (h : w.heap[b]? = some (.cells cs T (0, 0))) (hk : cs[k]? = some v) : w.cell? ⟨b, k, none⟩ = some v := by
  rw [cell_of_row w b k _ _ _ h]; exact hk
section
variable {u v : World} {g : Nat} {o3 o7 : Obj}
theorem gr_drew {a : World} {row : Option Nat} (h : a.grownBy u row) : a.grownBy u.drew row := ⟨h.os, h.tape, h.output, h.size, h.block⟩
theorem ga0 (h : (u.alloc o7).grownBy v (some g)) (hg : g < u.heap.size) : v.heap[u.heap.size]? = some o7 := gblk h (heap_alloc_new u o7) (by simp; omega)
theorem ga0d (h : (u.alloc o7).drew.grownBy v (some g)) (hg : g < u.heap.size) : v.heap[u.heap.size]? = some o7 := gblk (a := (u.alloc o7).drew) h (heap_alloc_new u o7) (by simp; omega)
theorem gb0 (h : ((u.alloc o3).alloc o7).grownBy v (some g)) (hg : g < u.heap.size) : v.heap[u.heap.size]? = some o3 := gblk h (alloc_at0 u o3 o7) (by simp; omega)
theorem gb1 (h : ((u.alloc o3).alloc o7).grownBy v (some g)) (hg : g < u.heap.size) : v.heap[u.heap.size + 1]? = some o7 := gblk h (alloc_at1 u o3 o7) (by simp; omega)
end

end Go.Proofs.Ytonhkadbiepedaa
