/- The law of append inside a region that draws its order, for any element type. -/
import Derived.Test.YtiodpnhokjkjaaaMem
import Derived.Deep.RegionLaw
namespace Go.Proofs.Ytiodpnhokjkjaaa
open Go.RowKit Go.Sort
section
variable {P : Program} {α : Type} {E : Enc α} {t e : TypeId}
theorem step_app {ops : Array Oper} {o : Oper} {a : Act} {w : World} {K : Act → World → Prop} {Q : Exit → Act → World → Prop} {E0 : Prop} (I : EI P t e E) (hgd : o.guard = none) (s x : Operand)
    (ho : o.op = .call { callee := .builtin .append, args := #[s, x], argTypes := #[t, t] })
    (base : Nat) {v : Value} {xs ys : List α} {n c : Nat} {A : Option Addr} {B : Nat} (hown : Own E e w base v xs) (hr : Rd E w B A ys) (hn : n = ys.length) (hs : a.eval s = v) (hx : a.eval x = .slice A n c)
    (hroom : xs.length + ys.length ≤ 1073741824) (hbase : base ≤ w.heap.size)
    (h : ∀ v' w' row, Own E e w' base v' (xs ++ ys) → w.grownBy w' row → (∀ k, row = some k → base ≤ k ∧ v.ownBlock = some k ∧ ∃ cur, w.heap[k]? = some (.cells cur e (0, 0))) → K (a.put o.dst v') w') :
    if Region.wanted o (yielded ops a.tmps) = true then Oper.wp P o a w K Q else E0 := by
  have hw : Region.wanted o (yielded ops a.tmps) = true := by simp [Region.wanted, hgd]
  rw [if_pos hw]
  subst hn
  obtain ⟨v', w', row, hrun, h2, h3, h4⟩ := run_append_E (P := P) w I o.type base v xs ys hown A c B hr hroom hbase
  unfold Oper.wp execOp
  simp only [ho, resolve, invoke, builtin, Sem.run_bind, Sem.run_pure, Result.andThen_ok, List.map_toArray, List.map_cons, List.map_nil, hs, hx, hrun]
  exact h v' w' row h2 h3 h4
end
end Go.Proofs.Ytiodpnhokjkjaaa
