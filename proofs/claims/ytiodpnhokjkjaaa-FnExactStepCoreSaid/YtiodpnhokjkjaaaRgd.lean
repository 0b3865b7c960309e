/- Words for a region that draws its order, reads a reader, makes literal rows and stores a result. No statement of the program stands here. -/
import Derived.Test.YtiodpnhokjkjaaaReg
import Derived.Test.YtiodpnhokjkjaaaDrw
import Derived.Test.YtiodpnhokjkjaaaBox
namespace Go.Proofs.Ytiodpnhokjkjaaa
open Go.RowKit Go.Sort

/-- What every step keeps: blocks other than the reader's and the result's; and the result once it is stored. -/
def ExtR (g R : Nat) (fin : World → Prop) (w w' : World) : Prop :=
  (∀ (b : Nat) (o : Obj), b ≠ g → b ≠ R → w.heap[b]? = some o → w'.heap[b]? = some o) ∧ (fin w → fin w')
structure DJ (wo : World) (g B M : Nat) (D : World → Prop) (n : Nat) (s : Bool) (w : World) : Prop where
  hn : n ≤ 100
  rdr : s = false → Rdr w g (M + (100 - n))
  bel : Below B wo w
  glt : g < w.heap.size
  dat : D w
def VI (lo hi : Int) (_ : World) (v : Value) : Prop := ∃ x, v = .int .i64 x ∧ lo ≤ x ∧ x < hi
def VC (c : Value) (_ : World) (v : Value) : Prop := v = c
def VL (g R n : Nat) (T : TypeId) (lo hi : Int) (w : World) (v : Value) : Prop :=
  ∃ (b : Nat) (xs : List Int), v = .slice (some ⟨b, 0, none⟩) n n ∧ b ≠ g ∧ b ≠ R ∧ xs.length = n ∧ w.heap[b]? = some (.cells (xs.map (Value.int .i64)).toArray T (0, 0)) ∧ ∀ x ∈ xs, lo ≤ x ∧ x < hi
def VP (g R : Nat) (T : TypeId) (lo hi : Int) (w : World) (v : Value) : Prop :=
  ∃ (b k : Nat) (cs : Array Value) (x : Int), v = .pointer (some ⟨b, k, none⟩) ∧ b ≠ g ∧ b ≠ R ∧ w.heap[b]? = some (.cells cs T (0, 0)) ∧ cs[k]? = some (.int .i64 x) ∧ lo ≤ x ∧ x < hi
def VF (fin : World → Prop) (w : World) (_ : Value) : Prop := fin w

def VAt (Vs : List (World → Value → Prop)) (i : Nat) : World → Value → Prop := Vs.getD i fun _ _ => True
def Stab (g R : Nat) (fin : World → Prop) (p : World → Value → Prop) : Prop := ∀ w w' u, ExtR g R fin w w' → p w u → p w' u
section
variable {g R n : Nat} {T : TypeId} {lo hi : Int} {fin : World → Prop} {c : Value}
theorem VI.stab : Stab g R fin (VI lo hi) := fun _ _ _ _ h => h
theorem VC.stab : Stab g R fin (VC c) := fun _ _ _ _ h => h
theorem VF.stab : Stab g R fin (VF fin) := fun _ _ _ e h => e.2 h
theorem VL.stab : Stab g R fin (VL g R n T lo hi) := fun _ _ _ e ⟨b, xs, h1, h2, h3, h4, h5, h6⟩ => ⟨b, xs, h1, h2, h3, h4, e.1 b _ h2 h3 h5, h6⟩
theorem VP.stab : Stab g R fin (VP g R T lo hi) := fun _ _ _ e ⟨b, k, cs, x, h1, h2, h3, h4, h5⟩ => ⟨b, k, cs, x, h1, h2, h3, e.1 b _ h2 h3 h4, h5⟩
def AllP (F : (World → Value → Prop) → Prop) : List (World → Value → Prop) → Prop
  | [] => True
  | p :: r => F p ∧ AllP F r
theorem AllP.mem {F : (World → Value → Prop) → Prop} : ∀ {l : List (World → Value → Prop)}, AllP F l → ∀ p ∈ l, F p
  | [], _, p, h => by cases h
  | q :: r, h, p, hp => by
    rcases List.mem_cons.1 hp with rfl | hp
    · exact h.1
    · exact AllP.mem h.2 p hp
theorem stab_at {Vs : List (World → Value → Prop)} (h : AllP (Stab g R fin) Vs) : ∀ j w w' u, ExtR g R fin w w' → VAt Vs j w u → VAt Vs j w' u := by
  intro j w w' u e hv
  unfold VAt at *
  rw [List.getD_eq_getElem?_getD] at *
  cases hj : Vs[j]? with
  | none => trivial
  | some p =>
    rw [hj] at hv
    exact AllP.mem h p (List.mem_of_getElem? hj) w w' u e hv

theorem ExtR.refl (w : World) : ExtR g R fin w w := ⟨fun _ _ _ _ h => h, fun h => h⟩
theorem ExtR.grown {w w' : World} (h : w.grownBy w' (some g)) (hf : fin w → fin w') : ExtR g R fin w w' := ⟨fun b o hg _ hb => gblk h hb (fun e => by injection e with e; exact hg e), hf⟩
end
section
variable {wo w w' : World} {g B M n i kk : Nat} {s : Bool} {D : World → Prop}
theorem DJ.weak (h : DJ wo g B M D (n + 1) s w) : DJ wo g B M D n (s || i == kk) w := ⟨by have := h.hn; omega, fun e => (h.rdr (Bool.or_eq_false_iff.1 e).1).more (by omega), h.bel, h.glt, h.dat⟩
theorem DJ.pick (h : DJ wo g B M D (n + 1) s w) (hD : ∀ w w', D w → w.grownBy w' (some g) → D w') (hB : B ≤ g) (hBw : B ≤ w.heap.size) (hr : Rdr w' g (M + (100 - (n + 1)) + 1)) (hg : w.grownBy w' (some g)) : DJ wo g B M D n (s || i == kk) w' :=
  ⟨by have := h.hn; omega, fun _ => hr.more (by have := h.hn; omega), h.bel.trans ((Below.refl _ _).grown hg hBw (fun k hk => by cases hk; exact hB)), Nat.lt_of_lt_of_le h.glt hg.size, hD _ _ h.dat hg⟩
theorem DJ.alloc (h : DJ wo g B M D (n + 1) s w) (hD : ∀ w w', D w → w.grownBy w' (some g) → D w') (hBw : B ≤ w.heap.size) (o : Obj) : DJ wo g B M D n (s || i == kk) (w.alloc o) :=
  ⟨by have := h.hn; omega, fun e => ((h.rdr (Bool.or_eq_false_iff.1 e).1).alloc o).more (by omega), h.bel.alloc hBw o, by have := h.glt; rw [World.size_alloc]; omega, hD _ _ h.dat (World.grownBy_alloc w o _)⟩
end

theorem cellOf' {w : World} {b : Nat} {cs : Array Value} {T : TypeId} {k : Nat} {v : Value} (h : w.heap[b]? = some (.cells cs T (0, 0))) (hk : cs[k]? = some v) : w.cell? ⟨b, k, none⟩ = some v := by
  rw [cell_of_row w b k _ _ _ h]; exact hk
theorem map_at {xs : List Int} {k : Nat} (h : k < xs.length) : (xs.map (Value.int .i64)).toArray[k]? = some (.int .i64 xs[k]) := by
  simp [h]
/-! ### The steps -/
theorem ev {a : Act} {t : Nat} {v : Value} (h : a.eval (.tmp t) = v) : a.tmps[t]?.getD undef = v := by
  rw [← h]; simp [Act.eval]

section
variable {P : Program} {Q : Exit → Act → World → Prop} {o : Oper} {a : Act} {w : World} {K : Act → World → Prop}
theorem wp_val {v : Value} {w' : World} (h : (execOp a.eval o).run P w = .ok (.value v) w') (hK : K (a.put o.dst v) w') : o.wp P a w K Q := by
  unfold Oper.wp; rw [h]; exact hK
theorem run_move {x : Operand} (h : o.op = .move x) : (execOp a.eval o).run P w = .ok (.value (a.eval x)) w := by unfold execOp; rw [h]; rfl
theorem run_assign {x : Operand} (h : o.op = .assign x) : (execOp a.eval o).run P w = .ok (.value (a.eval x)) w := by unfold execOp; rw [h]; rfl
end
end Go.Proofs.Ytiodpnhokjkjaaa
