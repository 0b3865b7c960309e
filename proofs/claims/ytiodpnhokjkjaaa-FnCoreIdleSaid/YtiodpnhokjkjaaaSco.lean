/- sameCore of the laws, for every input. -/
import Derived.Test.YtiodpnhokjkjaaaSam
import Derived.Test.YtiodpnhokjkjaaaCok
namespace Go.Proofs.Ytiodpnhokjkjaaa
open Go.RowKit Go.Sort
set_option maxRecDepth 100000 in
set_option maxHeartbeats 1600000 in
/-- Equal cores are the same. -/
theorem sameCoreT (A A' : Option Addr) (c c' : Nat) (cr : Cor) (hm : cr.cs.length ≤ 1048576) (w : World) (h1 : Rd eInt w w.heap.size A cr.cs) (h2 : Rd eInt w w.heap.size A' cr.cs) :
    Calls Try.prog 20 #[.agg #[.slice A cr.cs.length c, .int .i64 cr.at', .bool cr.stop], .agg #[.slice A' cr.cs.length c', .int .i64 cr.at', .bool cr.stop]] w fun e w' => e = .returned (.bool true) ∧ Below w.heap.size w w' := by
  obtain ⟨cs, at0, st⟩ := cr
  simp only at hm h1 h2 ⊢
  have K0 := Lib.hid (alloc_at0 w (.cells #[.slice A cs.length c, .int .i64 at0, .bool st] 33) (.cells #[.slice A' cs.length c', .int .i64 at0, .bool st] 33))
  have K1 := Lib.hid (alloc_at1 w (.cells #[.slice A cs.length c, .int .i64 at0, .bool st] 33) (.cells #[.slice A' cs.length c', .int .i64 at0, .bool st] 33))
  have HB := Lib.hid (below2 w (.cells #[.slice A cs.length c, .int .i64 at0, .bool st] 33) (.cells #[.slice A' cs.length c', .int .i64 at0, .bool st] 33))
  have SE : Hid (∀ W, Below w.heap.size w W → Calls Try.prog 35 #[.slice A cs.length c, .slice A' cs.length c'] W fun e w' => e = .returned (.bool true) ∧ Below W.heap.size W w') := fun W hW => by
    have := callSameInts A A' c c' cs cs W W.heap.size (Nat.le_refl _) (by omega) (by omega) ((h1.below hW).mono hW.size) ((h2.below hW).mono hW.size)
    rw [show decide (cs = cs) = true from decide_eq_true rfl] at this; exact this
  have hss : (st == st) = true := by simp
  have haa : (at0 == at0) = true := by simp
  clear h1 h2
  obtain ⟨x0, x1, x2, _, _, _, _⟩ := cell3 K0.out
  obtain ⟨y0, y1, y2, _, _, _, _⟩ := cell3 K1.out
  go_enter Try.func20, Try.ntmps20
  go_wp2_with fail
  refine (SE.out _ HB.out).mono ?_
  rintro e w1 ⟨rfl, hb1⟩
  have HB1 := Lib.hid (bel_trans HB.out hb1)
  clear x0 x1 x2 y0 y1 y2
  obtain ⟨x0, x1, x2, _, _, _, _⟩ := cell3 (blkc K0.out hb1)
  obtain ⟨y0, y1, y2, _, _, _, _⟩ := cell3 (blkc K1.out hb1)
  clear hb1
  go_wp2
  go_ret
  exact ⟨by simp, HB1.out⟩
end Go.Proofs.Ytiodpnhokjkjaaa
