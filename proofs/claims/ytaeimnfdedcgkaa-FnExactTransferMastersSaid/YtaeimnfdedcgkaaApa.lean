/- Windows that clash and partitions that are apart: meet, clash, PartsApart of the program and of the reference, for every input. -/
import Derived.Test.YtaeimnfdedcgkaaPrt
namespace Go.Proofs.Ytaeimnfdedcgkaa
open Go.RowKit Go.Sort

/-! ### Plain -/

def meets (x y : Win) : Bool := decide (max x.base y.base < min (x.base + x.size) (y.base + y.size))
def clashP (x y : Win) : Bool := meets x y && (x.write || y.write)
def clash (xs ys : List Win) : Bool := xs.any fun x => ys.any (clashP x)

theorem clashP_comm (x y : Win) : clashP x y = clashP y x := by
  unfold clashP meets
  rw [Bool.or_comm, show (decide (max x.base y.base < min (x.base + x.size) (y.base + y.size))) = decide (max y.base x.base < min (y.base + y.size) (x.base + x.size)) from decide_eq_decide.2 (by omega)]
theorem clash_comm (xs ys : List Win) : clash xs ys = clash ys xs := by
  unfold clash
  apply Bool.eq_iff_iff.2
  simp only [List.any_eq_true]
  constructor
  · rintro ⟨x, hx, y, hy, h⟩; exact ⟨y, hy, x, hx, by rw [clashP_comm]; exact h⟩
  · rintro ⟨x, hx, y, hy, h⟩; exact ⟨y, hy, x, hx, by rw [clashP_comm]; exact h⟩

theorem any_of_get {α : Type} {p : α → Bool} {xs : List α} {k : Nat} (hk : k < xs.length) (h : p xs[k] = true) : xs.any p = true := by
  rw [List.any_eq_true]; exact ⟨_, List.getElem_mem hk, h⟩
theorem any_none {α : Type} {p : α → Bool} {xs : List α} (h : ∀ i (hi : i < xs.length), p xs[i] = false) : xs.any p = false := by
  rw [List.any_eq_false]; intro x hx; obtain ⟨i, hi, rfl⟩ := List.getElem_of_mem hx; rw [h i hi]; simp

/-! ### meet -/

set_option maxRecDepth 100000 in
set_option maxHeartbeats 3200000 in
theorem callMeet (x y : Win) (hx : winOk x = true) (hy : winOk y = true) (w : World) :
    Calls Try.prog 84 #[x.val, y.val] w fun e w' => ∃ z : Win, e = .returned (.tuple #[z.val, .bool (meets x y)]) ∧ Below w.heap.size w w' := by
  obtain ⟨x1, x2, x3, x4⟩ := winOk_iff.1 hx
  obtain ⟨y1, y2, y3, y4⟩ := winOk_iff.1 hy
  have EM : Hid (meets x y = decide ((if x.base < y.base then y.base else x.base) < (if y.base + y.size < x.base + x.size then y.base + y.size else x.base + x.size))) := by
    show meets x y = _
    unfold meets
    exact decide_eq_decide.2 (by split <;> split <;> omega)
  obtain ⟨xb, xs, xw⟩ := x
  obtain ⟨yb, ys, yw⟩ := y
  simp only at x1 x2 x3 x4 y1 y2 y3 y4 EM
  have s1 : IntKind.i64.wrap (xb + xs) = xb + xs := IntWalk.i64_in _ (by omega)
  have s2 : IntKind.i64.wrap (yb + ys) = yb + ys := IntWalk.i64_in _ (by omega)
  obtain ⟨lo, hlo⟩ : ∃ lo, lo = if xb < yb then yb else xb := ⟨_, rfl⟩
  obtain ⟨hi, hhi⟩ : ∃ hi, hi = if yb + ys < xb + xs then yb + ys else xb + xs := ⟨_, rfl⟩
  rw [← hlo, ← hhi] at EM
  have s3 : IntKind.i64.wrap (hi - lo) = hi - lo := IntWalk.i64_in _ (by rw [hlo, hhi]; split <;> split <;> omega)
  clear hx hy
  go_enter Try.func84, Try.ntmps84
  go_wp2
  go_region
  rw [← hlo, ← hhi]
  clear hlo hhi
  by_cases hlt : hi ≤ lo
  · have em : Hid (meets ⟨xb, xs, xw⟩ ⟨yb, ys, yw⟩ = false) := by show _ = _; rw [EM.out]; exact decide_eq_false (by omega)
    clear EM
    go_wp2
    refine bodyPost_ret (v := .tuple #[(⟨0, 0, false⟩ : Win).val, .bool false]) (by simp [results, Try.results84, go_sem]) rfl ?_
    exact ⟨⟨0, 0, false⟩, by rw [em.out], (below3 _ _ _ _).drew⟩
  · have em : Hid (meets ⟨xb, xs, xw⟩ ⟨yb, ys, yw⟩ = true) := by show _ = _; rw [EM.out]; exact decide_eq_true (by omega)
    clear EM
    go_wp2
    · rename_i hxw
      subst hxw
      refine bodyPost_ret (v := .tuple #[(⟨lo, hi - lo, yw⟩ : Win).val, .bool true]) (by simp [results, Try.results84, go_sem]) rfl ?_
      exact ⟨⟨⟨lo, hi - lo, yw⟩, by rw [em.out]⟩, (below3 _ _ _ _).drew⟩
    · rename_i hxw
      rw [Bool.not_eq_true] at hxw
      subst hxw
      refine bodyPost_ret (v := .tuple #[(⟨lo, hi - lo, false⟩ : Win).val, .bool true]) (by simp [results, Try.results84, go_sem]) rfl ?_
      exact ⟨⟨⟨lo, hi - lo, false⟩, by rw [em.out]⟩, (below3 _ _ _ _).drew⟩

end Go.Proofs.Ytaeimnfdedcgkaa
