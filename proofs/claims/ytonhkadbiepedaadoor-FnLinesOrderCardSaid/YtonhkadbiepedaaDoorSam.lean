/- sameInts of the laws, for every input. -/
import Derived.Test.YtonhkadbiepedaaDoorWin
import Derived.Deep.DeepCutAuto
namespace Go.Proofs.YtonhkadbiepedaaDoor
open Go.RowKit Go.Sort

set_option maxRecDepth 100000 in
set_option maxHeartbeats 1600000 in
theorem callSameInts (A A' : Option Addr) (c c' : Nat) (xs ys : List Int) (w : World) (B : Nat) (hB : B ≤ w.heap.size) (_hm : xs.length ≤ 1073741824) (hm' : ys.length ≤ 1073741824) (hr : Rd eInt w B A xs) (hr' : Rd eInt w B A' ys) :
    Calls Tryd.prog 15 #[.slice A xs.length c, .slice A' ys.length c'] w fun e w' => e = .returned (.bool (decide (xs = ys))) ∧ Below w.heap.size w w' := by
  have HR := Lib.hid hr
  have HR' := Lib.hid hr'
  clear hr hr'
  by_cases hl : xs.length = ys.length
  · have hd0 : ((xs.length : Int) != (ys.length : Int)) = false := by rw [hl]; simp
    go_enter Tryd.func15, Tryd.ntmps15
    go_wp2
    go_loopw [5] (fun i wr => ∃ k : Nat, k ≤ xs.length ∧ i = .int .i64 k ∧ Below w.heap.size w wr ∧ Hid (∀ i (h : i < xs.length) (h' : i < ys.length), i < k → xs[i] = ys[i])) (fun i _ => xs.length - (intOf i).toNat)
    case atStart => exact ⟨0, by omega, rfl, Below.refl _ _, fun i _ _ hi => by omega⟩
    case round =>
      obtain ⟨k, hk, rfl, hbl, hno⟩ := hrel
      have HB := Lib.hid hbl
      clear hbl
      by_cases hlt : k < xs.length
      · have hlt' : k < ys.length := by omega
        have hd : decide ((k : Int) < xs.length) = true := decide_eq_true (by omega)
        obtain ⟨b, off, rfl, hbB, h1⟩ := (HR.out.below (HB.out.mono hB)).at1 rfl hlt rfl
        obtain ⟨b', off', rfl, hbB', h2⟩ := (HR'.out.below (HB.out.mono hB)).at1 rfl hlt' rfl
        have k1 := cell_regrown h1
        have k2 := cell_regrown h2
        by_cases hq : xs[k] = ys[k]
        · have HQ := Lib.hid hq
          have hne : (xs[k] != ys[k]) = false := by rw [hq]; simp
          have hst : Hid (∀ i (h : i < xs.length) (h' : i < ys.length), i < k + 1 → xs[i] = ys[i]) := fun i h h' hi => by
            rcases Nat.lt_or_ge i k with h'' | h''
            · exact hno.out i h h' h''
            · have : i = k := by omega
              subst this; exact HQ.out
          clear hq
          go_upto_region 6 with (fail)
          go_quiet (fail)
          clear h1 h2 k1 k2
          go_wp2
          go_roundw
          case rel => exact ⟨k + 1, by omega, by go_num, below_drewN HB.out _, hst⟩
          case measure => simp [intOf]; omega
        · have hne : (xs[k] != ys[k]) = true := by rw [bne_iff_ne]; exact hq
          have HN : Hid (decide (xs = ys) = false) := decide_eq_false fun e => hq (by subst e; rfl)
          clear hq
          go_upto_region 6 with (fail)
          go_quiet (fail)
          clear h1 h2 k1 k2
          go_wp2
          go_ret
          exact ⟨by rw [HN.out] <;> rfl, below_drewN HB.out _⟩
      · have hke : k = xs.length := by omega
        have hd : decide ((k : Int) < xs.length) = false := decide_eq_false (by omega)
        have HY : Hid (decide (xs = ys) = true) := decide_eq_true (List.ext_getElem hl fun i h h' => hno.out i h h' (by omega))
        go_wp2
        go_ret
        exact ⟨by rw [HY.out] <;> rfl, HB.out⟩
  · have hd0 : ((xs.length : Int) != (ys.length : Int)) = true := by rw [bne_iff_ne]; omega
    have HN : Hid (decide (xs = ys) = false) := decide_eq_false fun e => hl (by rw [e])
    go_enter Tryd.func15, Tryd.ntmps15
    go_wp2
    go_ret
    exact ⟨by rw [HN.out] <;> rfl, Below.refl _ _⟩
end Go.Proofs.YtonhkadbiepedaaDoor
