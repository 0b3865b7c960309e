/- slices.IndexFunc and slices.ContainsFunc at the element types of this seat: each by the predicate that its closure computes. -/
import Derived.Test.YtonhkadbiepedaaDoorRows
import Derived.Test.YtonhkadbiepedaaDoorData
namespace Go.Proofs.YtonhkadbiepedaaDoor
open Go.RowKit Go.Sort

set_option maxHeartbeats 800000 in
theorem callIndexWin (A : Option Addr) (c : Nat) (xs : List Win) (g : FuncId) (lb : Array Value) (p : Win → Bool) (w : World) (B : Nat) (hB : B ≤ w.heap.size) (hm : xs.length ≤ 1073741824)
   (hr : Rd eWin w B A xs) (eg : ∀ args w, (callFunc g args).run Tryd.prog w = .ok (.enter g args) w)
   (hp : ∀ x, x ∈ xs → ∀ w', Below w.heap.size w w' → Calls Tryd.prog g (#[x.val] ++ lb) w' fun e w'' => e = .returned (.bool (p x)) ∧ Below w'.heap.size w' w'') :
    Calls Tryd.prog 32 #[.slice A xs.length c, .func (.func g) #[] lb] w fun e w' => e = .returned (.int .i64 (idx p xs)) ∧ Below w.heap.size w w' := by
  have HP := Lib.hid hp
  clear hp
  go_enter Tryd.func32, Tryd.ntmps32
  go_wp2
  go_loopw [8] (fun i wr => ∃ k : Nat, k ≤ xs.length ∧ i = .int .i64 k ∧ Below w.heap.size w wr ∧ Hid (∀ i (_ : i < k) (h : i < xs.length), p xs[i] = false)) (fun i _ => xs.length - (intOf i).toNat)
  case atStart => exact ⟨0, by omega, rfl, Below.refl _ _, fun i hi => by omega⟩
  case round =>
    obtain ⟨k, hk, rfl, hbl, hno⟩ := hrel
    by_cases hlt : k < xs.length
    · obtain ⟨b, off, rfl, hbB, h1, h2, h3⟩ := (hr.below (hbl.mono hB)).at3 rfl hlt rfl
      have HB := Lib.hid hbl
      clear hbl
      cases hpk : p xs[k]
      · have HK := Lib.hid hpk
        clear hpk
        go_wp2_with fail
        refine (HP.out _ (List.getElem_mem hlt) _ HB.out).mono ?_
        rintro e w1 ⟨rfl, hb1⟩
        rw [HK.out]
        go_wp2
        go_roundw
        case rel => exact ⟨k + 1, by omega, by go_num, HB.out.trans (hb1.mono HB.out.size), fun i hi h => by
          rcases Nat.lt_or_ge i k with h' | h'
          · exact hno i h' h
          · have : i = k := by omega
            subst this; exact HK.out⟩
        case measure => simp [intOf]; omega
      · have HK := Lib.hid hpk
        clear hpk
        go_wp2_with fail
        refine (HP.out _ (List.getElem_mem hlt) _ HB.out).mono ?_
        rintro e w1 ⟨rfl, hb1⟩
        rw [HK.out]
        go_wp2
        go_ret
        exact ⟨by rw [idx_at hlt HK.out hno]; rfl, HB.out.trans (hb1.mono HB.out.size)⟩
    · have hke : k = xs.length := by omega
      subst hke
      go_wp2
      go_ret
      exact ⟨by rw [idx_none fun i h => hno i h h]; rfl, hbl⟩
theorem callContainsWin (A : Option Addr) (c : Nat) (xs : List Win) (g : FuncId) (lb : Array Value) (p : Win → Bool) (w : World) (B : Nat) (hB : B ≤ w.heap.size) (hm : xs.length ≤ 1073741824)
   (hr : Rd eWin w B A xs) (eg : ∀ args w, (callFunc g args).run Tryd.prog w = .ok (.enter g args) w)
   (hp : ∀ x, x ∈ xs → ∀ w', Below w.heap.size w w' → Calls Tryd.prog g (#[x.val] ++ lb) w' fun e w'' => e = .returned (.bool (p x)) ∧ Below w'.heap.size w' w'') :
    Calls Tryd.prog 38 #[.slice A xs.length c, .func (.func g) #[] lb] w fun e w' => e = .returned (.bool (xs.any p)) ∧ Below w.heap.size w w' := by
  have H := callIndexWin A c xs g lb p w B hB hm hr eg hp
  clear hp
  have HC := Lib.hid H
  clear H
  generalize hi : idx p xs = q at *
  have hq : Hid (xs.any p = decide (0 ≤ q)) := by rw [← hi]; exact idx_any.symm
  clear hi
  go_enter Tryd.func38, Tryd.ntmps38
  go_wp2_with (go_at_call 32; refine HC.out.mono ?_; rintro e w' ⟨rfl, hb1⟩)
  go_ret
  exact ⟨by rw [hq.out]; rfl, hb1⟩






end Go.Proofs.YtonhkadbiepedaaDoor
