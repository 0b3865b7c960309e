/- The exact laws' helpers for slices of numbers: for every input. -/
import Derived.Test.YtiodpnhokjkjaaaExm
import Derived.Test.YtiodpnhokjkjaaaLib
import Derived.BigQuiet
import Derived.Deep.DeepCutAuto
namespace Go.Proofs.Ytiodpnhokjkjaaa
open Go.RowKit Go.Sort
/-- The numbers m, m + 1 .. -/
def marksI (m : Int) (n : Nat) : List Int := (List.range n).map fun (i : Nat) => m + (i : Int)
theorem marksI_len (m : Int) (n : Nat) : (marksI m n).length = n := by simp [marksI]
theorem marksI_get {m : Int} {n k : Nat} (h : k < (marksI m n).length) : (marksI m n)[k] = m + (k : Int) := by simp [marksI]
theorem callSzIntS (A : Option Addr) (c n : Nat) (left : Int) (w : World) (hn : n ≤ 9223372036854775807) (h0 : 0 ≤ left) (h1 : left ≤ 1048576) :
    Calls Try.prog 63 #[.slice A n c, .int .i64 left] w fun e w' => e = .returned (.int .i64 (szF n left)) ∧ w = w' := by
  have hwl : IntKind.i64.wrap (left - (n : Int)) = left - (n : Int) := IntWalk.i64_in _ (by omega)
  have E : Hid (szF n left = if (n : Int) ≤ left then left - n else -1) := rfl
  by_cases h : (n : Int) ≤ left
  · have E2 := Lib.hid (E.out.trans (if_pos h))
    have hd : decide (left - (n : Int) < 0) = false := decide_eq_false (by omega)
    go_enter Try.func63, Try.ntmps63
    go_wp2
    go_ret
    exact ⟨by rw [E2.out] <;> rfl, rfl⟩
  · have E2 := Lib.hid (E.out.trans (if_neg h))
    have hd : decide (left - (n : Int) < 0) = true := decide_eq_true (by omega)
    go_enter Try.func63, Try.ntmps63
    go_wp2
    go_ret
    exact ⟨by rw [E2.out] <;> rfl, rfl⟩
set_option maxRecDepth 100000 in
set_option maxHeartbeats 1600000 in
theorem callToIntS (A : Option Addr) (c : Nat) (xs : List Int) (w : World) (B : Nat) (hB : B ≤ w.heap.size) (hm : xs.length ≤ 1048576) (hr : Rd eInt w B A xs) :
    Calls Try.prog 64 #[.slice A xs.length c] w fun e w' => e = .returned (.slice (some ⟨w.heap.size, 0, none⟩) xs.length xs.length) ∧ Own eInt 3 w' w.heap.size (.slice (some ⟨w.heap.size, 0, none⟩) xs.length xs.length) xs ∧ Below w.heap.size w w' := by
  have HR := Lib.hid hr
  clear hr
  go_enter Try.func64, Try.ntmps64
  go_wp2_with (at_make; refine wpList_mkE (E := eInt) _ Try.underlying31 (z := .int .i64 0) (m := 8) (by kernel_rfl) (by decide) (0 : Int) rfl rfl _ _ rfl w.heap.size xs.length xs.length xs.length rfl rfl rfl rfl (by omega) (Nat.le_refl _) ?_; intro w1 hown1 hb1; have HO1 := Lib.hid hown1; have HB1 := Lib.hid hb1; clear hown1 hb1)
  have HF1 := Lib.hid (Fil.start (0 : Int) xs)
  go_loopw [4] (fun i wr => ∃ (k : Nat) (ys : List Int), i = .int .i64 k ∧ k ≤ xs.length ∧ Hid (Own eInt 3 wr w.heap.size (.slice (some ⟨w.heap.size, 0, none⟩) xs.length xs.length) ys) ∧ Hid (Fil k ys xs) ∧ Hid (Below w.heap.size w wr)) (fun i _ => xs.length - (intOf i).toNat)
  case atStart => exact ⟨0, _, rfl, by omega, HO1.out, HF1.out, HB1.out⟩
  case round =>
    clear HO1 HB1 HF1
    obtain ⟨k, ys, rfl, hk, HO, HF, HB⟩ := hrel
    by_cases hlt : k < xs.length
    · have hd : decide ((k : Int) < (xs.length : Int)) = true := decide_eq_true (by omega)
      obtain ⟨b, off, rfl, hbB, h1⟩ := (HR.out.below (HB.out.mono (by omega))).at1 rfl hlt rfl
      obtain ⟨X, hX⟩ : ∃ X, X = xs[k] := ⟨_, rfl⟩
      have HX := Lib.hid hX
      rw [← hX] at h1
      clear hX
      have hku : k < ys.length := by have := HF.out.1; omega
      obtain ⟨_, hb6, hwr⟩ := HO.out.cellsAt hku
      obtain ⟨⟨c0, hc0⟩, hf0⟩ := hwr 0 (by decide)
      simp only [Nat.mul_one, Nat.add_zero] at hc0 hf0
      have HO6 := Lib.hid (HO.out.set (i := k) (j := 0) (x := ys[k]) (y := X) (u := .int .i64 X) (List.getElem?_eq_getElem hku) (by decide) rfl)
      have HF6 := Lib.hid (HF.out.step hlt)
      rw [← HX.out] at HF6
      have HB6 := Lib.hid (HB.out.setCell (p := ⟨w.heap.size, k, none⟩) (Nat.le_refl w.heap.size) (.int .i64 X))
      clear hwr
      go_wp2
      go_roundw
      case rel => exact ⟨k + 1, ys.set k X, by go_num, by omega, by show Own _ _ _ _ _ _; simpa using HO6.out, HF6.out, HB6.out⟩
      case measure => simp [intOf]; omega
    · have hke : k = xs.length := by omega
      have hd : decide ((k : Int) < (xs.length : Int)) = false := decide_eq_false (by omega)
      have HE := Lib.hid (HF.out.done (by omega))
      clear hke
      go_wp2
      go_ret
      have h := HO.out
      rw [HE.out] at h
      exact ⟨rfl, h, HB.out⟩
set_option maxRecDepth 100000 in
set_option maxHeartbeats 1600000 in
theorem callEqIntST (A A' : Option Addr) (c c' : Nat) (xs : List Int) (w : World) (B : Nat) (hB : B ≤ w.heap.size) (hm : xs.length ≤ 1048576) (hr : Rd eInt w B A xs) (hr' : Rd eInt w B A' xs) :
    Calls Try.prog 66 #[.slice A xs.length c, .slice A' xs.length c'] w fun e w' => e = .returned (.bool true) ∧ Below w.heap.size w w' := by
  have HR := Lib.hid hr
  have HR' := Lib.hid hr'
  have hd0 : ((xs.length : Int) != (xs.length : Int)) = false := by simp
  clear hr hr'
  go_enter Try.func66, Try.ntmps66
  go_wp2
  go_loopw [5] (fun i wr => ∃ k : Nat, k ≤ xs.length ∧ i = .int .i64 k ∧ Hid (Below w.heap.size w wr)) (fun i _ => xs.length - (intOf i).toNat)
  case atStart => exact ⟨0, by omega, rfl, Below.refl _ _⟩
  case round =>
    obtain ⟨k, hk, rfl, HB⟩ := hrel
    by_cases hlt : k < xs.length
    · have hd : decide ((k : Int) < (xs.length : Int)) = true := decide_eq_true (by omega)
      obtain ⟨b, off, rfl, hbB, h1⟩ := (HR.out.below (HB.out.mono hB)).at1 rfl hlt rfl
      obtain ⟨b', off', rfl, hbB', k1⟩ := (HR'.out.below (HB.out.mono hB)).at1 rfl hlt rfl
      obtain ⟨X, hX⟩ : ∃ X, X = xs[k] := ⟨_, rfl⟩
      rw [← hX] at h1 k1
      clear hX
      have hxx : (X != X) = false := by simp
      go_upto_region 6 with (fail)
      go_quiet (fail)
      go_wp2
      go_roundw
      case rel => exact ⟨k + 1, by omega, by go_num, below_drewN HB.out _⟩
      case measure => simp [intOf]; omega
    · have hke : k = xs.length := by omega
      have hd : decide ((k : Int) < (xs.length : Int)) = false := decide_eq_false (by omega)
      clear hke
      go_wp2
      go_ret
      exact ⟨rfl, HB.out⟩
set_option maxRecDepth 100000 in
set_option maxHeartbeats 1600000 in
theorem callMarkIntSW (A : Option Addr) (n c : Nat) (m : Int) (lo hi : Nat) (w : World) (hm0 : 0 ≤ m) (hm : m ≤ 1000000000000000000) (hn : n ≤ 1048576) (hwr : Wr 1 w lo hi A n) :
    Calls Try.prog 67 #[.slice A n c, .int .i64 m] w fun e w' => e = .returned (.int .i64 (m + n)) ∧ Mk lo hi w w' := by
  have HW := Lib.hid hwr
  clear hwr
  go_enter Try.func67, Try.ntmps67
  go_wp2
  go_loopw [1, 5] (fun s i wr => ∃ (k : Nat), k ≤ n ∧ i = .int .i64 k ∧ s = .int .i64 (m + k) ∧ Hid (Mk lo hi w wr)) (fun _ i _ => n - (intOf i).toNat)
  case atStart => exact ⟨0, by omega, rfl, by simp, Mk.refl _ _ _⟩
  case round =>
    obtain ⟨k, hk, rfl, rfl, HM⟩ := hrel
    by_cases hlt : k < n
    · have hd : decide ((k : Int) < (n : Int)) = true := decide_eq_true (by omega)
      obtain ⟨b, rfl, hb1, hb2, hc⟩ := (HW.out.mk HM.out) (by omega)
      obtain ⟨⟨c0, hc0⟩, hf0⟩ := hc k (by omega)
      clear hc
      have e1 : IntKind.i64.wrap (m + (k : Int) + 1) = m + (k : Int) + 1 := IntWalk.i64_in _ (by omega)
      go_wp2
      go_roundw
      case rel => exact ⟨k + 1, by omega, by go_num, by simp; omega, HM.out.set (g := b) (o := k) hb1 hb2 _⟩
      case measure => simp [intOf]; omega
    · have hke : k = n := by omega
      have hd : decide ((k : Int) < (n : Int)) = false := decide_eq_false (by omega)
      subst hke
      go_wp2
      go_ret
      exact ⟨rfl, HM.out⟩
set_option maxRecDepth 100000 in
set_option maxHeartbeats 1600000 in
theorem callMarkIntSH (A : Option Addr) (c : Nat) (xs : List Int) (m : Int) (base hi : Nat) (w : World) (hm0 : 0 ≤ m) (hm : m ≤ 1000000000000000000) (hn : xs.length ≤ 1048576) (ho : Own eInt 3 w base (.slice A xs.length c) xs) (hrd : Rd eInt w hi A xs) :
    Calls Try.prog 67 #[.slice A xs.length c, .int .i64 m] w fun e w' => e = .returned (.int .i64 (m + xs.length)) ∧ Mk base hi w w' ∧ Own eInt 3 w' base (.slice A xs.length c) (marksI m xs.length) := by
  have HO0 := Lib.hid ho
  have HLN := Lib.hid (marksI_len m xs.length)
  have HAA : Hid (0 < xs.length → ∃ b, A = some ⟨b, 0, none⟩ ∧ base ≤ b ∧ b < hi) := fun h => by
    obtain ⟨b, h1, h2, h3, _⟩ := ho.wr h
    obtain ⟨b', off, h4, h5, _⟩ := hrd (fun e => by simp [e] at h)
    rw [h1] at h4
    simp only [Option.some.injEq, Addr.mk.injEq] at h4
    exact ⟨b, h1, h2, by omega⟩
  have HF0 : Hid (Fil 0 xs (marksI m xs.length)) := ⟨(marksI_len m xs.length).symm, fun i _ _ h => by omega⟩
  clear ho hrd
  go_enter Try.func67, Try.ntmps67
  go_wp2
  go_loopw [1, 5] (fun s i wr => ∃ (k : Nat) (ys : List Int), k ≤ xs.length ∧ i = .int .i64 k ∧ s = .int .i64 (m + k) ∧ Hid (Mk base hi w wr) ∧ Hid (Own eInt 3 wr base (.slice A xs.length c) ys) ∧ Hid (Fil k ys (marksI m xs.length))) (fun _ i _ => xs.length - (intOf i).toNat)
  case atStart => exact ⟨0, xs, by omega, rfl, by simp, Mk.refl _ _ _, HO0.out, HF0.out⟩
  case round =>
    clear HO0 HF0
    obtain ⟨k, ys, hk, rfl, rfl, HM, HO, HF⟩ := hrel
    by_cases hlt : k < xs.length
    · have hd : decide ((k : Int) < (xs.length : Int)) = true := decide_eq_true (by omega)
      obtain ⟨b, rfl, hb1, hb2⟩ := HAA.out (by omega)
      have hlm : k < (marksI m xs.length).length := by have := HLN.out; omega
      have hku : k < ys.length := by have := HF.out.1; omega
      obtain ⟨_, hb6, hwr⟩ := HO.out.cellsAt hku
      obtain ⟨⟨c0, hc0⟩, hf0⟩ := hwr 0 (by decide)
      simp only [Nat.mul_one, Nat.add_zero] at hc0 hf0
      have HO6 := Lib.hid (HO.out.set (i := k) (j := 0) (x := ys[k]) (y := m + (k : Int)) (u := .int .i64 (m + (k : Int))) (List.getElem?_eq_getElem hku) (by decide) rfl)
      have HF6 := Lib.hid (HF.out.step hlm)
      rw [marksI_get hlm] at HF6
      have e1 : IntKind.i64.wrap (m + (k : Int) + 1) = m + (k : Int) + 1 := IntWalk.i64_in _ (by omega)
      have HM6 := Lib.hid (HM.out.set (g := b) (o := k) hb1 hb2 (.int .i64 (m + (k : Int))))
      clear hwr
      go_wp2
      go_roundw
      case rel => exact ⟨k + 1, ys.set k (m + (k : Int)), by omega, by go_num, by simp; omega, HM6.out, by show Own _ _ _ _ _ _; simpa using HO6.out, HF6.out⟩
      case measure => simp [intOf]; omega
    · have hke : k = xs.length := by omega
      have hd : decide ((k : Int) < (xs.length : Int)) = false := decide_eq_false (by omega)
      have HE := Lib.hid (HF.out.done (by have := HLN.out; omega))
      subst hke
      go_wp2
      go_ret
      have h := HO.out
      rw [HE.out] at h
      exact ⟨rfl, HM.out, h⟩
theorem callMarkIntS (A : Option Addr) (c : Nat) (xs : List Int) (m : Int) (base : Nat) (w : World) (hm0 : 0 ≤ m) (hm : m ≤ 1000000000000000000) (hn : xs.length ≤ 1048576) (ho : Own eInt 3 w base (.slice A xs.length c) xs) :
    Calls Try.prog 67 #[.slice A xs.length c, .int .i64 m] w fun e w' => e = .returned (.int .i64 (m + xs.length)) ∧ Mk base w.heap.size w w' ∧ Own eInt 3 w' base (.slice A xs.length c) (marksI m xs.length) :=
  callMarkIntSH A c xs m base w.heap.size w hm0 hm hn ho ho.rd
set_option maxRecDepth 100000 in
set_option maxHeartbeats 1600000 in
theorem callHeldIntS (A : Option Addr) (c n : Nat) (m : Int) (w : World) (B : Nat) (hB : B ≤ w.heap.size) (hm0 : 0 ≤ m) (hm : m ≤ 1000000000000000000) (hn : n ≤ 1048576) (hr : Rd eInt w B A (marksI m n)) :
    Calls Try.prog 68 #[.slice A n c, .int .i64 m] w fun e w' => e = .returned (.int .i64 (m + n)) ∧ Below w.heap.size w w' := by
  have HR := Lib.hid hr
  have HLN := Lib.hid (marksI_len m n)
  clear hr
  go_enter Try.func68, Try.ntmps68
  go_wp2
  go_loopw [1, 5] (fun s i wr => ∃ (k : Nat), k ≤ n ∧ i = .int .i64 k ∧ s = .int .i64 (m + k) ∧ Hid (Below w.heap.size w wr)) (fun _ i _ => n - (intOf i).toNat)
  case atStart => exact ⟨0, by omega, rfl, by simp, Below.refl _ _⟩
  case round =>
    obtain ⟨k, hk, rfl, rfl, HB⟩ := hrel
    by_cases hlt : k < n
    · have hd : decide ((k : Int) < (n : Int)) = true := decide_eq_true (by omega)
      have hlm : k < (marksI m n).length := by have := HLN.out; omega
      obtain ⟨b, off, rfl, hbB, h1⟩ := (HR.out.below (HB.out.mono hB)).at1 rfl hlm rfl
      rw [marksI_get hlm] at h1
      have e1 : IntKind.i64.wrap (m + (k : Int) + 1) = m + (k : Int) + 1 := IntWalk.i64_in _ (by omega)
      have e2 : ((m + (k : Int)) != (m + (k : Int))) = false := by simp
      go_wp2
      go_roundw
      case rel => exact ⟨k + 1, by omega, by go_num, by simp; omega, HB.out⟩
      case measure => simp [intOf]; omega
    · have hke : k = n := by omega
      have hd : decide ((k : Int) < (n : Int)) = false := decide_eq_false (by omega)
      subst hke
      go_wp2
      go_ret
      exact ⟨rfl, HB.out⟩
end Go.Proofs.Ytiodpnhokjkjaaa
