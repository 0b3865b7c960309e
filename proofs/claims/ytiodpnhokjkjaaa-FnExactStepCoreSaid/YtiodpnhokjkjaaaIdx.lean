/- slices.IndexFunc and slices.ContainsFunc at the element types of this seat: each by the predicate that its closure computes. -/
import Derived.Test.YtiodpnhokjkjaaaRows
import Derived.Test.YtiodpnhokjkjaaaData
namespace Go.Proofs.Ytiodpnhokjkjaaa
open Go.RowKit Go.Sort

set_option maxHeartbeats 800000 in
theorem callIndexWin (A : Option Addr) (c : Nat) (xs : List Win) (g : FuncId) (lb : Array Value) (p : Win → Bool) (w : World) (B : Nat) (hB : B ≤ w.heap.size) (hm : xs.length ≤ 1073741824)
   (hr : Rd eWin w B A xs) (eg : ∀ args w, (callFunc g args).run Try.prog w = .ok (.enter g args) w)
   (hp : ∀ x, x ∈ xs → ∀ w', Below w.heap.size w w' → Calls Try.prog g (#[x.val] ++ lb) w' fun e w'' => e = .returned (.bool (p x)) ∧ Below w'.heap.size w' w'') :
    Calls Try.prog 80 #[.slice A xs.length c, .func (.func g) #[] lb] w fun e w' => e = .returned (.int .i64 (idx p xs)) ∧ Below w.heap.size w w' := by
  have HP := Lib.hid hp
  clear hp
  go_enter Try.func80, Try.ntmps80
  go_wp2
  go_loopw [8] (fun i wr => ∃ k : Nat, k ≤ xs.length ∧ i = .int .i64 k ∧ Below w.heap.size w wr ∧ Hid (∀ i (_ : i < k) (h : i < xs.length), p xs[i] = false)) (fun i _ => xs.length - (intOf i).toNat)
  case atStart => exact ⟨0, by omega, rfl, Below.refl _ _, fun i hi => by omega⟩
  case round =>
    obtain ⟨k, hk, rfl, hbl, hno⟩ := hrel
    by_cases hlt : k < xs.length
    · obtain ⟨b, off, rfl, hbB, h1, h2, h3⟩ := (hr.below (hbl.mono hB)).at3 rfl hlt rfl
      have HB := Lib.hid hbl
      clear hbl
      cases hpk : p xs[k]
      · have HK := Lib.hid hpk
        clear hpk
        go_wp2_with fail
        refine (HP.out _ (List.getElem_mem hlt) _ HB.out).mono ?_
        rintro e w1 ⟨rfl, hb1⟩
        rw [HK.out]
        go_wp2
        go_roundw
        case rel => exact ⟨k + 1, by omega, by go_num, HB.out.trans (hb1.mono HB.out.size), fun i hi h => by
          rcases Nat.lt_or_ge i k with h' | h'
          · exact hno i h' h
          · have : i = k := by omega
            subst this; exact HK.out⟩
        case measure => simp [intOf]; omega
      · have HK := Lib.hid hpk
        clear hpk
        go_wp2_with fail
        refine (HP.out _ (List.getElem_mem hlt) _ HB.out).mono ?_
        rintro e w1 ⟨rfl, hb1⟩
        rw [HK.out]
        go_wp2
        go_ret
        exact ⟨by rw [idx_at hlt HK.out hno]; rfl, HB.out.trans (hb1.mono HB.out.size)⟩
    · have hke : k = xs.length := by omega
      subst hke
      go_wp2
      go_ret
      exact ⟨by rw [idx_none fun i h => hno i h h]; rfl, hbl⟩
theorem callContainsWin (A : Option Addr) (c : Nat) (xs : List Win) (g : FuncId) (lb : Array Value) (p : Win → Bool) (w : World) (B : Nat) (hB : B ≤ w.heap.size) (hm : xs.length ≤ 1073741824)
   (hr : Rd eWin w B A xs) (eg : ∀ args w, (callFunc g args).run Try.prog w = .ok (.enter g args) w)
   (hp : ∀ x, x ∈ xs → ∀ w', Below w.heap.size w w' → Calls Try.prog g (#[x.val] ++ lb) w' fun e w'' => e = .returned (.bool (p x)) ∧ Below w'.heap.size w' w'') :
    Calls Try.prog 100 #[.slice A xs.length c, .func (.func g) #[] lb] w fun e w' => e = .returned (.bool (xs.any p)) ∧ Below w.heap.size w w' := by
  have H := callIndexWin A c xs g lb p w B hB hm hr eg hp
  clear hp
  have HC := Lib.hid H
  clear H
  generalize hi : idx p xs = q at *
  have hq : Hid (xs.any p = decide (0 ≤ q)) := by rw [← hi]; exact idx_any.symm
  clear hi
  go_enter Try.func100, Try.ntmps100
  go_wp2_with (go_at_call 80; refine HC.out.mono ?_; rintro e w' ⟨rfl, hb1⟩)
  go_ret
  exact ⟨by rw [hq.out]; rfl, hb1⟩

set_option maxHeartbeats 800000 in
theorem callIndexPrt (A : Option Addr) (c : Nat) (xs : List Prt) (g : FuncId) (lb : Array Value) (p : Prt → Bool) (w : World) (B : Nat) (hB : B ≤ w.heap.size) (hm : xs.length ≤ 1073741824)
   (hr : Rd ePrt w B A xs) (eg : ∀ args w, (callFunc g args).run Try.prog w = .ok (.enter g args) w)
   (hp : ∀ x, x ∈ xs → ∀ w', Below w.heap.size w w' → Calls Try.prog g (#[x.val] ++ lb) w' fun e w'' => e = .returned (.bool (p x)) ∧ Below w'.heap.size w' w'') :
    Calls Try.prog 108 #[.slice A xs.length c, .func (.func g) #[] lb] w fun e w' => e = .returned (.int .i64 (idx p xs)) ∧ Below w.heap.size w w' := by
  have HP := Lib.hid hp
  clear hp
  go_enter Try.func108, Try.ntmps108
  go_wp2
  go_loopw [8] (fun i wr => ∃ k : Nat, k ≤ xs.length ∧ i = .int .i64 k ∧ Below w.heap.size w wr ∧ Hid (∀ i (_ : i < k) (h : i < xs.length), p xs[i] = false)) (fun i _ => xs.length - (intOf i).toNat)
  case atStart => exact ⟨0, by omega, rfl, Below.refl _ _, fun i hi => by omega⟩
  case round =>
    obtain ⟨k, hk, rfl, hbl, hno⟩ := hrel
    by_cases hlt : k < xs.length
    · obtain ⟨b, off, rfl, hbB, h1, h2⟩ := (hr.below (hbl.mono hB)).at2 rfl hlt rfl
      have HB := Lib.hid hbl
      clear hbl
      cases hpk : p xs[k]
      · have HK := Lib.hid hpk
        clear hpk
        go_wp2_with fail
        refine (HP.out _ (List.getElem_mem hlt) _ HB.out).mono ?_
        rintro e w1 ⟨rfl, hb1⟩
        rw [HK.out]
        go_wp2
        go_roundw
        case rel => exact ⟨k + 1, by omega, by go_num, HB.out.trans (hb1.mono HB.out.size), fun i hi h => by
          rcases Nat.lt_or_ge i k with h' | h'
          · exact hno i h' h
          · have : i = k := by omega
            subst this; exact HK.out⟩
        case measure => simp [intOf]; omega
      · have HK := Lib.hid hpk
        clear hpk
        go_wp2_with fail
        refine (HP.out _ (List.getElem_mem hlt) _ HB.out).mono ?_
        rintro e w1 ⟨rfl, hb1⟩
        rw [HK.out]
        go_wp2
        go_ret
        exact ⟨by rw [idx_at hlt HK.out hno]; rfl, HB.out.trans (hb1.mono HB.out.size)⟩
    · have hke : k = xs.length := by omega
      subst hke
      go_wp2
      go_ret
      exact ⟨by rw [idx_none fun i h => hno i h h]; rfl, hbl⟩
theorem callContainsPrt (A : Option Addr) (c : Nat) (xs : List Prt) (g : FuncId) (lb : Array Value) (p : Prt → Bool) (w : World) (B : Nat) (hB : B ≤ w.heap.size) (hm : xs.length ≤ 1073741824)
   (hr : Rd ePrt w B A xs) (eg : ∀ args w, (callFunc g args).run Try.prog w = .ok (.enter g args) w)
   (hp : ∀ x, x ∈ xs → ∀ w', Below w.heap.size w w' → Calls Try.prog g (#[x.val] ++ lb) w' fun e w'' => e = .returned (.bool (p x)) ∧ Below w'.heap.size w' w'') :
    Calls Try.prog 94 #[.slice A xs.length c, .func (.func g) #[] lb] w fun e w' => e = .returned (.bool (xs.any p)) ∧ Below w.heap.size w w' := by
  have H := callIndexPrt A c xs g lb p w B hB hm hr eg hp
  clear hp
  have HC := Lib.hid H
  clear H
  generalize hi : idx p xs = q at *
  have hq : Hid (xs.any p = decide (0 ≤ q)) := by rw [← hi]; exact idx_any.symm
  clear hi
  go_enter Try.func94, Try.ntmps94
  go_wp2_with (go_at_call 108; refine HC.out.mono ?_; rintro e w' ⟨rfl, hb1⟩)
  go_ret
  exact ⟨by rw [hq.out]; rfl, hb1⟩

set_option maxHeartbeats 800000 in
theorem callIndexSlt (A : Option Addr) (c : Nat) (xs : List Slt) (g : FuncId) (lb : Array Value) (p : Slt → Bool) (w : World) (B : Nat) (hB : B ≤ w.heap.size) (hm : xs.length ≤ 1073741824)
   (hr : Rd eSlt w B A xs) (eg : ∀ args w, (callFunc g args).run Try.prog w = .ok (.enter g args) w)
   (hp : ∀ x, x ∈ xs → ∀ w', Below w.heap.size w w' → Calls Try.prog g (#[x.val] ++ lb) w' fun e w'' => e = .returned (.bool (p x)) ∧ Below w'.heap.size w' w'') :
    Calls Try.prog 109 #[.slice A xs.length c, .func (.func g) #[] lb] w fun e w' => e = .returned (.int .i64 (idx p xs)) ∧ Below w.heap.size w w' := by
  have HP := Lib.hid hp
  clear hp
  go_enter Try.func109, Try.ntmps109
  go_wp2
  go_loopw [8] (fun i wr => ∃ k : Nat, k ≤ xs.length ∧ i = .int .i64 k ∧ Below w.heap.size w wr ∧ Hid (∀ i (_ : i < k) (h : i < xs.length), p xs[i] = false)) (fun i _ => xs.length - (intOf i).toNat)
  case atStart => exact ⟨0, by omega, rfl, Below.refl _ _, fun i hi => by omega⟩
  case round =>
    obtain ⟨k, hk, rfl, hbl, hno⟩ := hrel
    by_cases hlt : k < xs.length
    · obtain ⟨b, off, rfl, hbB, h1, h2⟩ := (hr.below (hbl.mono hB)).at2 rfl hlt rfl
      have HB := Lib.hid hbl
      clear hbl
      cases hpk : p xs[k]
      · have HK := Lib.hid hpk
        clear hpk
        go_wp2_with fail
        refine (HP.out _ (List.getElem_mem hlt) _ HB.out).mono ?_
        rintro e w1 ⟨rfl, hb1⟩
        rw [HK.out]
        go_wp2
        go_roundw
        case rel => exact ⟨k + 1, by omega, by go_num, HB.out.trans (hb1.mono HB.out.size), fun i hi h => by
          rcases Nat.lt_or_ge i k with h' | h'
          · exact hno i h' h
          · have : i = k := by omega
            subst this; exact HK.out⟩
        case measure => simp [intOf]; omega
      · have HK := Lib.hid hpk
        clear hpk
        go_wp2_with fail
        refine (HP.out _ (List.getElem_mem hlt) _ HB.out).mono ?_
        rintro e w1 ⟨rfl, hb1⟩
        rw [HK.out]
        go_wp2
        go_ret
        exact ⟨by rw [idx_at hlt HK.out hno]; rfl, HB.out.trans (hb1.mono HB.out.size)⟩
    · have hke : k = xs.length := by omega
      subst hke
      go_wp2
      go_ret
      exact ⟨by rw [idx_none fun i h => hno i h h]; rfl, hbl⟩
theorem callContainsSlt (A : Option Addr) (c : Nat) (xs : List Slt) (g : FuncId) (lb : Array Value) (p : Slt → Bool) (w : World) (B : Nat) (hB : B ≤ w.heap.size) (hm : xs.length ≤ 1073741824)
   (hr : Rd eSlt w B A xs) (eg : ∀ args w, (callFunc g args).run Try.prog w = .ok (.enter g args) w)
   (hp : ∀ x, x ∈ xs → ∀ w', Below w.heap.size w w' → Calls Try.prog g (#[x.val] ++ lb) w' fun e w'' => e = .returned (.bool (p x)) ∧ Below w'.heap.size w' w'') :
    Calls Try.prog 96 #[.slice A xs.length c, .func (.func g) #[] lb] w fun e w' => e = .returned (.bool (xs.any p)) ∧ Below w.heap.size w w' := by
  have H := callIndexSlt A c xs g lb p w B hB hm hr eg hp
  clear hp
  have HC := Lib.hid H
  clear H
  generalize hi : idx p xs = q at *
  have hq : Hid (xs.any p = decide (0 ≤ q)) := by rw [← hi]; exact idx_any.symm
  clear hi
  go_enter Try.func96, Try.ntmps96
  go_wp2_with (go_at_call 109; refine HC.out.mono ?_; rintro e w' ⟨rfl, hb1⟩)
  go_ret
  exact ⟨by rw [hq.out]; rfl, hb1⟩

set_option maxHeartbeats 800000 in
theorem callIndexChn (A : Option Addr) (c : Nat) (xs : List Chn) (g : FuncId) (lb : Array Value) (p : Chn → Bool) (w : World) (B : Nat) (hB : B ≤ w.heap.size) (hm : xs.length ≤ 1073741824)
   (hr : Rd eChn w B A xs) (eg : ∀ args w, (callFunc g args).run Try.prog w = .ok (.enter g args) w)
   (hp : ∀ x, x ∈ xs → ∀ w', Below w.heap.size w w' → Calls Try.prog g (#[x.val] ++ lb) w' fun e w'' => e = .returned (.bool (p x)) ∧ Below w'.heap.size w' w'') :
    Calls Try.prog 99 #[.slice A xs.length c, .func (.func g) #[] lb] w fun e w' => e = .returned (.int .i64 (idx p xs)) ∧ Below w.heap.size w w' := by
  have HP := Lib.hid hp
  clear hp
  go_enter Try.func99, Try.ntmps99
  go_wp2
  go_loopw [8] (fun i wr => ∃ k : Nat, k ≤ xs.length ∧ i = .int .i64 k ∧ Below w.heap.size w wr ∧ Hid (∀ i (_ : i < k) (h : i < xs.length), p xs[i] = false)) (fun i _ => xs.length - (intOf i).toNat)
  case atStart => exact ⟨0, by omega, rfl, Below.refl _ _, fun i hi => by omega⟩
  case round =>
    obtain ⟨k, hk, rfl, hbl, hno⟩ := hrel
    by_cases hlt : k < xs.length
    · obtain ⟨b, off, rfl, hbB, h1, h2, h3, h4⟩ := (hr.below (hbl.mono hB)).at4 rfl hlt rfl
      have HB := Lib.hid hbl
      clear hbl
      cases hpk : p xs[k]
      · have HK := Lib.hid hpk
        clear hpk
        go_wp2_with fail
        refine (HP.out _ (List.getElem_mem hlt) _ HB.out).mono ?_
        rintro e w1 ⟨rfl, hb1⟩
        rw [HK.out]
        go_wp2
        go_roundw
        case rel => exact ⟨k + 1, by omega, by go_num, HB.out.trans (hb1.mono HB.out.size), fun i hi h => by
          rcases Nat.lt_or_ge i k with h' | h'
          · exact hno i h' h
          · have : i = k := by omega
            subst this; exact HK.out⟩
        case measure => simp [intOf]; omega
      · have HK := Lib.hid hpk
        clear hpk
        go_wp2_with fail
        refine (HP.out _ (List.getElem_mem hlt) _ HB.out).mono ?_
        rintro e w1 ⟨rfl, hb1⟩
        rw [HK.out]
        go_wp2
        go_ret
        exact ⟨by rw [idx_at hlt HK.out hno]; rfl, HB.out.trans (hb1.mono HB.out.size)⟩
    · have hke : k = xs.length := by omega
      subst hke
      go_wp2
      go_ret
      exact ⟨by rw [idx_none fun i h => hno i h h]; rfl, hbl⟩
theorem callContainsChn (A : Option Addr) (c : Nat) (xs : List Chn) (g : FuncId) (lb : Array Value) (p : Chn → Bool) (w : World) (B : Nat) (hB : B ≤ w.heap.size) (hm : xs.length ≤ 1073741824)
   (hr : Rd eChn w B A xs) (eg : ∀ args w, (callFunc g args).run Try.prog w = .ok (.enter g args) w)
   (hp : ∀ x, x ∈ xs → ∀ w', Below w.heap.size w w' → Calls Try.prog g (#[x.val] ++ lb) w' fun e w'' => e = .returned (.bool (p x)) ∧ Below w'.heap.size w' w'') :
    Calls Try.prog 76 #[.slice A xs.length c, .func (.func g) #[] lb] w fun e w' => e = .returned (.bool (xs.any p)) ∧ Below w.heap.size w w' := by
  have H := callIndexChn A c xs g lb p w B hB hm hr eg hp
  clear hp
  have HC := Lib.hid H
  clear H
  generalize hi : idx p xs = q at *
  have hq : Hid (xs.any p = decide (0 ≤ q)) := by rw [← hi]; exact idx_any.symm
  clear hi
  go_enter Try.func76, Try.ntmps76
  go_wp2_with (go_at_call 99; refine HC.out.mono ?_; rintro e w' ⟨rfl, hb1⟩)
  go_ret
  exact ⟨by rw [hq.out]; rfl, hb1⟩

set_option maxHeartbeats 800000 in
theorem callIndexOrd (A : Option Addr) (c : Nat) (xs : List Ord3) (g : FuncId) (lb : Array Value) (p : Ord3 → Bool) (w : World) (B : Nat) (hB : B ≤ w.heap.size) (hm : xs.length ≤ 1073741824)
   (hr : Rd eOrd w B A xs) (eg : ∀ args w, (callFunc g args).run Try.prog w = .ok (.enter g args) w)
   (hp : ∀ x, x ∈ xs → ∀ w', Below w.heap.size w w' → Calls Try.prog g (#[x.val] ++ lb) w' fun e w'' => e = .returned (.bool (p x)) ∧ Below w'.heap.size w' w'') :
    Calls Try.prog 105 #[.slice A xs.length c, .func (.func g) #[] lb] w fun e w' => e = .returned (.int .i64 (idx p xs)) ∧ Below w.heap.size w w' := by
  have HP := Lib.hid hp
  clear hp
  go_enter Try.func105, Try.ntmps105
  go_wp2
  go_loopw [8] (fun i wr => ∃ k : Nat, k ≤ xs.length ∧ i = .int .i64 k ∧ Below w.heap.size w wr ∧ Hid (∀ i (_ : i < k) (h : i < xs.length), p xs[i] = false)) (fun i _ => xs.length - (intOf i).toNat)
  case atStart => exact ⟨0, by omega, rfl, Below.refl _ _, fun i hi => by omega⟩
  case round =>
    obtain ⟨k, hk, rfl, hbl, hno⟩ := hrel
    by_cases hlt : k < xs.length
    · obtain ⟨b, off, rfl, hbB, h1, h2, h3⟩ := (hr.below (hbl.mono hB)).at3 rfl hlt rfl
      have HB := Lib.hid hbl
      clear hbl
      cases hpk : p xs[k]
      · have HK := Lib.hid hpk
        clear hpk
        go_wp2_with fail
        refine (HP.out _ (List.getElem_mem hlt) _ HB.out).mono ?_
        rintro e w1 ⟨rfl, hb1⟩
        rw [HK.out]
        go_wp2
        go_roundw
        case rel => exact ⟨k + 1, by omega, by go_num, HB.out.trans (hb1.mono HB.out.size), fun i hi h => by
          rcases Nat.lt_or_ge i k with h' | h'
          · exact hno i h' h
          · have : i = k := by omega
            subst this; exact HK.out⟩
        case measure => simp [intOf]; omega
      · have HK := Lib.hid hpk
        clear hpk
        go_wp2_with fail
        refine (HP.out _ (List.getElem_mem hlt) _ HB.out).mono ?_
        rintro e w1 ⟨rfl, hb1⟩
        rw [HK.out]
        go_wp2
        go_ret
        exact ⟨by rw [idx_at hlt HK.out hno]; rfl, HB.out.trans (hb1.mono HB.out.size)⟩
    · have hke : k = xs.length := by omega
      subst hke
      go_wp2
      go_ret
      exact ⟨by rw [idx_none fun i h => hno i h h]; rfl, hbl⟩
theorem callContainsOrd (A : Option Addr) (c : Nat) (xs : List Ord3) (g : FuncId) (lb : Array Value) (p : Ord3 → Bool) (w : World) (B : Nat) (hB : B ≤ w.heap.size) (hm : xs.length ≤ 1073741824)
   (hr : Rd eOrd w B A xs) (eg : ∀ args w, (callFunc g args).run Try.prog w = .ok (.enter g args) w)
   (hp : ∀ x, x ∈ xs → ∀ w', Below w.heap.size w w' → Calls Try.prog g (#[x.val] ++ lb) w' fun e w'' => e = .returned (.bool (p x)) ∧ Below w'.heap.size w' w'') :
    Calls Try.prog 85 #[.slice A xs.length c, .func (.func g) #[] lb] w fun e w' => e = .returned (.bool (xs.any p)) ∧ Below w.heap.size w w' := by
  have H := callIndexOrd A c xs g lb p w B hB hm hr eg hp
  clear hp
  have HC := Lib.hid H
  clear H
  generalize hi : idx p xs = q at *
  have hq : Hid (xs.any p = decide (0 ≤ q)) := by rw [← hi]; exact idx_any.symm
  clear hi
  go_enter Try.func85, Try.ntmps85
  go_wp2_with (go_at_call 105; refine HC.out.mono ?_; rintro e w' ⟨rfl, hb1⟩)
  go_ret
  exact ⟨by rw [hq.out]; rfl, hb1⟩

set_option maxHeartbeats 800000 in
theorem callIndexInt (A : Option Addr) (c : Nat) (xs : List Int) (g : FuncId) (lb : Array Value) (p : Int → Bool) (w : World) (B : Nat) (hB : B ≤ w.heap.size) (hm : xs.length ≤ 1073741824)
   (hr : Rd eInt w B A xs) (eg : ∀ args w, (callFunc g args).run Try.prog w = .ok (.enter g args) w)
   (hp : ∀ x, x ∈ xs → ∀ w', Below w.heap.size w w' → Calls Try.prog g (#[.int .i64 x] ++ lb) w' fun e w'' => e = .returned (.bool (p x)) ∧ Below w'.heap.size w' w'') :
    Calls Try.prog 106 #[.slice A xs.length c, .func (.func g) #[] lb] w fun e w' => e = .returned (.int .i64 (idx p xs)) ∧ Below w.heap.size w w' := by
  have HP := Lib.hid hp
  clear hp
  go_enter Try.func106, Try.ntmps106
  go_wp2
  go_loopw [8] (fun i wr => ∃ k : Nat, k ≤ xs.length ∧ i = .int .i64 k ∧ Below w.heap.size w wr ∧ Hid (∀ i (_ : i < k) (h : i < xs.length), p xs[i] = false)) (fun i _ => xs.length - (intOf i).toNat)
  case atStart => exact ⟨0, by omega, rfl, Below.refl _ _, fun i hi => by omega⟩
  case round =>
    obtain ⟨k, hk, rfl, hbl, hno⟩ := hrel
    by_cases hlt : k < xs.length
    · obtain ⟨b, off, rfl, hbB, h1⟩ := (hr.below (hbl.mono hB)).at1 rfl hlt rfl
      have HB := Lib.hid hbl
      clear hbl
      cases hpk : p xs[k]
      · have HK := Lib.hid hpk
        clear hpk
        go_wp2_with fail
        refine (HP.out _ (List.getElem_mem hlt) _ HB.out).mono ?_
        rintro e w1 ⟨rfl, hb1⟩
        rw [HK.out]
        go_wp2
        go_roundw
        case rel => exact ⟨k + 1, by omega, by go_num, HB.out.trans (hb1.mono HB.out.size), fun i hi h => by
          rcases Nat.lt_or_ge i k with h' | h'
          · exact hno i h' h
          · have : i = k := by omega
            subst this; exact HK.out⟩
        case measure => simp [intOf]; omega
      · have HK := Lib.hid hpk
        clear hpk
        go_wp2_with fail
        refine (HP.out _ (List.getElem_mem hlt) _ HB.out).mono ?_
        rintro e w1 ⟨rfl, hb1⟩
        rw [HK.out]
        go_wp2
        go_ret
        exact ⟨by rw [idx_at hlt HK.out hno]; rfl, HB.out.trans (hb1.mono HB.out.size)⟩
    · have hke : k = xs.length := by omega
      subst hke
      go_wp2
      go_ret
      exact ⟨by rw [idx_none fun i h => hno i h h]; rfl, hbl⟩
theorem callContainsInt (A : Option Addr) (c : Nat) (xs : List Int) (g : FuncId) (lb : Array Value) (p : Int → Bool) (w : World) (B : Nat) (hB : B ≤ w.heap.size) (hm : xs.length ≤ 1073741824)
   (hr : Rd eInt w B A xs) (eg : ∀ args w, (callFunc g args).run Try.prog w = .ok (.enter g args) w)
   (hp : ∀ x, x ∈ xs → ∀ w', Below w.heap.size w w' → Calls Try.prog g (#[.int .i64 x] ++ lb) w' fun e w'' => e = .returned (.bool (p x)) ∧ Below w'.heap.size w' w'') :
    Calls Try.prog 88 #[.slice A xs.length c, .func (.func g) #[] lb] w fun e w' => e = .returned (.bool (xs.any p)) ∧ Below w.heap.size w w' := by
  have H := callIndexInt A c xs g lb p w B hB hm hr eg hp
  clear hp
  have HC := Lib.hid H
  clear H
  generalize hi : idx p xs = q at *
  have hq : Hid (xs.any p = decide (0 ≤ q)) := by rw [← hi]; exact idx_any.symm
  clear hi
  go_enter Try.func88, Try.ntmps88
  go_wp2_with (go_at_call 106; refine HC.out.mono ?_; rintro e w' ⟨rfl, hb1⟩)
  go_ret
  exact ⟨by rw [hq.out]; rfl, hb1⟩

end Go.Proofs.Ytiodpnhokjkjaaa
