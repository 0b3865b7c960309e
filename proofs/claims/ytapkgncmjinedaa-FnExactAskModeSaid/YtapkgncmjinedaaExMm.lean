/- The exact laws' helpers that mark modes and look for the marks: for every input. -/
import Derived.Test.YtapkgncmjinedaaExModes
namespace Go.Proofs.Ytapkgncmjinedaa
open Go.RowKit Go.Sort
/-- The slots m, m + 1; m + 2, m + 3 .. -/
def marksS (m : Int) (n : Nat) : List Slt := (List.range n).map fun (i : Nat) => ⟨m + 2 * (i : Int), m + 2 * (i : Int) + 1⟩
theorem marksS_len (m : Int) (n : Nat) : (marksS m n).length = n := by simp [marksS]
theorem marksS_get {m : Int} {n k : Nat} (h : k < (marksS m n).length) : (marksS m n)[k] = ⟨m + 2 * (k : Int), m + 2 * (k : Int) + 1⟩ := by simp [marksS]
/-- Where the marks of row k begin. -/
def stT (us : List Tab) (m : Int) : Nat → Int
  | 0 => m
  | k + 1 => stT us m k + 2 * ((us.getD k ⟨none, 0, []⟩).slots.length : Int)
theorem stT_succ {us : List Tab} {m : Int} {k : Nat} (h : k < us.length) : stT us m (k + 1) = stT us m k + 2 * (us[k].slots.length : Int) := by
  show stT us m k + 2 * ((us.getD k ⟨none, 0, []⟩).slots.length : Int) = _
  rw [List.getD_eq_getElem?_getD, List.getElem?_eq_getElem h]; rfl
theorem stT_bd {us : List Tab} {m : Int} (hm : 0 ≤ m) (hl : ∀ t, t ∈ us → t.slots.length ≤ 1048576) : ∀ k, k ≤ us.length → 0 ≤ stT us m k ∧ stT us m k ≤ m + 2097152 * (k : Int)
  | 0, _ => ⟨hm, by show m ≤ _; omega⟩
  | k + 1, h => by
    have := stT_bd hm hl k (by omega)
    have := hl _ (List.getElem_mem (show k < us.length by omega))
    rw [stT_succ (by omega)]
    omega
theorem Own.keepBlk {α : Type} {E : Enc α} {e : TypeId} {w w' : World} {base n c : Nat} {A : Option Addr} {ys : List α} (h : Own E e w base (.slice A n c) ys) (hk : ∀ g, A = some ⟨g, 0, none⟩ → w'.heap[g]? = w.heap[g]?) : Own E e w' base (.slice A n c) ys := by
  rcases h with h | ⟨g, cap, cur, hv, hg, hh, h5⟩
  · exact .inl h
  · have hA : A = some ⟨g, 0, none⟩ := by injection hv
    exact .inr ⟨g, cap, cur, hv, hg, (hk g hA).trans hh, h5⟩
set_option maxRecDepth 100000 in
set_option maxHeartbeats 1600000 in
theorem callMarkSlotSX (A : Option Addr) (c : Nat) (xs : List Slt) (m : Int) (base hi : Nat) (w : World) (hm0 : 0 ≤ m) (hm : m ≤ 1000000000000000000) (hn : xs.length ≤ 1048576) (ho : Own eSlt 96 w base (.slice A xs.length c) xs) (hrd : Rd eSlt w hi A xs) :
    Calls Try.prog 103 #[.slice A xs.length c, .int .i64 m] w fun e w' => e = .returned (.int .i64 (m + 2 * xs.length)) ∧ Mk base hi w w' ∧ Own eSlt 96 w' base (.slice A xs.length c) (marksS m xs.length) ∧ ∀ k, (xs ≠ [] → A ≠ some ⟨k, 0, none⟩) → w'.heap[k]? = w.heap[k]? := by
  have HO0 := Lib.hid ho
  have HLN := Lib.hid (marksS_len m xs.length)
  have HAA : Hid (0 < xs.length → ∃ b, A = some ⟨b, 0, none⟩ ∧ base ≤ b ∧ b < hi) := fun h => by
    obtain ⟨b, h1, h2, h3, _⟩ := ho.wr h
    obtain ⟨b', off, h4, h5, _⟩ := hrd (fun e => by simp [e] at h)
    rw [h1] at h4
    simp only [Option.some.injEq, Addr.mk.injEq] at h4
    exact ⟨b, h1, h2, by omega⟩
  have HF0 : Hid (Fil 0 xs (marksS m xs.length)) := ⟨(marksS_len m xs.length).symm, fun i _ _ h => by omega⟩
  clear ho hrd
  go_enter Try.func103, Try.ntmps103
  go_wp2
  go_loopw [1, 5] (fun s i wr => ∃ (k : Nat) (ys : List Slt), k ≤ xs.length ∧ i = .int .i64 k ∧ s = .int .i64 (m + 2 * k) ∧ Hid (Mk base hi w wr) ∧ Hid (Own eSlt 96 wr base (.slice A xs.length c) ys) ∧ Hid (Fil k ys (marksS m xs.length)) ∧ Hid (∀ k, (xs ≠ [] → A ≠ some ⟨k, 0, none⟩) → wr.heap[k]? = w.heap[k]?)) (fun _ i _ => xs.length - (intOf i).toNat)
  case atStart => exact ⟨0, xs, by omega, rfl, by simp, Mk.refl _ _ _, HO0.out, HF0.out, fun _ _ => rfl⟩
  case round =>
    clear HO0 HF0
    obtain ⟨k, ys, hk, rfl, rfl, HM, HO, HF, HX⟩ := hrel
    by_cases hlt : k < xs.length
    · have hd : decide ((k : Int) < (xs.length : Int)) = true := decide_eq_true (by omega)
      obtain ⟨b, rfl, hb1, hb2⟩ := HAA.out (by omega)
      have hlm : k < (marksS m xs.length).length := by have := HLN.out; omega
      have hku : k < ys.length := by have := HF.out.1; omega
      obtain ⟨_, hb6, hwr⟩ := HO.out.cellsAt hku
      obtain ⟨⟨c0, hc0⟩, hf0⟩ := hwr 0 (by decide)
      obtain ⟨⟨c1, hc1⟩, hf1⟩ := hwr 1 (by decide)
      simp only [Nat.add_zero] at hc0 hf0 hc1 hf1
      have HO6 := Lib.hid (HO.out.set2 rfl (List.getElem?_eq_getElem hku) (x1 := (⟨m + 2 * (k : Int), ys[k].ticks⟩ : Slt)) (y := (⟨m + 2 * (k : Int), m + 2 * (k : Int) + 1⟩ : Slt)) (u := .int .i64 (m + 2 * (k : Int))) (v := .int .i64 (m + 2 * (k : Int) + 1)) rfl rfl)
      have HF6 := Lib.hid (HF.out.step hlm)
      rw [marksS_get hlm] at HF6
      have e1 : IntKind.i64.wrap (m + 2 * (k : Int) + 1) = m + 2 * (k : Int) + 1 := IntWalk.i64_in _ (by omega)
      have e2 : IntKind.i64.wrap (m + 2 * (k : Int) + 1 + 1) = m + 2 * (k : Int) + 2 := by rw [IntWalk.i64_in _ (by omega)]; omega
      have e3 : IntKind.i64.wrap (m + 2 * (k : Int) + 2) = m + 2 * (k : Int) + 2 := IntWalk.i64_in _ (by omega)
      have HM6 := Lib.hid ((HM.out.set (g := b) (o := k * 2) hb1 hb2 (.int .i64 (m + 2 * (k : Int)))).set (g := b) (o := k * 2 + 1) hb1 hb2 (.int .i64 (m + 2 * (k : Int) + 1)))
      have HX6 : Hid (∀ j, (xs ≠ [] → some (⟨b, 0, none⟩ : Addr) ≠ some ⟨j, 0, none⟩) → ((wr.setCell ⟨b, k * 2, none⟩ (.int .i64 (m + 2 * (k : Int)))).setCell ⟨b, k * 2 + 1, none⟩ (.int .i64 (m + 2 * (k : Int) + 1))).heap[j]? = w.heap[j]?) := fun j hj => by
        have hne : xs ≠ [] := by intro e; simp [e] at hlt
        have hjb : j ≠ b := fun e => hj hne (by rw [e])
        rw [Below.heap_setCell _ ⟨b, k * 2 + 1, none⟩ _ j hjb, Below.heap_setCell _ ⟨b, k * 2, none⟩ _ j hjb]
        exact HX.out j hj
      clear hwr
      go_wp2
      go_roundw
      case rel => exact ⟨k + 1, ys.set k ⟨m + 2 * (k : Int), m + 2 * (k : Int) + 1⟩, by omega, by go_num, by simp; omega, HM6.out, HO6.out, HF6.out, HX6.out⟩
      case measure => simp [intOf]; omega
    · have hke : k = xs.length := by omega
      have hd : decide ((k : Int) < (xs.length : Int)) = false := decide_eq_false (by omega)
      have HE := Lib.hid (HF.out.done (by have := HLN.out; omega))
      subst hke
      go_wp2
      go_ret
      have h := HO.out
      rw [HE.out] at h
      exact ⟨rfl, HM.out, h, HX.out⟩
set_option maxRecDepth 100000 in
set_option maxHeartbeats 1600000 in
theorem callHeldSlotS (A : Option Addr) (c n : Nat) (m : Int) (w : World) (B : Nat) (hB : B ≤ w.heap.size) (hm0 : 0 ≤ m) (hm : m ≤ 1000000000000000000) (hn : n ≤ 1048576) (hr : Rd eSlt w B A (marksS m n)) :
    Calls Try.prog 104 #[.slice A n c, .int .i64 m] w fun e w' => e = .returned (.int .i64 (m + 2 * n)) ∧ Below w.heap.size w w' := by
  have HR := Lib.hid hr
  have HLN := Lib.hid (marksS_len m n)
  clear hr
  go_enter Try.func104, Try.ntmps104
  go_wp2
  go_loopw [1, 5] (fun s i wr => ∃ (k : Nat), k ≤ n ∧ i = .int .i64 k ∧ s = .int .i64 (m + 2 * k) ∧ Hid (Below w.heap.size w wr)) (fun _ i _ => n - (intOf i).toNat)
  case atStart => exact ⟨0, by omega, rfl, by simp, Below.refl _ _⟩
  case round =>
    obtain ⟨k, hk, rfl, rfl, HB⟩ := hrel
    by_cases hlt : k < n
    · have hd : decide ((k : Int) < (n : Int)) = true := decide_eq_true (by omega)
      have hlm : k < (marksS m n).length := by have := HLN.out; omega
      obtain ⟨b, off, rfl, hbB, h1, h2⟩ := (HR.out.below (HB.out.mono hB)).at2 rfl hlm rfl
      rw [marksS_get hlm] at h1 h2
      simp only at h1 h2
      have e1 : IntKind.i64.wrap (m + 2 * (k : Int) + 1) = m + 2 * (k : Int) + 1 := IntWalk.i64_in _ (by omega)
      have e2 : IntKind.i64.wrap (m + 2 * (k : Int) + 1 + 1) = m + 2 * (k : Int) + 2 := by rw [IntWalk.i64_in _ (by omega)]; omega
      have e3 : IntKind.i64.wrap (m + 2 * (k : Int) + 2) = m + 2 * (k : Int) + 2 := IntWalk.i64_in _ (by omega)
      have e4 : ((m + 2 * (k : Int)) != (m + 2 * (k : Int))) = false := by simp
      have e5 : ((m + 2 * (k : Int) + 1) != (m + 2 * (k : Int) + 1)) = false := by simp
      go_wp2
      go_roundw
      case rel => exact ⟨k + 1, by omega, by go_num, by simp; omega, HB.out⟩
      case measure => simp [intOf]; omega
    · have hke : k = n := by omega
      have hd : decide ((k : Int) < (n : Int)) = false := decide_eq_false (by omega)
      subst hke
      go_wp2
      go_ret
      exact ⟨rfl, HB.out⟩
set_option maxRecDepth 100000 in
set_option maxHeartbeats 1600000 in
/-- Marking whatever may be written. -/
theorem callMarkSlotSSW (b0 c : Nat) (us : List Tab) (m : Int) (hi : Nat) (w : World) (hm0 : 0 ≤ m) (hm : m ≤ 10) (hn : us.length ≤ 1048576) (hrow : 0 < us.length → ∀ i (h : i < us.length), w.cell? ⟨b0, i, none⟩ = some (.slice us[i].A us[i].slots.length us[i].c))
    (hws : ∀ q, q ∈ us → Wr 2 w (b0 + 1) hi q.A q.slots.length ∧ q.slots.length ≤ 1048576) :
    Calls Try.prog 84 #[.slice (some ⟨b0, 0, none⟩) us.length c, .int .i64 m] w fun e w' => ∃ r, e = .returned (.int .i64 r) ∧ 0 ≤ r ∧ Mk (b0 + 1) hi w w' := by
  have HROW := Lib.hid hrow
  have HWS := Lib.hid hws
  clear hrow hws
  go_enter Try.func84, Try.ntmps84
  go_wp2
  go_loopw [1, 5] (fun s i wr => ∃ (k : Nat) (r : Int), k ≤ us.length ∧ i = .int .i64 k ∧ s = .int .i64 r ∧ 0 ≤ r ∧ r ≤ 10 + 4000000 * (k : Int) ∧ Hid (Mk (b0 + 1) hi w wr)) (fun _ i _ => us.length - (intOf i).toNat)
  case atStart => exact ⟨0, m, by omega, rfl, rfl, hm0, by omega, Mk.refl _ _ _⟩
  case round =>
    obtain ⟨k, r, hk, rfl, rfl, hr0, hr1, HM⟩ := hrel
    by_cases hlt : k < us.length
    · have hd : decide ((k : Int) < (us.length : Int)) = true := decide_eq_true (by omega)
      have h0 : wr.cell? ⟨b0, k, none⟩ = some (.slice us[k].A us[k].slots.length us[k].c) := ((HM.out.below (Nat.le_refl _)).cell (p := ⟨b0, k, none⟩) (by show b0 < b0 + 1; omega)).trans (HROW.out (by omega) k hlt)
      have hq := HWS.out _ (List.getElem_mem hlt)
      have HQ := Lib.hid (hq.1.mk HM.out)
      have hq2 := hq.2
      obtain ⟨n, hn'⟩ : ∃ n, n = us[k].slots.length := ⟨_, rfl⟩
      rw [← hn'] at h0 HQ hq2
      clear hq hn'
      go_wp2_with fail
      refine (callMarkSlotS us[k].A n us[k].c r (b0 + 1) hi wr hr0 (by omega) hq2 HQ.out).mono ?_
      rintro e w5 ⟨rfl, hm5⟩
      have HM5 := Lib.hid (HM.out.trans hm5)
      obtain ⟨r2, hr2⟩ : ∃ r2, r2 = r + 2 * (n : Int) := ⟨_, rfl⟩
      rw [← hr2]
      have hr3 : 0 ≤ r2 ∧ r2 ≤ 10 + 4000000 * ((k : Int) + 1) := by omega
      clear hm5 hr2 HQ h0
      go_wp2
      go_roundw
      case rel => exact ⟨k + 1, r2, by omega, by go_num, rfl, hr3.1, by have := hr3.2; omega, HM5.out⟩
      case measure => simp [intOf]; omega
    · have hke : k = us.length := by omega
      have hd : decide ((k : Int) < (us.length : Int)) = false := decide_eq_false (by omega)
      subst hke
      go_wp2
      go_ret
      exact ⟨r, rfl, hr0, HM.out⟩
theorem callMarkModesW (b0 c : Nat) (us : List Tab) (now next m : Int) (hi : Nat) (w : World) (hh : hi ≤ w.heap.size) (hm0 : 0 ≤ m) (hm : m ≤ 10) (hn : us.length ≤ 1048576) (hrow : 0 < us.length → b0 < w.heap.size ∧ ∀ i (h : i < us.length), w.cell? ⟨b0, i, none⟩ = some (.slice us[i].A us[i].slots.length us[i].c))
    (hws : ∀ q, q ∈ us → Wr 2 w (b0 + 1) hi q.A q.slots.length ∧ q.slots.length ≤ 1048576) :
    Calls Try.prog 47 #[.agg #[.slice (some ⟨b0, 0, none⟩) us.length c, .int .i64 now, .int .i64 next], .int .i64 m] w fun e w' => ∃ r, e = .returned (.int .i64 r) ∧ 0 ≤ r ∧ ∃ u, Below w.heap.size w u ∧ Mk (b0 + 1) hi u w' := by
  have HV := Lib.hid (below1 w (.cells #[.slice (some ⟨b0, 0, none⟩) us.length c, .int .i64 now, .int .i64 next] 25))
  have K0 := heap_alloc_new w (.cells #[.slice (some ⟨b0, 0, none⟩) us.length c, .int .i64 now, .int .i64 next] 25)
  obtain ⟨p0, p1, p2, _, _, _, _⟩ := cell3 K0
  have HC := Lib.hid (callMarkSlotSSW b0 c us m hi (w.alloc (.cells #[.slice (some ⟨b0, 0, none⟩) us.length c, .int .i64 now, .int .i64 next] 25)) hm0 hm hn
    (fun h i hi => (HV.out.cell (p := ⟨b0, i, none⟩) (hrow h).1).trans ((hrow h).2 i hi)) (fun q hq => ⟨(hws q hq).1.below HV.out hh, (hws q hq).2⟩))
  clear K0 hrow hws
  go_enter Try.func47, Try.ntmps47
  go_wp2_with fail
  refine HC.out.mono ?_
  rintro e w1 ⟨r, rfl, hr0, hmk⟩
  have HM := Lib.hid hmk
  clear hmk HC
  go_wp2
  go_ret
  exact ⟨r, rfl, hr0, _, HV.out, HM.out⟩
set_option maxRecDepth 100000 in
set_option maxHeartbeats 3200000 in
/-- Marking rows that lie apart. -/
theorem callMarkSlotSSX (A : Option Addr) (c : Nat) (us : List Tab) (m : Int) (base hi : Nat) (w : World) (hm0 : 0 ≤ m) (hm : m ≤ 10) (hn : us.length ≤ 1048576) (ho : OwnT w base (.slice A us.length c) us) (hsep : Sep us us.length) (hrd : RdT w hi A us) :
    Calls Try.prog 84 #[.slice A us.length c, .int .i64 m] w fun e w' => e = .returned (.int .i64 (stT us m us.length)) ∧ Mk base hi w w' ∧ Own eTab 33 w' base (.slice A us.length c) us ∧ ∀ i (h : i < us.length), Own eSlt 96 w' base (.slice us[i].A us[i].slots.length us[i].c) (marksS (stT us m i) us[i].slots.length) := by
  have HO := Lib.hid ho
  have HSEP := Lib.hid hsep
  have HRD := Lib.hid hrd
  have HL : Hid (∀ t, t ∈ us → t.slots.length ≤ 1048576) := fun t ht => by have := (ho.2 t ht).2; omega
  have HBD := Lib.hid (stT_bd (us := us) hm0 HL.out)
  have H0 : Hid (stT us m 0 = m) := rfl
  have HFORM : Hid (∀ k (h : k < us.length), us[k].slots ≠ [] → ∃ b cur, us[k].A = some ⟨b, 0, none⟩ ∧ w.heap[b]? = some (.cells cur 96 (0, 0))) := fun k h hne => by
    have hq := (ho.2 _ (List.getElem_mem h)).1
    obtain ⟨A', c', hv, _, hA⟩ := hq.form
    injection hv with hv
    obtain ⟨b, hb, _, _⟩ := hA hne
    rw [hv, hb] at hq
    exact ⟨b, _, hv.trans hb, (hq.blk hne).2.choose_spec⟩
  clear ho hsep hrd
  go_enter Try.func84, Try.ntmps84
  go_wp2
  go_loopw [1, 5] (fun s i wr => ∃ (k : Nat), k ≤ us.length ∧ i = .int .i64 k ∧ s = .int .i64 (stT us m k) ∧ Hid (Mk base hi w wr) ∧ Hid (Own eTab 33 wr base (.slice A us.length c) us) ∧ Hid (∀ i (h : i < us.length), Own eSlt 96 wr base (.slice us[i].A us[i].slots.length us[i].c) (if i < k then marksS (stT us m i) us[i].slots.length else us[i].slots)) ∧ Hid (∀ (j : Nat), (∃ (cur : Array Value), w.heap[j]? = some (.cells cur 33 (0, 0))) → wr.heap[j]? = w.heap[j]?)) (fun _ i _ => us.length - (intOf i).toNat)
  case atStart => exact ⟨0, by omega, rfl, by rw [H0.out], Mk.refl _ _ _, HO.out.1, fun i h => by rw [if_neg (by omega)]; exact (HO.out.2 _ (List.getElem_mem h)).1, fun _ _ => rfl⟩
  case round =>
    obtain ⟨k, hk, rfl, rfl, HM, HOR, HROWS, HTY⟩ := hrel
    by_cases hlt : k < us.length
    · have hd : decide ((k : Int) < (us.length : Int)) = true := decide_eq_true (by omega)
      obtain ⟨b, off, rfl, hbB, h1⟩ := HOR.out.rdN.at1 rfl hlt rfl
      obtain ⟨st, hst⟩ : ∃ st, st = stT us m k := ⟨_, rfl⟩
      have hsb := HBD.out k hk
      have HST := Lib.hid hst
      have HS1 := Lib.hid (stT_succ (m := m) hlt)
      rw [← hst] at hsb ⊢
      have hbk := HL.out _ (List.getElem_mem hlt)
      have hown := HROWS.out k hlt
      rw [if_neg (by omega)] at hown
      have hrdk : Rd eSlt wr hi us[k].A us[k].slots := by
        intro hne
        obtain ⟨b', off', hA, hlt', hcell⟩ := (HRD.out.2 _ (List.getElem_mem hlt)).1 hne
        obtain ⟨b'', off'', hA2, _, hcell2⟩ := hown.rdN hne
        rw [hA] at hA2
        simp only [Option.some.injEq, Addr.mk.injEq, and_true] at hA2
        obtain ⟨rfl, rfl⟩ := hA2
        exact ⟨b', off', hA, hlt', hcell2⟩
      have HCALL := Lib.hid (callMarkSlotSX us[k].A us[k].c us[k].slots st base hi wr hsb.1 (by omega) hbk hown hrdk)
      clear hst hown hrdk
      go_wp2_with fail
      refine HCALL.out.mono ?_
      rintro e w5 ⟨rfl, hmk, hom, hkb⟩
      have HM5 := Lib.hid (HM.out.trans hmk)
      have hty5 : ∀ (j : Nat), (∃ (cur : Array Value), w.heap[j]? = some (.cells cur 33 (0, 0))) → w5.heap[j]? = wr.heap[j]? := fun j hj => hkb j fun hne e => by
        obtain ⟨b1, cur1, hA1, hb1⟩ := HFORM.out k hlt hne
        rw [hA1] at e
        simp only [Option.some.injEq, Addr.mk.injEq, and_true] at e
        subst e
        obtain ⟨cur2, hb2⟩ := hj
        rw [hb1] at hb2
        injection hb2 with hb2
        injection hb2 with _ hb2
        exact absurd hb2 (by decide)
      have HTY5 : Hid (∀ (j : Nat), (∃ (cur : Array Value), w.heap[j]? = some (.cells cur 33 (0, 0))) → w5.heap[j]? = w.heap[j]?) := fun j hj => (hty5 j hj).trans (HTY.out j hj)
      have HOR5 : Hid (Own eTab 33 w5 base (.slice (some ⟨b, off, none⟩) us.length c) us) := HOR.out.keepBlk fun g hg => hty5 g (by
        have hne : us ≠ [] := by intro e; simp [e] at hlt
        have ho1 := HO.out.1
        rw [hg] at ho1
        exact (ho1.blk hne).2)
      have HROWS5 : Hid (∀ i (h : i < us.length), Own eSlt 96 w5 base (.slice us[i].A us[i].slots.length us[i].c) (if i < k + 1 then marksS (stT us m i) us[i].slots.length else us[i].slots)) := fun i h => by
        by_cases e : i = k
        · subst e
          rw [if_pos (by omega), ← HST.out]
          exact hom
        · have hold := HROWS.out i h
          rw [show (if i < k + 1 then marksS (stT us m i) us[i].slots.length else us[i].slots) = (if i < k then marksS (stT us m i) us[i].slots.length else us[i].slots) from by
            by_cases h2 : i < k
            · rw [if_pos h2, if_pos (by omega)]
            · rw [if_neg h2, if_neg (by omega)]]
          refine hold.keepBlk fun g hg => hkb g fun _ hg2 => ?_
          rcases Nat.lt_or_ge i k with h2 | h2
          · exact HSEP.out i k h hlt h2 hlt g hg hg2
          · exact HSEP.out k i hlt h (by omega) h g hg2 hg
      clear hmk hom hkb hty5 HCALL h1 hbB
      rw [← HST.out] at HS1
      go_wp2
      go_roundw
      case rel => exact ⟨k + 1, by omega, by go_num, by rw [HS1.out], HM5.out, HOR5.out, HROWS5.out, HTY5.out⟩
      case measure => simp [intOf]; omega
    · have hke : k = us.length := by omega
      have hd : decide ((k : Int) < (us.length : Int)) = false := decide_eq_false (by omega)
      subst hke
      go_wp2
      go_ret
      refine ⟨rfl, HM.out, HOR.out, fun i h => ?_⟩
      have := HROWS.out i h
      rw [if_pos h] at this
      exact this
theorem callMarkModesX (A : Option Addr) (c : Nat) (us : List Tab) (now next m : Int) (base hi : Nat) (w : World) (hh : hi ≤ w.heap.size) (hm0 : 0 ≤ m) (hm : m ≤ 10) (hn : us.length ≤ 1048576) (ho : OwnT w base (.slice A us.length c) us) (hsep : Sep us us.length) (hrd : RdT w hi A us) :
    Calls Try.prog 47 #[.agg #[.slice A us.length c, .int .i64 now, .int .i64 next], .int .i64 m] w fun e w' => e = .returned (.int .i64 (stT us m us.length)) ∧ (∃ u, Below w.heap.size w u ∧ Mk base hi u w') ∧ Own eTab 33 w' base (.slice A us.length c) us ∧ ∀ i (h : i < us.length), Own eSlt 96 w' base (.slice us[i].A us[i].slots.length us[i].c) (marksS (stT us m i) us[i].slots.length) := by
  have HV := Lib.hid (below1 w (.cells #[.slice A us.length c, .int .i64 now, .int .i64 next] 25))
  have K0 := heap_alloc_new w (.cells #[.slice A us.length c, .int .i64 now, .int .i64 next] 25)
  obtain ⟨p0, p1, p2, _, _, _, _⟩ := cell3 K0
  have HC := Lib.hid (callMarkSlotSSX A c us m base hi (w.alloc (.cells #[.slice A us.length c, .int .i64 now, .int .i64 next] 25)) hm0 hm hn (ho.alloc _) hsep (hrd.below (HV.out.mono hh)))
  clear K0 ho hrd
  go_enter Try.func47, Try.ntmps47
  go_wp2_with fail
  refine HC.out.mono ?_
  rintro e w1 ⟨rfl, hmk, ho1, hr1⟩
  have HM := Lib.hid hmk
  have HO1 := Lib.hid ho1
  have HR1 := Lib.hid hr1
  clear hmk HC ho1 hr1
  go_wp2
  go_ret
  exact ⟨rfl, ⟨_, HV.out, HM.out⟩, HO1.out, HR1.out⟩
set_option maxRecDepth 100000 in
set_option maxHeartbeats 1600000 in
theorem callHeldSlotSS (A : Option Addr) (c : Nat) (us : List Tab) (m : Int) (w : World) (B : Nat) (hB : B ≤ w.heap.size) (hm0 : 0 ≤ m) (hm : m ≤ 10) (hn : us.length ≤ 1048576) (hl : ∀ t, t ∈ us → t.slots.length ≤ 1048576) (hr : Rd eTab w B A us) (hrows : ∀ i (h : i < us.length), Rd eSlt w B us[i].A (marksS (stT us m i) us[i].slots.length)) :
    Calls Try.prog 85 #[.slice A us.length c, .int .i64 m] w fun e w' => e = .returned (.int .i64 (stT us m us.length)) ∧ Below w.heap.size w w' := by
  have HR := Lib.hid hr
  have HRW := Lib.hid hrows
  have HL := Lib.hid hl
  have HBD := Lib.hid (stT_bd (us := us) hm0 hl)
  have H0 : Hid (stT us m 0 = m) := rfl
  clear hr hrows hl
  go_enter Try.func85, Try.ntmps85
  go_wp2
  go_loopw [1, 5] (fun s i wr => ∃ (k : Nat), k ≤ us.length ∧ i = .int .i64 k ∧ s = .int .i64 (stT us m k) ∧ Hid (Below w.heap.size w wr)) (fun _ i _ => us.length - (intOf i).toNat)
  case atStart => exact ⟨0, by omega, rfl, by rw [H0.out], Below.refl _ _⟩
  case round =>
    obtain ⟨k, hk, rfl, rfl, HB⟩ := hrel
    by_cases hlt : k < us.length
    · have hd : decide ((k : Int) < (us.length : Int)) = true := decide_eq_true (by omega)
      obtain ⟨b, off, rfl, hbB, h1⟩ := (HR.out.below (HB.out.mono hB)).at1 rfl hlt rfl
      obtain ⟨st, hst⟩ : ∃ st, st = stT us m k := ⟨_, rfl⟩
      have hsb := HBD.out k hk
      have HS1 := Lib.hid (stT_succ (m := m) hlt)
      have HC := callHeldSlotS us[k].A us[k].c us[k].slots.length (stT us m k) wr B (Nat.le_trans hB HB.out.size) hsb.1 (by omega) (HL.out _ (List.getElem_mem hlt)) ((HRW.out k hlt).below (HB.out.mono hB))
      rw [← hst] at hsb HC HS1 ⊢
      have HCC := Lib.hid HC
      have hbk := HL.out _ (List.getElem_mem hlt)
      have hd2 : decide (st + 2 * (us[k].slots.length : Int) < 0) = false := decide_eq_false (by omega)
      clear hst HC
      go_wp2_with fail
      refine HCC.out.mono ?_
      rintro e w5 ⟨rfl, hb5⟩
      have HB5 := Lib.hid (HB.out.trans (hb5.mono HB.out.size))
      clear hb5 HCC h1 hbB
      go_wp2
      go_roundw
      case rel => exact ⟨k + 1, by omega, by go_num, by rw [HS1.out], HB5.out⟩
      case measure => simp [intOf]; omega
    · have hke : k = us.length := by omega
      have hd : decide ((k : Int) < (us.length : Int)) = false := decide_eq_false (by omega)
      subst hke
      go_wp2
      go_ret
      exact ⟨rfl, HB.out⟩
theorem callHeldModes (A : Option Addr) (c : Nat) (us : List Tab) (now next m : Int) (w : World) (B : Nat) (hB : B ≤ w.heap.size) (hm0 : 0 ≤ m) (hm : m ≤ 10) (hn : us.length ≤ 1048576) (hl : ∀ t, t ∈ us → t.slots.length ≤ 1048576) (hr : Rd eTab w B A us) (hrows : ∀ i (h : i < us.length), Rd eSlt w B us[i].A (marksS (stT us m i) us[i].slots.length)) :
    Calls Try.prog 48 #[.agg #[.slice A us.length c, .int .i64 now, .int .i64 next], .int .i64 m] w fun e w' => e = .returned (.int .i64 (stT us m us.length)) ∧ Below w.heap.size w w' := by
  have HV := Lib.hid (below1 w (.cells #[.slice A us.length c, .int .i64 now, .int .i64 next] 25))
  have K0 := heap_alloc_new w (.cells #[.slice A us.length c, .int .i64 now, .int .i64 next] 25)
  obtain ⟨p0, p1, p2, _, _, _, _⟩ := cell3 K0
  have hbd := (stT_bd (us := us) hm0 hl us.length (Nat.le_refl _)).1
  have HC := Lib.hid (callHeldSlotSS A c us m (w.alloc (.cells #[.slice A us.length c, .int .i64 now, .int .i64 next] 25)) B (Nat.le_trans hB HV.out.size) hm0 hm hn hl (hr.below (HV.out.mono hB)) (fun i h => (hrows i h).below (HV.out.mono hB)))
  obtain ⟨st, hst⟩ : ∃ st, st = stT us m us.length := ⟨_, rfl⟩
  rw [← hst] at hbd HC ⊢
  have hd : decide (st < 0) = false := decide_eq_false (by omega)
  clear K0 hr hrows hst
  go_enter Try.func48, Try.ntmps48
  go_wp2_with fail
  refine HC.out.mono ?_
  rintro e w1 ⟨rfl, hb1⟩
  have HB1 := Lib.hid (bel_trans HV.out hb1)
  clear hb1 HC
  go_wp2
  go_ret
  exact ⟨rfl, HB1.out⟩
end Go.Proofs.Ytapkgncmjinedaa
