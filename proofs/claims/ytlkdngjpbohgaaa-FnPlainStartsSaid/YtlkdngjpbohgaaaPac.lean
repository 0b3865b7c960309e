/- The functions of padding of the program, for every input. -/
import Derived.Test.YtlkdngjpbohgaaaWin
import Derived.Test.YtlkdngjpbohgaaaLib
import Derived.Test.YtlkdngjpbohgaaaIdx
import Derived.Test.YtlkdngjpbohgaaaBox
import Derived.Test.YtlkdngjpbohgaaaPad
import Derived.Deep.QuietTactic
import Derived.Deep.DeepCutAuto
namespace Go.Proofs.Ytlkdngjpbohgaaa
open Go.RowKit Go.Sort

theorem fill_set {α : Type} {xs : List α} {z y : α} {k n : Nat} (hn : xs.length = n) (hk : k < n) (hy : xs[k]? = some y) : (xs.take k ++ List.replicate (n - k) z).set k y = xs.take (k + 1) ++ List.replicate (n - (k + 1)) z := by
  have hkl : k < xs.length := by omega
  have hy2 : xs[k] = y := by rw [List.getElem?_eq_getElem hkl] at hy; injection hy
  have hl : (xs.take k).length = k := by rw [List.length_take]; omega
  have hr : List.replicate (n - k) z = z :: List.replicate (n - (k + 1)) z := by
    rw [show n - k = (n - (k + 1)) + 1 by omega]; rfl
  rw [List.set_append_right _ _ (by omega), hl, Nat.sub_self, hr, List.set_cons_zero, List.take_succ_eq_append_getElem hkl, hy2, List.append_assoc]
  rfl
theorem fill_get {α : Type} {xs : List α} {z : α} {k n : Nat} (hn : xs.length = n) (hk : k < n) : (xs.take k ++ List.replicate (n - k) z)[k]? = some z := by
  have hl : (xs.take k).length = k := by rw [List.length_take]; omega
  rw [List.getElem?_append_right (by omega), hl, Nat.sub_self, List.getElem?_replicate, if_pos (by omega)]
theorem fill_len {α : Type} {xs : List α} {z : α} {k n : Nat} (hn : xs.length = n) (hk : k ≤ n) : (xs.take k ++ List.replicate (n - k) z).length = n := by
  rw [List.length_append, List.length_take, List.length_replicate]; omega

theorem callTimeBad (n : Int) (w : World) : Calls Try.prog 83 #[.int .i64 n] w fun e w' => e = .returned (.bool (!tmOk n)) ∧ Below w.heap.size w w' := by
  have E : Hid (tmOk n = inB n 1 20) := rfl
  go_enter Try.func83, Try.ntmps83
  go_wp2_with (go_at_call 61; refine (callIn _ _ _ _).mono ?_; rintro e w' ⟨rfl, rfl⟩)
  go_ret
  exact ⟨by rw [E.out] <;> rfl, Below.refl _ _⟩
theorem egTimeBad : ∀ (args : Array Value) (w : World), (callFunc 83 args).run Try.prog w = .ok (.enter 83 args) w := enters_fn Try.func83 (by kernel_rfl) rfl
theorem callPadded (A : Option Addr) (c : Nat) (ts : List Int) (w : World) (B : Nat) (hB : B ≤ w.heap.size) (hm : ts.length ≤ 1048576) (hr : Rd eInt w B A ts) :
    Calls Try.prog 67 #[.slice A ts.length c] w fun e w' => e = .returned (.bool (padOk ts)) ∧ Below w.heap.size w w' := by
  have hmf := run_makeFunc Try.prog
  have HC := Lib.hid (callContainsInt A c ts 83 #[] (fun x => !tmOk x) w B hB (by omega) hr egTimeBad (fun x _ w' _ => callTimeBad x w'))
  have E : Hid (padOk ts = (decide (ts.length ≤ 12) && !ts.any fun x => !tmOk x)) := by rw [not_any_not]; rfl
  clear hr
  generalize (ts.any fun x => !tmOk x) = q at *
  by_cases hl : ts.length ≤ 12
  all_goals
    go_enter Try.func67, Try.ntmps67
    go_wp2_with (go_at_call 49; refine HC.out.mono ?_; rintro e w1 ⟨rfl, hb1⟩)
    go_ret
    first | exact ⟨by rw [E.out]; simp [hl], hb1⟩ | exact ⟨by rw [E.out]; simp [hl], Below.refl _ _⟩
theorem callNeedBad (n : Int) (w : World) : Calls Try.prog 80 #[.int .i64 n] w fun e w' => e = .returned (.bool (!ndOk n)) ∧ Below w.heap.size w w' := by
  have E : Hid (ndOk n = decide (0 ≤ n)) := rfl
  by_cases h : n < 0
  all_goals
    go_enter Try.func80, Try.ntmps80
    go_wp2
    go_ret
    exact ⟨by rw [E.out] <;> simp [h] <;> omega, Below.refl _ _⟩
theorem egNeedBad : ∀ (args : Array Value) (w : World), (callFunc 80 args).run Try.prog w = .ok (.enter 80 args) w := enters_fn Try.func80 (by kernel_rfl) rfl
set_option maxHeartbeats 800000 in
theorem callNeeded (A A' : Option Addr) (c c' : Nat) (ts ns : List Int) (w : World) (B : Nat) (hB : B ≤ w.heap.size) (hm : ts.length ≤ 1048576) (hm' : ns.length ≤ 1048576) (hr : Rd eInt w B A ts) (hr' : Rd eInt w B A' ns) :
    Calls Try.prog 63 #[.slice A ts.length c, .slice A' ns.length c'] w fun e w' => e = .returned (.bool (needOk ts ns)) ∧ Below w.heap.size w w' := by
  have hmf := run_makeFunc Try.prog
  have HC := fun (W : World) (hW : Below w.heap.size w W) => Lib.hid (callContainsInt A' c' ns 80 #[] (fun x => !ndOk x) W B (Nat.le_trans hB hW.size) (by omega) (hr'.below (hW.mono hB)) egNeedBad (fun x _ w' _ => callNeedBad x w'))
  have E : Hid (needOk ts ns = ((padOk ts && decide (ns.length = ts.length)) && !ns.any fun x => !ndOk x)) := by rw [not_any_not]; rfl
  generalize (ns.any fun x => !ndOk x) = q at *
  have HP := Lib.hid (callPadded A c ts w B hB hm hr)
  obtain ⟨v, hv⟩ : ∃ v, v = padOk ts := ⟨_, rfl⟩
  rw [← hv] at HP E
  clear hr hr' hv
  cases v
  · go_enter Try.func63, Try.ntmps63
    go_wp2_with fail
    refine HP.out.mono ?_
    rintro e w1 ⟨rfl, hb1⟩
    go_wp2
    go_ret
    exact ⟨by rw [E.out] <;> rfl, hb1⟩
  · by_cases hl : ns.length = ts.length
    · have hd : ((ns.length : Int) == (ts.length : Int)) = true := by rw [beq_iff_eq]; omega
      rw [decide_eq_true hl] at E
      clear hl
      go_enter Try.func63, Try.ntmps63
      go_wp2_with fail
      refine HP.out.mono ?_
      rintro e w1 ⟨rfl, hb1⟩
      have HB1 := Lib.hid hb1
      clear hb1
      go_wp2_with fail
      refine (HC _ HB1.out).out.mono ?_
      rintro e w2 ⟨rfl, hb2⟩
      go_wp2
      go_ret
      exact ⟨by rw [E.out] <;> simp, bel_trans HB1.out hb2⟩
    · have hd : ((ns.length : Int) == (ts.length : Int)) = false := by rw [beq_eq_false_iff_ne]; omega
      rw [decide_eq_false hl] at E
      go_enter Try.func63, Try.ntmps63
      go_wp2_with fail
      refine HP.out.mono ?_
      rintro e w1 ⟨rfl, hb1⟩
      go_wp2
      go_ret
      exact ⟨by rw [E.out, Bool.and_false, Bool.false_and] <;> rfl, hb1⟩

set_option maxHeartbeats 800000 in
theorem callSum (A : Option Addr) (c : Nat) (xs : List Int) (w : World) (B : Nat) (hB : B ≤ w.heap.size) (hm : xs.length ≤ 1000) (hb : ∀ x ∈ xs, 0 ≤ x ∧ x ≤ 20) (hr : Rd eInt w B A xs) :
    Calls Try.prog 81 #[.slice A xs.length c] w fun e w' => e = .returned (.int .i64 (padSum xs)) ∧ Below w.heap.size w w' := by
  have HR := Lib.hid hr
  have HB := Lib.hid (padSum_bd hb)
  have HX := Lib.hid hb
  clear hr hb
  go_enter Try.func81, Try.ntmps81
  go_wp2
  go_loopw [3, 8] (fun a i wr => ∃ k : Nat, k ≤ xs.length ∧ i = .int .i64 k ∧ a = .int .i64 (padSum (xs.take k)) ∧ wr = w) (fun _ i _ => xs.length - (intOf i).toNat)
  case atStart => exact ⟨0, by omega, rfl, rfl, rfl⟩
  case round =>
    obtain ⟨k, hk, rfl, rfl, rfl⟩ := hrel
    have hbd := HB.out k hk
    obtain ⟨s, hs⟩ : ∃ s, s = padSum (xs.take k) := ⟨_, rfl⟩
    rw [← hs] at hbd ⊢
    by_cases hlt : k < xs.length
    · have hd : decide ((k : Int) < xs.length) = true := decide_eq_true (by omega)
      obtain ⟨b, off, rfl, hbB, h1⟩ := HR.out.at1 rfl hlt rfl
      have HS : Hid (padSum (xs.take (k + 1)) = s + xs[k]) := by show _ = _; rw [padSum_take hlt, hs]
      have hx := HX.out _ (List.getElem_mem hlt)
      clear hs
      go_wp2
      go_roundw
      case rel => exact ⟨k + 1, by omega, by go_num, by rw [HS.out], (by first | trivial | rfl)⟩
      case measure => simp [intOf]; omega
    · have hke : k = xs.length := by omega
      subst hke
      have hd : decide ((xs.length : Int) < xs.length) = false := by simp
      rw [List.take_length] at hs
      have HS := Lib.hid hs
      clear hs
      go_wp2
      go_ret
      exact ⟨by rw [HS.out] <;> rfl, Below.refl _ _⟩

set_option maxRecDepth 100000 in
set_option maxHeartbeats 1600000 in
theorem callStarts (A : Option Addr) (c : Nat) (xs : List Int) (w : World) (B : Nat) (hB : B ≤ w.heap.size) (hc : xs.length ≤ c) (hm : xs.length ≤ 12) (hb : ∀ x ∈ xs, 0 ≤ x ∧ x ≤ 20) (hr : Rd eInt w B A xs) :
    Calls Try.prog 64 #[.slice A xs.length c] w fun e w' => ∃ A', e = .returned (.slice A' (padSt xs).length (padSt xs).length) ∧ Own eInt 3 w' w.heap.size (.slice A' (padSt xs).length (padSt xs).length) (padSt xs) ∧ Below w.heap.size w w' := by
  have HR := Lib.hid hr
  have HX := Lib.hid hb
  clear hr hb
  have HN := Lib.hid (padSt_len xs)
  obtain ⟨n, hn⟩ : ∃ n, n = xs.length := ⟨_, rfl⟩
  rw [← hn] at hm hc HN ⊢
  have hnn : n ≤ xs.length ∧ xs.length ≤ n := by omega
  clear hn
  go_enter Try.func64, Try.ntmps64
  go_wp2_with (at_make; refine wpList_mkE (E := eInt) _ Try.underlying23 (z := .int .i64 0) (m := 8) (by kernel_rfl) (by decide) (0 : Int) rfl rfl _ _ rfl w.heap.size n n n rfl rfl rfl rfl (by omega) (Nat.le_refl _) ?_; intro w1 hown1 hb1; have HO1 := Lib.hid hown1; have HB1 := Lib.hid hb1; clear hown1 hb1)
  go_loopw [10] (fun i wr => ∃ k : Nat, k ≤ n ∧ i = .int .i64 k ∧ Below w.heap.size w wr ∧ Hid (Own eInt 3 wr w.heap.size (.slice (some ⟨w.heap.size, 0, none⟩) n n) ((padSt xs).take k ++ List.replicate (n - k) 0))) (fun i _ => n - (intOf i).toNat)
  case atStart => exact ⟨0, by omega, rfl, HB1.out, by show Own _ _ _ _ _ _; simpa using HO1.out⟩
  case round =>
    obtain ⟨k, hk, rfl, hbl, HO⟩ := hrel
    have HB := Lib.hid hbl
    clear hbl HO1 HB1
    by_cases hlt : k < n
    · have hd : decide ((k : Int) < n) = true := decide_eq_true (by omega)
      have hkx : k < xs.length := by omega
      obtain ⟨b, off, rfl, hbB, h1⟩ := (HR.out.below (HB.out.mono hB)).at1 rfl hkx rfl
      have HG := Lib.hid (fill_get (z := (0 : Int)) HN.out hlt)
      have HL := Lib.hid (fill_len (z := (0 : Int)) (k := k) HN.out hk)
      have HP : Hid ((padSt xs)[k]? = some (padSum (xs.take k))) := by show _ = _; rw [List.getElem?_eq_getElem (by rw [HN.out]; exact hlt), padSt_get]
      obtain ⟨s, hs⟩ : ∃ s, s = padSum (xs.take k) := ⟨_, rfl⟩
      rw [← hs] at HP
      have C : Hid (Calls Try.prog 81 #[.slice (some ⟨b, off, none⟩) k c] wr fun e w' => e = .returned (.int .i64 s) ∧ Below wr.heap.size wr w') := by
        have := callSum (some ⟨b, off, none⟩) c (xs.take k) wr B (Nat.le_trans hB HB.out.size) (by rw [List.length_take]; omega) (fun x hx => HX.out x (List.mem_of_mem_take hx)) ((HR.out.below (HB.out.mono hB)).take k)
        rw [List.length_take, Nat.min_eq_left (by omega), ← hs] at this
        exact this
      clear hs h1
      have hi2 : (k : Int) ≤ (c : Int) := by omega
      go_wp2_with fail
      refine C.out.mono ?_
      rintro e w2 ⟨rfl, hb2⟩
      have HB2 := Lib.hid (bel_trans HB.out hb2)
      have HO2 := Lib.hid (HO.out.next hb2)
      clear hb2 C
      have hne : (padSt xs).take k ++ List.replicate (n - k) (0 : Int) ≠ [] := by intro e; have := HL.out; rw [e] at this; simp at this; omega
      obtain ⟨bb, oo, hA, _, h2⟩ := HO2.out.rd.at1 (k := k) rfl (by rw [HL.out]; exact hlt) rfl
      simp only [Option.some.injEq, Addr.mk.injEq, and_true] at hA
      obtain ⟨rfl, rfl⟩ := hA
      simp only [Nat.zero_add] at h2
      have hfz := HO2.out.frozen (o := k) hne
      have HS := Lib.hid (HO2.out.set (E := eInt) (i := k) (j := 0) (y := s) (u := .int .i64 s) HG.out (by decide) rfl)
      have HE := Lib.hid (fill_set (z := (0 : Int)) HN.out hlt HP.out)
      have hb3 : w.heap.size < w2.heap.size := by
        obtain ⟨_, cur, hcur⟩ := HO2.out.blk hne
        exact (Array.getElem?_eq_some_iff.1 hcur).1
      clear hne
      go_wp2_with fail
      go_roundw
      case rel => exact ⟨k + 1, by omega, by go_num, HB2.out.setCell (p := ⟨w.heap.size, k, none⟩) (Nat.le_refl _) _, by have := HS.out; rw [HE.out] at this; show Own _ _ _ _ _ _; simpa using this⟩
      case measure => simp [intOf]; omega
    · have hke : k = n := by omega
      subst hke
      have hd : decide ((k : Int) < k) = false := by simp
      go_wp2
      go_ret
      refine ⟨some ⟨w.heap.size, 0, none⟩, by rw [HN.out] <;> rfl, ?_, HB.out⟩
      have := HO.out
      rw [Nat.sub_self, List.replicate_zero, List.append_nil, List.take_of_length_le (by rw [HN.out]; exact Nat.le_refl _)] at this
      rw [HN.out]; exact this

theorem callPadStarts (A : Option Addr) (c : Nat) (ts : List Int) (w : World) (B : Nat) (hB : B ≤ w.heap.size) (hc : ts.length ≤ c) (hm : ts.length ≤ 1048576) (hr : Rd eInt w B A ts) :
    Calls Try.prog 29 #[.slice A ts.length c] w fun e w' => ∃ A' c', e = .returned (.slice A' (padStarts ts).length c') ∧ Own eInt 3 w' w.heap.size (.slice A' (padStarts ts).length c') (padStarts ts) ∧ (padStarts ts).length ≤ c' ∧ Below w.heap.size w w' := by
  have HP := Lib.hid (callPadded A c ts w B hB hm hr)
  have E : Hid (padStarts ts = if padOk ts then padSt ts else []) := rfl
  have HR := Lib.hid hr
  clear hr
  cases hp : padOk ts
  · rw [hp] at E HP
    have e : padStarts ts = [] := by rw [E.out]; rfl
    rw [e]
    clear hp E e
    go_enter Try.func29, Try.ntmps29
    go_wp2_with fail
    refine HP.out.mono ?_
    rintro e w1 ⟨rfl, hb1⟩
    go_wp2
    go_ret
    exact ⟨none, 0, rfl, Own.none_, by simp, hb1⟩
  · have hq := padOk_iff.1 hp
    rw [hp] at E HP
    have e : padStarts ts = padSt ts := by rw [E.out]; rfl
    rw [e]
    have HQ := Lib.hid hq.2
    have h12 := hq.1
    clear hp E e hq
    go_enter Try.func29, Try.ntmps29
    go_wp2_with fail
    refine HP.out.mono ?_
    rintro e w1 ⟨rfl, hb1⟩
    have HB1 := Lib.hid hb1
    have hs1 := hb1.size
    clear hb1
    go_wp2_with fail
    refine (callStarts A c ts _ B (by omega) hc h12 (fun x hx => by have := HQ.out x hx; omega) (HR.out.below (HB1.out.mono hB))).mono ?_
    rintro e w2 ⟨A', rfl, hown, hb2⟩
    have HO := Lib.hid (hown.more (base' := w.heap.size) hs1)
    clear hown
    go_wp2
    go_ret
    exact ⟨A', _, rfl, HO.out, Nat.le_refl _, bel_trans HB1.out hb2⟩

set_option maxRecDepth 100000 in
set_option maxHeartbeats 1600000 in
theorem callPadRuns (A A' : Option Addr) (c c' : Nat) (ts ns : List Int) (w : World) (B : Nat) (hB : B ≤ w.heap.size) (hm : ts.length ≤ 1048576) (hm' : ns.length ≤ 1048576) (hr : Rd eInt w B A ts) (hr' : Rd eInt w B A' ns) :
    Calls Try.prog 65 #[.slice A ts.length c, .slice A' ns.length c'] w fun e w' => ∃ A2 c2, e = .returned (.slice A2 (padRuns ts ns).length c2) ∧ Own eInt 3 w' w.heap.size (.slice A2 (padRuns ts ns).length c2) (padRuns ts ns) ∧ (padRuns ts ns).length ≤ c2 ∧ Below w.heap.size w w' := by
  have HP := Lib.hid (callNeeded A A' c c' ts ns w B hB hm hm' hr hr')
  have E : Hid (padRuns ts ns = if needOk ts ns then padMin ts ns else []) := rfl
  have HR := Lib.hid hr
  have HR' := Lib.hid hr'
  clear hr hr'
  cases hp : needOk ts ns
  · rw [hp] at E HP
    have e : padRuns ts ns = [] := by rw [E.out]; rfl
    rw [e]
    clear hp E e
    go_enter Try.func65, Try.ntmps65
    go_wp2_with fail
    refine HP.out.mono ?_
    rintro e w1 ⟨rfl, hb1⟩
    go_wp2
    go_ret
    exact ⟨none, 0, rfl, Own.none_, by simp, hb1⟩
  · obtain ⟨hq1, hq2, hq3⟩ := needOk_iff.1 hp
    rw [hp] at E HP
    have e : padRuns ts ns = padMin ts ns := by rw [E.out]; rfl
    rw [e]
    have h12 := (padOk_iff.1 hq1).1
    obtain ⟨n, hn⟩ : ∃ n, n = ts.length := ⟨_, rfl⟩
    have HN : Hid ((padMin ts ns).length = n) := by show _ = _; rw [padMin_len hq2, hn]
    have HQ := Lib.hid hq2
    have hnn : n ≤ ts.length ∧ ts.length ≤ n ∧ n ≤ ns.length ∧ ns.length ≤ n := by omega
    rw [← hn] at HP ⊢
    clear hp E e hq1 hq2 hq3 hn
    go_enter Try.func65, Try.ntmps65
    go_wp2_with fail
    refine HP.out.mono ?_
    rintro e w1 ⟨rfl, hb1⟩
    have HB1 := Lib.hid hb1
    have hs1 := hb1.size
    clear hb1
    go_wp2_with (at_make; refine wpList_mkE (E := eInt) _ Try.underlying23 (z := .int .i64 0) (m := 8) (by kernel_rfl) (by decide) (0 : Int) rfl rfl _ _ rfl w1.heap.size n n n rfl rfl rfl rfl (by omega) (Nat.le_refl _) ?_; intro w2 hown2 hb2; have HO2 := Lib.hid hown2; have HB2 := Lib.hid (bel_trans HB1.out hb2); clear hown2 hb2)
    obtain ⟨g, hg⟩ : ∃ g, g = w1.heap.size := ⟨_, rfl⟩
    rw [← hg] at HO2 hs1 ⊢
    clear hg
    go_loopw [16] (fun i wr => ∃ k : Nat, k ≤ n ∧ i = .int .i64 k ∧ Below w.heap.size w wr ∧ Hid (Own eInt 3 wr w.heap.size (.slice (some ⟨g, 0, none⟩) n n) ((padMin ts ns).take k ++ List.replicate (n - k) 0))) (fun i _ => n - (intOf i).toNat)
    case atStart => exact ⟨0, by omega, rfl, HB2.out, by have := HO2.out.more (base' := w.heap.size) hs1; show Own _ _ _ _ _ _; simpa using this⟩
    case round =>
      obtain ⟨k, hk, rfl, hbl, HO⟩ := hrel
      have HB := Lib.hid hbl
      clear hbl HO2 HB2
      by_cases hlt : k < n
      · have hd : decide ((k : Int) < n) = true := decide_eq_true (by omega)
        have hkt : k < ts.length := by omega
        have hkn : k < ns.length := by omega
        have HG := Lib.hid (fill_get (z := (0 : Int)) HN.out hlt)
        have HL := Lib.hid (fill_len (z := (0 : Int)) (k := k) HN.out hk)
        have HM : Hid ((padMin ts ns)[k]? = some (imin ts[k] ns[k])) := by show _ = _; rw [List.getElem?_eq_getElem (by rw [HN.out]; exact hlt), padMin_get hkt hkn]
        obtain ⟨b, off, rfl, hbB, h1⟩ := (HR.out.below (HB.out.mono hB)).at1 rfl hkt rfl
        obtain ⟨b', off', rfl, hbB', h2⟩ := (HR'.out.below (HB.out.mono hB)).at1 rfl hkn rfl
        obtain ⟨x, hx⟩ : ∃ x, x = ts[k] := ⟨_, rfl⟩
        obtain ⟨y, hy⟩ : ∃ y, y = ns[k] := ⟨_, rfl⟩
        rw [← hx] at h1 HM
        rw [← hy] at h2 HM
        clear hx hy
        have hne : (padMin ts ns).take k ++ List.replicate (n - k) (0 : Int) ≠ [] := by intro e; have := HL.out; rw [e] at this; simp at this; omega
        obtain ⟨bb, oo, hA, _, h3⟩ := HO.out.rd.at1 (k := k) rfl (by rw [HL.out]; exact hlt) rfl
        simp only [Option.some.injEq, Addr.mk.injEq, and_true] at hA
        obtain ⟨rfl, rfl⟩ := hA
        simp only [Nat.zero_add] at h3
        have hfz := HO.out.frozen (o := k) hne
        have hgw := (HO.out.blk hne).1
        obtain ⟨s, hs⟩ : ∃ s, s = imin x y := ⟨_, rfl⟩
        rw [← hs] at HM
        have HS := Lib.hid (HO.out.set (E := eInt) (i := k) (j := 0) (y := s) (u := .int .i64 s) HG.out (by decide) rfl)
        have HE := Lib.hid (fill_set (z := (0 : Int)) HN.out hlt HM.out)
        clear hne
        have hw0 : (0 : Int) ≤ (k : Int) := by omega
        have hlts : (k : Int) < (ts.length : Int) := by omega
        have hltn : (k : Int) < (ns.length : Int) := by omega
        by_cases hxy : y < x
        · have hs2 : s = y := by rw [hs]; exact if_pos hxy
          subst hs2
          clear hs
          go_wp2_with fail
          go_region
          all_goals
            go_wp2_with fail
            go_roundw
            case rel => exact ⟨k + 1, by omega, by go_num, below_drew (HB.out.setCell (p := ⟨g, k, none⟩) hgw _), by have := HS.out; rw [HE.out] at this; have h2 : Own eInt 3 (wr.setCell ⟨g, k, none⟩ (.int .i64 s)) w.heap.size (.slice (some ⟨g, 0, none⟩) n n) ((padMin ts ns).take (k + 1) ++ List.replicate (n - (k + 1)) 0) := (by simpa using this); exact h2.drew⟩
            case measure => simp [intOf]; omega
        · have hs2 : s = x := by rw [hs]; exact if_neg hxy
          subst hs2
          clear hs
          go_wp2_with fail
          go_region
          all_goals
            go_wp2_with fail
            go_roundw
            case rel => exact ⟨k + 1, by omega, by go_num, below_drew (HB.out.setCell (p := ⟨g, k, none⟩) hgw _), by have := HS.out; rw [HE.out] at this; have h2 : Own eInt 3 (wr.setCell ⟨g, k, none⟩ (.int .i64 s)) w.heap.size (.slice (some ⟨g, 0, none⟩) n n) ((padMin ts ns).take (k + 1) ++ List.replicate (n - (k + 1)) 0) := (by simpa using this); exact h2.drew⟩
            case measure => simp [intOf]; omega
      · have hke : k = n := by omega
        subst hke
        have hd : decide ((k : Int) < k) = false := by simp
        go_wp2
        go_ret
        refine ⟨some ⟨g, 0, none⟩, k, by rw [HN.out] <;> rfl, ?_, by rw [HN.out]; exact Nat.le_refl _, HB.out⟩
        have := HO.out
        rw [Nat.sub_self, List.replicate_zero, List.append_nil, List.take_of_length_le (by rw [HN.out]; exact Nat.le_refl _)] at this
        rw [HN.out]; exact this

set_option maxHeartbeats 800000 in
theorem callPlainStarts (A A' : Option Addr) (c c' : Nat) (ts ns : List Int) (w : World) (B : Nat) (hB : B ≤ w.heap.size) (hm : ts.length ≤ 1048576) (hm' : ns.length ≤ 1048576) (hr : Rd eInt w B A ts) (hr' : Rd eInt w B A' ns) :
    Calls Try.prog 27 #[.slice A ts.length c, .slice A' ns.length c'] w fun e w' => ∃ A2 c2, e = .returned (.slice A2 (plainStarts ts ns).length c2) ∧ Own eInt 3 w' w.heap.size (.slice A2 (plainStarts ts ns).length c2) (plainStarts ts ns) ∧ (plainStarts ts ns).length ≤ c2 ∧ Below w.heap.size w w' := by
  have HP := Lib.hid (callNeeded A A' c c' ts ns w B hB hm hm' hr hr')
  have HR := Lib.hid hr
  have HR' := Lib.hid hr'
  clear hr hr'
  have E : Hid (plainStarts ts ns = padSt (padRuns ts ns)) := rfl
  cases hp : needOk ts ns
  · rw [hp] at HP
    have e : plainStarts ts ns = [] := by rw [E.out]; unfold padRuns; rw [hp]; rfl
    rw [e]
    clear hp E e
    go_enter Try.func27, Try.ntmps27
    go_wp2_with fail
    refine HP.out.mono ?_
    rintro e w1 ⟨rfl, hb1⟩
    go_wp2
    go_ret
    exact ⟨none, 0, rfl, Own.none_, by simp, hb1⟩
  · rw [hp] at HP
    have HM := Lib.hid (padRuns_mem (ts := ts) (ns := ns))
    have hl := (padRuns_len ts ns).1
    obtain ⟨r, hr⟩ : ∃ r, r = padRuns ts ns := ⟨_, rfl⟩
    have CR : ∀ W, Below w.heap.size w W → Hid (Calls Try.prog 65 #[.slice A ts.length c, .slice A' ns.length c'] W fun e w' => ∃ A2 c2, e = .returned (.slice A2 r.length c2) ∧ Own eInt 3 w' W.heap.size (.slice A2 r.length c2) r ∧ r.length ≤ c2 ∧ Below W.heap.size W w') := fun W hW => by
      have := callPadRuns A A' c c' ts ns W B (Nat.le_trans hB hW.size) hm hm' (HR.out.below (hW.mono hB)) (HR'.out.below (hW.mono hB))
      rw [← hr] at this; exact this
    rw [← hr] at HM hl E
    rw [E.out]
    clear hp E hr
    go_enter Try.func27, Try.ntmps27
    go_wp2_with fail
    refine HP.out.mono ?_
    rintro e w1 ⟨rfl, hb1⟩
    have HB1 := Lib.hid hb1
    clear hb1
    go_wp2_with fail
    refine (CR _ HB1.out).out.mono ?_
    rintro e w2 ⟨A2, c2, rfl, hown, hc2, hb2⟩
    have HO2 := Lib.hid hown.rd
    have HB2 := Lib.hid (bel_trans HB1.out hb2)
    have hs2 := HB2.out.size
    clear hb2 hown CR
    go_wp2_with fail
    refine (callStarts A2 c2 r _ _ (Nat.le_refl _) hc2 hl HM.out HO2.out).mono ?_
    rintro e w3 ⟨A3, rfl, hown, hb3⟩
    have HO := Lib.hid (hown.more (base' := w.heap.size) hs2)
    clear hown
    go_wp2
    go_ret
    exact ⟨A3, _, rfl, HO.out, Nat.le_refl _, bel_trans HB2.out hb3⟩
end Go.Proofs.Ytlkdngjpbohgaaa
