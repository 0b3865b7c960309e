/- The functions of padding of the reference, for every input. -/
import Derived.Test.YtlkdngjpbohgaaaPac
import Derived.Test.YtlkdngjpbohgaaaStp
namespace Go.Proofs.Ytlkdngjpbohgaaa
open Go.RowKit Go.Sort

theorem Rd.drew' {α : Type} {E : Enc α} {w : World} {A : Option Addr} {xs : List α} (h : Rd E w w.heap.size A xs) : Rd E w.drew w.drew.heap.size A xs := h

set_option maxRecDepth 100000 in
set_option maxHeartbeats 1600000 in
theorem callSPadStarts (A : Option Addr) (c : Nat) (ts : List Int) (w : World) (B : Nat) (hB : B ≤ w.heap.size) (hm : ts.length ≤ 1048576) (hr : Rd eInt w B A ts) :
    Calls Try.prog 82 #[.slice A ts.length c] w fun e w' => ∃ A' c', e = .returned (.slice A' (padStarts ts).length c') ∧ Own eInt 3 w' w.heap.size (.slice A' (padStarts ts).length c') (padStarts ts) ∧ (padStarts ts).length ≤ c' ∧ Below w.heap.size w w' := by
  have E : Hid (padStarts ts = if decide (ts.length ≤ 12) && ts.all tmOk then padSt ts else []) := rfl
  have HR := Lib.hid hr
  clear hr
  by_cases h12 : ts.length ≤ 12
  · rw [decide_eq_true h12] at E
    have hd12 : decide ((ts.length : Int) ≤ 12) = true := decide_eq_true (by omega)
    go_enter Try.func82, Try.ntmps82
    go_wp2_with fail
    go_loopw [3, 4, 5] (fun v a i wr => ∃ k : Nat, k ≤ ts.length ∧ i = .int .i64 k ∧ a = .int .i64 (padSum (ts.take k)) ∧ Hid (Own eInt 3 wr w.heap.size v ((padSt ts).take k) ∧ Below w.heap.size w wr ∧ ∀ i (_ : i < k) (h : i < ts.length), tmOk ts[i] = true)) (fun _ _ i _ => ts.length - (intOf i).toNat)
    case atStart => exact ⟨0, by omega, rfl, rfl, Own.none_, below1 _ _, fun i hi => by omega⟩
    case round =>
      obtain ⟨k, hk, rfl, rfl, HH⟩ := hrel
      by_cases hlt : k < ts.length
      · have hd : decide ((k : Int) < ts.length) = true := decide_eq_true (by omega)
        obtain ⟨b, off, rfl, hbB, h1⟩ := (HR.out.below (HH.out.2.1.mono hB)).at1 rfl hlt rfl
        have hbw : b < wr.heap.size := Nat.lt_of_lt_of_le hbB (Nat.le_trans hB HH.out.2.1.size)
        have bad : Hid (tmOk ts[k] = false → padStarts ts = []) := fun h => by rw [E.out, all_snoc_false hlt h]; rfl
        have good : Hid (tmOk ts[k] = true → ∀ i (_ : i < k + 1) (h : i < ts.length), tmOk ts[i] = true) := fun hx i hi h => by
          rcases Nat.lt_or_ge i k with h' | h'
          · exact HH.out.2.2 i h' h
          · have : i = k := by omega
            subst this; exact hx
        have EX : Hid (tmOk ts[k] = inB ts[k] 1 20) := rfl
        have HS := Lib.hid (padSum_take hlt)
        have HT := Lib.hid (padSt_snoc hlt)
        have hbd : 0 ≤ padSum (ts.take k) ∧ padSum (ts.take k) ≤ 240 := by
          have hp : ∀ x ∈ ts.take k, 0 ≤ x ∧ x ≤ 20 := fun x hx => by
            obtain ⟨i, hi, rfl⟩ := List.getElem_of_mem hx
            rw [List.getElem_take]
            rw [List.length_take] at hi
            have := inB_iff.1 (HH.out.2.2 i (by omega) (by omega)); omega
          have := padSum_bd hp (ts.take k).length (Nat.le_refl _)
          rw [List.take_length, List.length_take] at this
          omega
        obtain ⟨s, hs⟩ : ∃ s, s = padSum (ts.take k) := ⟨_, rfl⟩
        obtain ⟨x, hx⟩ : ∃ x, x = ts[k] := ⟨_, rfl⟩
        rw [← hs] at HS HT hbd ⊢
        rw [← hx] at HS h1 EX bad good
        clear hs hx
        cases q : inB x 1 20
        · rw [q] at EX
          go_wp2_with (go_at_call 53; refine (callL1In _ _ _ _).mono ?_; rintro e w' ⟨rfl, rfl⟩)
          go_ret
          rw [bad.out EX.out]
          exact ⟨_, 0, rfl, Own.none_, Nat.le_refl _, bel_trans HH.out.2.1 (below1 _ _)⟩
        · obtain ⟨x0, x1⟩ := inB_iff.1 q
          rw [q] at EX
          have hG := Lib.hid (good.out EX.out)
          clear bad good
          have HO := Lib.hid (HH.out.1.alloc (.cells #[.int .i64 s] 3))
          have hsz := HH.out.2.1.size
          have hl : ((padSt ts).take k).length ≤ 12 := by rw [List.length_take]; omega
          go_wp2_with (first | (go_at_call 53; refine (callL1In _ _ _ _).mono ?_; rintro e w' ⟨rfl, rfl⟩) | (at_builtin; refine wpList_app _ eiInt rfl (.tmp 25) (.tmp 27) rfl w.heap.size HO.out (Rd.new (xs := [s]) _ _ _ rfl) rfl rfl rfl (by simp; omega) (by simp; omega) ?_; intro v' w3 row hown3 hg3 hrow3; have n1 := (below_of_row hg3 (fun k hk => (hrow3 k hk).1) (by simp; omega)).cell (p := ⟨b, off + k, none⟩) (by show b < w.heap.size; omega); rw [((below1 wr _).cell (p := ⟨b, off + k, none⟩) hbw), h1] at n1; have H3 := Lib.hid (And.intro hown3 ((HH.out.2.1.trans ((below1 wr _).mono hsz)).trans (below_of_row hg3 (fun k hk => (hrow3 k hk).1) (by simp; omega)))); clear hown3 hg3 hrow3))
          go_roundw
          case rel => exact ⟨k + 1, by omega, by go_num, by rw [HS.out], by rw [HT.out]; exact H3.out.1, H3.out.2, hG.out⟩
          case measure => simp [intOf]; omega
      · have hke : k = ts.length := by omega
        subst hke
        have hd : decide ((ts.length : Int) < ts.length) = false := by simp
        have e : Hid (padStarts ts = padSt ts) := by show _ = _; rw [E.out, all_of_get fun i h => HH.out.2.2 i h h]; rfl
        have hown := HH.out.1
        rw [List.take_of_length_le (by rw [padSt_len]; exact Nat.le_refl _)] at hown
        obtain ⟨A', c', hv, hc', _⟩ := hown.form
        subst hv
        have HO := Lib.hid hown
        clear hown
        go_wp2
        go_ret
        rw [e.out]
        exact ⟨A', c', rfl, HO.out, hc', HH.out.2.1⟩
  · rw [decide_eq_false h12] at E
    have hd12 : decide ((ts.length : Int) ≤ 12) = false := decide_eq_false (by omega)
    have hd : decide ((0 : Int) < ts.length) = true := decide_eq_true (by omega)
    have e : padStarts ts = [] := by rw [E.out]; rfl
    rw [e]
    clear E e
    go_enter Try.func82, Try.ntmps82
    go_wp2_with fail
    go_loopw [3, 4, 5] (fun v a i wr => i = .int .i64 0 ∧ a = .int .i64 0 ∧ v = .slice (some ⟨w.heap.size, 0, none⟩) 0 0 ∧ wr = w.alloc (.cells #[] 3)) (fun _ _ i _ => 0)
    case atStart => exact ⟨rfl, rfl, rfl, rfl⟩
    case round =>
      obtain ⟨rfl, rfl, rfl, rfl⟩ := hrel
      go_wp2
      go_ret
      exact ⟨_, 0, rfl, Own.none_, by simp, below1 _ _⟩

set_option maxRecDepth 100000 in
set_option maxHeartbeats 1600000 in
theorem callSPadRuns (A A' : Option Addr) (c c' : Nat) (ts ns : List Int) (w : World) (B : Nat) (hB : B ≤ w.heap.size) (hm : ts.length ≤ 1048576) (hm' : ns.length ≤ 1048576) (hr : Rd eInt w B A ts) (hr' : Rd eInt w B A' ns) :
    Calls Try.prog 66 #[.slice A ts.length c, .slice A' ns.length c'] w fun e w' => ∃ A2 c2, e = .returned (.slice A2 (padRuns ts ns).length c2) ∧ Own eInt 3 w' w.heap.size (.slice A2 (padRuns ts ns).length c2) (padRuns ts ns) ∧ (padRuns ts ns).length ≤ c2 ∧ Below w.heap.size w w' := by
  have HR := Lib.hid hr
  have HR' := Lib.hid hr'
  clear hr hr'
  have E : Hid (padRuns ts ns = if (padOk ts && decide (ns.length = ts.length)) && ns.all ndOk then padMin ts ns else []) := rfl
  have P0 : Hid (Calls Try.prog 82 #[.slice A ts.length c] (w.alloc (.cells #[] 3)) fun e w' => ∃ A' c', e = .returned (.slice A' (padStarts ts).length c') ∧ Below (w.alloc (.cells #[] 3)).heap.size (w.alloc (.cells #[] 3)) w') := by
    refine (callSPadStarts A c ts _ B (by simp; omega) hm (HR.out.below ((below1 _ _).mono hB))).mono ?_
    rintro e w' ⟨A', c', he, _, _, hb⟩
    exact ⟨A', c', he, hb⟩
  obtain ⟨m, hmm⟩ : ∃ m, m = (padStarts ts).length := ⟨_, rfl⟩
  rw [← hmm] at P0
  have HK : Hid (Own eInt 3 (w.alloc (.cells #[] 3)) w.heap.size (.slice (some ⟨w.heap.size, 0, none⟩) 0 0) []) := Own.none_
  by_cases hp : padOk ts = true ∧ ns.length = ts.length
  · obtain ⟨hp1, hp2⟩ := hp
    have hmt : m = ts.length := by rw [hmm]; unfold padStarts; rw [hp1]; exact padSt_len _
    have h12 := (padOk_iff.1 hp1).1
    rw [hp1, decide_eq_true hp2] at E
    have hmt2 : ((m : Int) != (ts.length : Int)) = false := by rw [hmt]; simp
    have hnt2 : ((ns.length : Int) != (ts.length : Int)) = false := by rw [hp2]; simp
    have HP2 := Lib.hid hp2
    have hnn : ns.length ≤ ts.length ∧ ts.length ≤ ns.length := by omega
    clear hmt hmm hp1 hp2
    go_enter Try.func66, Try.ntmps66
    go_wp2_with fail
    refine P0.out.mono ?_
    rintro e w1 ⟨A1, c1, rfl, hb1⟩
    have HB1 := Lib.hid (bel_trans (below1 w _) hb1)
    clear hb1
    go_wp2_with fail
    go_loopw [5, 6] (fun v i wr => ∃ k : Nat, k ≤ ns.length ∧ i = .int .i64 k ∧ Hid (Own eInt 3 wr w.heap.size v ((padMin ts ns).take k) ∧ Below w.heap.size w wr ∧ ∀ i (_ : i < k) (h : i < ns.length), ndOk ns[i] = true)) (fun _ i _ => ns.length - (intOf i).toNat)
    case atStart => exact ⟨0, by omega, rfl, Own.none_, HB1.out, fun i hi => by omega⟩
    case round =>
      obtain ⟨k, hk, rfl, HH⟩ := hrel
      by_cases hlt : k < ns.length
      · have hd : decide ((k : Int) < ns.length) = true := decide_eq_true (by omega)
        have hkt : k < ts.length := by omega
        obtain ⟨b, off, rfl, hbB, h1⟩ := (HR.out.below (HH.out.2.1.mono hB)).at1 rfl hkt rfl
        obtain ⟨b', off', rfl, hbB', h2⟩ := (HR'.out.below (HH.out.2.1.mono hB)).at1 rfl hlt rfl
        have bad : Hid (ndOk ns[k] = false → padRuns ts ns = []) := fun h => by rw [E.out, all_snoc_false hlt h]; rfl
        have good : Hid (ndOk ns[k] = true → ∀ i (_ : i < k + 1) (h : i < ns.length), ndOk ns[i] = true) := fun hx i hi h => by
          rcases Nat.lt_or_ge i k with h' | h'
          · exact HH.out.2.2 i h' h
          · have : i = k := by omega
            subst this; exact hx
        have HS := Lib.hid (padMin_snoc HP2.out hkt hlt)
        obtain ⟨x, hx⟩ : ∃ x, x = ts[k] := ⟨_, rfl⟩
        obtain ⟨y, hy⟩ : ∃ y, y = ns[k] := ⟨_, rfl⟩
        rw [← hx] at h1 HS
        rw [← hy] at h2 HS bad good
        clear hx hy
        by_cases hy0 : y < 0
        · have dy : decide (y < 0) = true := decide_eq_true hy0
          have hb := Lib.hid (bad.out (by unfold ndOk; exact decide_eq_false (by omega)))
          go_wp2
          go_ret
          rw [hb.out]
          exact ⟨_, 0, rfl, Own.none_, by simp, bel_trans HH.out.2.1 (below1 _ _)⟩
        · have dy : decide (y < 0) = false := decide_eq_false hy0
          have hG := Lib.hid (good.out (by unfold ndOk; exact decide_eq_true (by omega)))
          clear bad good
          obtain ⟨s, hs⟩ : ∃ s, s = imin x y := ⟨_, rfl⟩
          rw [← hs] at HS
          have hw0 : (0 : Int) ≤ (k : Int) := by omega
          have hltt : (k : Int) < (ts.length : Int) := by omega
          have hltn : (k : Int) < (ns.length : Int) := by omega
          have hsz := HH.out.2.1.size
          have hl : ((padMin ts ns).take k).length ≤ 12 := by rw [List.length_take]; omega
          have hbw : b < wr.heap.size := by omega
          have hbw' : b' < wr.heap.size := by omega
          by_cases hxy : x < y
          · have hs2 : s = x := by rw [hs]; exact if_neg (by omega)
            subst hs2
            clear hs
            have HO := Lib.hid (HH.out.1.alloc (.cells #[.int .i64 s] 3))
            have hroom1 : Hid (((padMin ts ns).take k).length + [s].length ≤ 1073741824) := by show _ ≤ _; simp only [List.length_cons, List.length_nil]; omega
            have hbase1 : Hid (w.heap.size ≤ (wr.alloc (.cells #[.int .i64 s] 3)).drew.heap.size) := by show _ ≤ (wr.alloc _).heap.size; simp; omega
            go_wp2_with fail
            go_region_law (refine step_app (n := 1) (c := 1) eiInt rfl (.tmp 34) (.tmp 44) rfl w.heap.size HO.out.drew (Rd.new (E := eInt) (xs := [s]) wr 3 #[.int .i64 s] rfl).drew' rfl (by simp [Act.eval, Act.put]) (by simp [Act.eval, Act.put]) hroom1.out hbase1.out ?_; intro v' w3 row hown3 hg3 hrow3)
            all_goals
              have H3 := Lib.hid (And.intro hown3 ((HH.out.2.1.trans ((below_drew (below1 wr _)).mono hsz)).trans (below_of_row hg3 (fun k hk => (hrow3 k hk).1) (by simp; omega))))
              clear hown3 hg3 hrow3
              go_simp
              go_wp2_with fail
              go_roundw
              case rel => exact ⟨k + 1, by omega, by go_num, by rw [HS.out]; exact H3.out.1, H3.out.2, hG.out⟩
              case measure => simp [intOf]; omega
          · have hs2 : s = y := by rw [hs]; unfold imin; split <;> omega
            subst hs2
            clear hs
            have hif : (if x < s then x else s) = s := if_neg hxy
            have HO := Lib.hid (HH.out.1.alloc (.cells #[.int .i64 s] 3))
            have hroom1 : Hid (((padMin ts ns).take k).length + [s].length ≤ 1073741824) := by show _ ≤ _; simp only [List.length_cons, List.length_nil]; omega
            have hbase1 : Hid (w.heap.size ≤ (wr.alloc (.cells #[.int .i64 s] 3)).drew.heap.size) := by show _ ≤ (wr.alloc _).heap.size; simp; omega
            go_wp2_with fail
            go_region_law (refine step_app (n := 1) (c := 1) eiInt rfl (.tmp 34) (.tmp 44) rfl w.heap.size HO.out.drew (Rd.new (E := eInt) (xs := [s]) wr 3 #[.int .i64 s] rfl).drew' rfl (by simp [Act.eval, Act.put]) (by simp [Act.eval, Act.put]) hroom1.out hbase1.out ?_; intro v' w3 row hown3 hg3 hrow3)
            all_goals
              have H3 := Lib.hid (And.intro hown3 ((HH.out.2.1.trans ((below_drew (below1 wr _)).mono hsz)).trans (below_of_row hg3 (fun k hk => (hrow3 k hk).1) (by simp; omega))))
              clear hown3 hg3 hrow3
              go_simp
              go_wp2_with fail
              go_roundw
              case rel => exact ⟨k + 1, by omega, by go_num, by rw [HS.out]; exact H3.out.1, H3.out.2, hG.out⟩
              case measure => simp [intOf]; omega
      · have hke : k = ns.length := by omega
        subst hke
        have hd : decide ((ns.length : Int) < ns.length) = false := by simp
        have e : Hid (padRuns ts ns = padMin ts ns) := by show _ = _; rw [E.out, all_of_get fun i h => HH.out.2.2 i h h]; rfl
        have hown := HH.out.1
        rw [List.take_of_length_le (by rw [padMin_len HP2.out]; omega)] at hown
        obtain ⟨A', c', hv, hc', _⟩ := hown.form
        subst hv
        have HO := Lib.hid hown
        clear hown
        go_wp2
        go_ret
        rw [e.out]
        exact ⟨A', c', rfl, HO.out, hc', HH.out.2.1⟩
  · have e : padRuns ts ns = [] := by
      rw [E.out]
      cases h1 : padOk ts
      · rfl
      · rw [decide_eq_false (fun h2 => hp ⟨h1, h2⟩)]; rfl
    rw [e]
    clear E e
    cases h1 : padOk ts
    · by_cases h0 : ts.length = 0
      · have : ts = [] := List.eq_nil_of_length_eq_zero h0
        rw [this] at h1; cases h1
      · have hm0 : m = 0 := by rw [hmm]; unfold padStarts; rw [h1]; rfl
        subst hm0
        have hd : ((0 : Int) != (ts.length : Int)) = true := by rw [bne_iff_ne]; omega
        clear hmm
        go_enter Try.func66, Try.ntmps66
        go_wp2_with fail
        refine P0.out.mono ?_
        rintro e w1 ⟨A1, c1, rfl, hb1⟩
        go_wp2
        go_ret
        exact ⟨_, 0, rfl, Own.none_, by simp, bel_trans (below1 w _) hb1⟩
    · have hmt : m = ts.length := by rw [hmm]; unfold padStarts; rw [h1]; exact padSt_len _
      have hmt2 : ((m : Int) != (ts.length : Int)) = false := by rw [hmt]; simp
      have hnt2 : ((ns.length : Int) != (ts.length : Int)) = true := by rw [bne_iff_ne]; intro h2; exact hp ⟨h1, by omega⟩
      clear hmt hmm hp
      go_enter Try.func66, Try.ntmps66
      go_wp2_with fail
      refine P0.out.mono ?_
      rintro e w1 ⟨A1, c1, rfl, hb1⟩
      go_wp2
      go_ret
      exact ⟨_, 0, rfl, Own.none_, by simp, bel_trans (below1 w _) hb1⟩

set_option maxRecDepth 100000 in
set_option maxHeartbeats 1600000 in
theorem callSPlainStarts (A A' : Option Addr) (c c' : Nat) (ts ns : List Int) (w : World) (B : Nat) (hB : B ≤ w.heap.size) (hm : ts.length ≤ 1048576) (hm' : ns.length ≤ 1048576) (hr : Rd eInt w B A ts) (hr' : Rd eInt w B A' ns) :
    Calls Try.prog 28 #[.slice A ts.length c, .slice A' ns.length c'] w fun e w' => ∃ A2 c2, e = .returned (.slice A2 (plainStarts ts ns).length c2) ∧ Own eInt 3 w' w.heap.size (.slice A2 (plainStarts ts ns).length c2) (plainStarts ts ns) ∧ (plainStarts ts ns).length ≤ c2 ∧ Below w.heap.size w w' := by
  have CR := Lib.hid (callSPadRuns A A' c c' ts ns (w.alloc (.cells #[] 3)) B (by simp; omega) hm hm' (hr.below ((below1 _ _).mono hB)) (hr'.below ((below1 _ _).mono hB)))
  clear hr hr'
  have HM := Lib.hid (padRuns_mem (ts := ts) (ns := ns))
  have hl := (padRuns_len ts ns).1
  have E : Hid (plainStarts ts ns = padSt (padRuns ts ns)) := rfl
  obtain ⟨r, hr⟩ : ∃ r, r = padRuns ts ns := ⟨_, rfl⟩
  rw [← hr] at HM hl E CR
  rw [E.out]
  clear hr E
  have HBD := Lib.hid (padSum_bd HM.out)
  go_enter Try.func28, Try.ntmps28
  go_wp2_with fail
  refine CR.out.mono ?_
  rintro e w2 ⟨A2, c2, rfl, hown, hc2, hb2⟩
  have HR := Lib.hid hown.rd
  have HB2 := Lib.hid (bel_trans (below1 w _) hb2)
  have hs2 := HB2.out.size
  clear hb2 hown CR
  go_wp2_with fail
  go_loopw [5, 6, 8] (fun v a i wr => ∃ k : Nat, k ≤ r.length ∧ i = .int .i64 k ∧ a = .int .i64 (padSum (r.take k)) ∧ Hid (Own eInt 3 wr w2.heap.size v ((padSt r).take k) ∧ Below w2.heap.size w2 wr)) (fun _ _ i _ => r.length - (intOf i).toNat)
  case atStart => exact ⟨0, by omega, rfl, rfl, Own.none_, Below.refl _ _⟩
  case round =>
    obtain ⟨k, hk, rfl, rfl, HH⟩ := hrel
    have hbd := HBD.out k hk
    by_cases hlt : k < r.length
    · have hd : decide ((k : Int) < r.length) = true := decide_eq_true (by omega)
      obtain ⟨b, off, rfl, hbB, h1⟩ := (HR.out.below HH.out.2).at1 rfl hlt rfl
      have hsz := HH.out.2.size
      have hbw : b < wr.heap.size := by omega
      have hx := HM.out _ (List.getElem_mem hlt)
      have HS := Lib.hid (padSum_take hlt)
      have HT := Lib.hid (padSt_snoc hlt)
      obtain ⟨s, hs⟩ : ∃ s, s = padSum (r.take k) := ⟨_, rfl⟩
      obtain ⟨x, hxx⟩ : ∃ x, x = r[k] := ⟨_, rfl⟩
      rw [← hs] at HS HT hbd ⊢
      rw [← hxx] at HS h1 hx
      clear hs hxx
      have HO := Lib.hid (HH.out.1.alloc (.cells #[.int .i64 s] 3))
      have hll : ((padSt r).take k).length ≤ 12 := by rw [List.length_take]; omega
      go_wp2_with (at_builtin; refine wpList_app _ eiInt rfl (.tmp 19) (.tmp 21) rfl w2.heap.size HO.out (Rd.new (xs := [s]) _ _ _ rfl) rfl rfl rfl (by simp; omega) (by simp; omega) ?_; intro v' w3 row hown3 hg3 hrow3; have n1 := (below_of_row hg3 (fun k hk => (hrow3 k hk).1) (by simp; omega)).cell (p := ⟨b, off + k, none⟩) (by show b < w2.heap.size; omega); rw [((below1 wr _).cell (p := ⟨b, off + k, none⟩) hbw), h1] at n1; have H3 := Lib.hid (And.intro hown3 ((HH.out.2.trans ((below1 wr _).mono hsz)).trans (below_of_row hg3 (fun k hk => (hrow3 k hk).1) (by simp; omega)))); clear hown3 hg3 hrow3)
      go_roundw
      case rel => exact ⟨k + 1, by omega, by go_num, by rw [HS.out], by rw [HT.out]; exact H3.out⟩
      case measure => simp [intOf]; omega
    · have hke : k = r.length := by omega
      subst hke
      have hd : decide ((r.length : Int) < r.length) = false := by simp
      have hown := HH.out.1
      rw [List.take_of_length_le (by rw [padSt_len]; exact Nat.le_refl _)] at hown
      obtain ⟨A', c', hv, hc', _⟩ := hown.form
      subst hv
      have HO := Lib.hid (hown.more hs2)
      clear hown
      go_wp2
      go_ret
      exact ⟨A', c', rfl, HO.out, hc', HB2.out.trans (HH.out.2.mono hs2)⟩
end Go.Proofs.Ytlkdngjpbohgaaa
