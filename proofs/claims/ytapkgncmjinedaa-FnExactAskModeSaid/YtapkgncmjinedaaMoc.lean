/- Copies of modes whose rows lie apart: Modes.copyOf of the program, for every input. -/
import Derived.Test.YtapkgncmjinedaaMow
namespace Go.Proofs.Ytapkgncmjinedaa
open Go.RowKit Go.Sort
/-- The first k rows lie in blocks of their own. -/
def Sep (us : List Tab) (k : Nat) : Prop := ∀ i j (hi : i < us.length) (hj : j < us.length), i < j → j < k → ∀ b, us[i].A = some ⟨b, 0, none⟩ → us[j].A ≠ some ⟨b, 0, none⟩
theorem sep0 (us : List Tab) : Sep us 0 := fun i j _ _ _ h => by omega
theorem Sep.put {w wr w5 : World} {k : Nat} {A1 : Option Addr} {ts us : List Tab} {now next : Int} {y : Tab} {base : Nat} (h : Sep us k) (hk : k < us.length) (s : MC w k A1 ts us now next wr) (ho : Own eSlt 96 w5 base (.slice y.A y.slots.length y.c) y.slots) (hy : y.slots ≠ [])
    (hts : ∀ t, t ∈ ts → t.slots ≠ []) (hbase : wr.heap.size ≤ base := by exact Nat.le_refl _) : Sep (us.set k y) (k + 1) := by
  intro i j hi hj hij hjk b hb
  have hi' : i < us.length := by simpa using hi
  have hj' : j < us.length := by simpa using hj
  rw [List.getElem_set_ne (by omega)] at hb
  by_cases e : j = k
  · subst e
    rw [List.getElem_set_self]
    obtain ⟨A', c', hv, _, hA⟩ := ho.form
    injection hv with hv
    obtain ⟨g, hg, h1, _⟩ := hA hy
    rw [hv, hg]
    intro e
    simp only [Option.some.injEq, Addr.mk.injEq, and_true] at e
    have hq := (s.cop i hi' hij).1
    have hne : us[i].slots ≠ [] := by
      have hm := s.map
      have hi2 : i < ts.length := by have := s.len; omega
      have e1 : (us.map Tab.slots)[i]'(by simpa using hi') = (ts.map Tab.slots)[i]'(by simpa using hi2) := by simp only [hm]
      simp only [List.getElem_map] at e1
      rw [e1]; exact hts _ (List.getElem_mem hi2)
    obtain ⟨A2, c2, hv2, _, hA2⟩ := hq.form
    injection hv2 with hv2
    obtain ⟨g2, hg2, _, h3⟩ := hA2 hne
    rw [hv2, hg2] at hb
    simp only [Option.some.injEq, Addr.mk.injEq, and_true] at hb
    omega
  · rw [List.getElem_set_ne (by omega)]
    exact h i j hi' hj' hij (by omega) b hb
set_option maxRecDepth 100000 in
set_option maxHeartbeats 3200000 in
theorem callCopyOfModesA (A : Option Addr) (c : Nat) (ts : List Tab) (now next : Int) (w : World) (B : Nat) (hB : B ≤ w.heap.size) (hc : ts.length ≤ c) (hm : ts.length ≤ 4) (hcap : CapT ts) (hne : ∀ t, t ∈ ts → t.slots ≠ []) (hr : RdT w B A ts) :
    Calls Try.prog 72 #[.agg #[.slice A ts.length c, .int .i64 now, .int .i64 next]] w fun e w' =>
      ∃ A' us, e = .returned (.agg #[.slice A' (us : List Tab).length us.length, .int .i64 now, .int .i64 next]) ∧ OwnT w' w.heap.size (.slice A' us.length us.length) us ∧ us.map Tab.slots = ts.map Tab.slots ∧ Sep us us.length ∧ Below w.heap.size w w' := by
  have HV := Lib.hid (below2 w (.cells #[.slice A ts.length c, .int .i64 now, .int .i64 next] 25) (.cells #[.slice none 0 0, .int .i64 0, .int .i64 0] 25))
  have K0 := Lib.hid (alloc_at0 w (.cells #[.slice A ts.length c, .int .i64 now, .int .i64 next] 25) (.cells #[.slice none 0 0, .int .i64 0, .int .i64 0] 25))
  have K1 := Lib.hid (alloc_at1 w (.cells #[.slice A ts.length c, .int .i64 now, .int .i64 next] 25) (.cells #[.slice none 0 0, .int .i64 0, .int .i64 0] 25))
  have HR := Lib.hid (hr.below (HV.out.mono hB))
  have HCAP := Lib.hid hcap
  have HNE := Lib.hid hne
  clear hr hcap hne
  go_enter Try.func72, Try.ntmps72
  go_upto_region 1 with (fail)
  obtain ⟨u, hu⟩ : ∃ u, u = ((w.alloc (.cells #[.slice A ts.length c, .int .i64 now, .int .i64 next] 25)).alloc (.cells #[.slice none 0 0, .int .i64 0, .int .i64 0] 25)) := ⟨_, rfl⟩
  rw [← hu] at HV K0 K1 HR ⊢
  clear hu
  have hsu : w.heap.size + 1 < u.heap.size := (cell3 K1.out).2.2.2.2.2.2
  obtain ⟨x0, x1, x2, x3, x4, x5, x6⟩ := cell3 K0.out
  go_wp2_with fail
  refine (callCopyTab A c ts u B (by omega) hc (by omega) HR.out.1).mono ?_
  rintro e w1 ⟨A1, rfl, hown, hb1⟩
  obtain ⟨y0, y1, y2, y3, y4, y5, y6⟩ := cell3 (blkc K0.out hb1)
  have S1 : Hid (MC w 0 A1 ts ts now next (w1.setCell ⟨w.heap.size, 0, none⟩ (.slice A1 ts.length ts.length))) := by
    have G := gset (w := w1) (g := w.heap.size) 0 (.slice A1 ts.length ts.length)
    have h0 := blkc K0.out hb1
    exact ⟨(bel_trans HV.out hb1).setCell (p := ⟨w.heap.size, 0, none⟩) (Nat.le_refl _) _, set3a h0, gblk G (blkc K1.out hb1) (by simp), (hown.more (by omega)).keptOther G (fun j hj => by cases hj; exact .inr ⟨_, _, _, h0, by decide⟩), fun i h hi => by omega, rfl, fun _ _ _ _ => rfl⟩
  have HB1 := Lib.hid (bel_trans HV.out hb1)
  have HR1 : Hid (∀ t, t ∈ ts → Rd eSlt (w1.setCell ⟨w.heap.size, 0, none⟩ (.slice A1 ts.length ts.length)) B t.A t.slots) := fun t ht => ((HR.out.2 t ht).1.below (hb1.mono (by omega))).below ((Below.refl _ _).setCell (p := ⟨w.heap.size, 0, none⟩) hB _)
  clear hown hb1 HR K0 K1 HV x0 x1 x2 x3 x4 x5 x6
  go_upto_region 2 with (fail)
  obtain ⟨v, hv⟩ : ∃ v, v = w1.setCell ⟨w.heap.size, 0, none⟩ (.slice A1 ts.length ts.length) := ⟨_, rfl⟩
  rw [← hv] at S1 HR1 ⊢
  clear hv y0 y1 y2 y3 y4 y5 y6
  obtain ⟨x0, x1, x2, x3, x4, x5, x6⟩ := cell3 S1.out.box
  have HSV : Hid (Below v.heap.size v v) := Below.refl _ _
  go_wp2_with fail
  go_loopw [3, 4, 12] (fun _ _ i wr => ∃ (k : Nat) (us : List Tab), i = .int .i64 k ∧ k ≤ ts.length ∧ Hid (MC w k A1 ts us now next wr) ∧ Hid (Sep us k) ∧ Hid (∀ t, t ∈ ts → Rd eSlt wr B t.A t.slots)) (fun _ _ i _ => ts.length - (intOf i).toNat)
  case atStart => exact ⟨0, ts, rfl, by omega, S1.out, sep0 ts, HR1.out⟩
  case round =>
    clear S1 HR1 HSV
    obtain ⟨k, us, rfl, hk, SR, HSP, HRR⟩ := hrel
    have HLN := Lib.hid SR.out.len
    by_cases hlt : k < ts.length
    · have hlu : k < us.length := by have := HLN.out; omega
      have hd : decide ((k : Int) < (ts.length : Int)) = true := decide_eq_true (by omega)
      have hd2 : decide ((k : Int) < (us.length : Int)) = true := decide_eq_true (by omega)
      obtain ⟨b, rfl, hb1, hb2, hb3, hb4, _⟩ := SR.out.blk hlu
      have HE := Lib.hid (SR.out.rest k hlu hlt (Nat.le_refl _))
      rw [HE.out] at hb4
      have HC1 : Hid (∀ W, Below wr.heap.size wr W → Calls Try.prog 98 #[.slice ts[k].A ts[k].slots.length ts[k].c] W fun e w' => ∃ A', e = .returned (.slice A' ts[k].slots.length ts[k].slots.length) ∧ Own eSlt 96 w' W.heap.size (.slice A' ts[k].slots.length ts[k].slots.length) ts[k].slots ∧ Below W.heap.size W w') := fun W hW =>
        callCopySlt ts[k].A ts[k].c ts[k].slots W B (by have := SR.out.bel.size; have := hW.size; omega) (HCAP.out _ (List.getElem_mem hlt)).1 (by have := (HCAP.out _ (List.getElem_mem hlt)).2; omega) ((HRR.out _ (List.getElem_mem hlt)).below (hW.mono (by have := SR.out.bel.size; omega)))
      obtain ⟨x0, x1, x2, x3, x4, x5, x6⟩ := cell3 SR.out.box
      go_upto_region 5 with (fail)
      go_region_law (go_simp; go_at_call 98; refine (HC1.out _ (below_drew (Below.refl _ _))).mono ?_; rintro e w5 ⟨A5, rfl, ho5, hb5⟩; have S5 := Lib.hid (SR.out.drew.keep hb5); obtain ⟨n0, n1, n2, n3, n4, n5, n6⟩ := cell3 S5.out.box; obtain ⟨b', hbb, c1, c2, c3, c4, _⟩ := S5.out.blk hlu; simp only [Option.some.injEq, Addr.mk.injEq, and_true] at hbb; subst hbb; have SF := Lib.hid (S5.out.put (y := ⟨A5, ts[k].slots.length, ts[k].slots⟩) hlu (ho5.more SR.out.bel.size) (HCAP.out _ (List.getElem_mem hlt)).2 (by rw [HE.out])); have HSF := Lib.hid (HSP.out.put hlu (y := ⟨A5, ts[k].slots.length, ts[k].slots⟩) SR.out ho5 (HNE.out ts[k] (List.getElem_mem hlt)) (fun t ht => HNE.out t ht)); have HRF : Hid (∀ t, t ∈ ts → Rd eSlt (w5.setCell ⟨b, k, none⟩ (.slice A5 ts[k].slots.length ts[k].slots.length)) B t.A t.slots) := (fun t ht => ((HRR.out t ht).below ((below_drew (Below.refl B wr)).trans (hb5.mono (by have := SR.out.bel.size; show B ≤ wr.heap.size; omega)))).below ((Below.refl _ _).setCell (p := ⟨b, k, none⟩) (by show B ≤ b; omega) _)); clear ho5 hb5)
      all_goals
        go_wp2_with fail
        go_roundw
        case rel => exact ⟨k + 1, us.set k ⟨A5, ts[k].slots.length, ts[k].slots⟩, by go_num, by omega, SF.out, HSF.out, HRF.out⟩
        case measure => simp [intOf]; omega
    · have hke : us.length ≤ k := by have := HLN.out; omega
      have hd : decide ((k : Int) < (ts.length : Int)) = false := decide_eq_false (by omega)
      obtain ⟨x0, x1, x2, x3, x4, x5, x6⟩ := cell3 SR.out.box
      obtain ⟨r0, r1, r2, r3, r4, r5, r6⟩ := cell3 SR.out.res
      obtain ⟨f0, f1, f2⟩ := res3 SR.out.res (.slice A1 us.length us.length) (.int .i64 now) (.int .i64 next)
      have HO := Lib.hid (modes3 SR.out.res (.slice A1 us.length us.length) (.int .i64 now) (.int .i64 next) (SR.out.done hke))
      have HBF := Lib.hid (bset3 (b := w.heap.size + 1) SR.out.bel (by omega) (.slice A1 us.length us.length) (.int .i64 now) (.int .i64 next))
      have HMP := Lib.hid SR.out.map
      have HSPF : Hid (Sep us us.length) := fun i j hi hj h1 h2 h3 => HSP.out i j hi hj h1 (by omega) h3
      go_wp2_with fail
      exact bodyPost_ret (v := .agg #[.slice A1 us.length us.length, .int .i64 now, .int .i64 next]) (by simp [results, Try.results72, go_sem, f0, f1, f2]) rfl ⟨A1, us, rfl, HO.out, HMP.out, HSPF.out, HBF.out⟩
end Go.Proofs.Ytapkgncmjinedaa
