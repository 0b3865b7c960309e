/- ModeTick of the program and of the reference, for every input. -/
import Derived.Test.YtapkgncmjinedaaMod
namespace Go.Proofs.Ytapkgncmjinedaa
open Go.RowKit Go.Sort

/-- The frame of the mode that runs. -/
def tabAt (ts : List Tab) (now : Int) : Tab := ts.getD now.toNat ⟨none, 0, []⟩
def modeTick (ts : List Tab) (now next parts t : Int) : Int :=
  if modOk ts now next parts && inB t 0 ((fr (tabAt ts now).slots).length - 1) then whoAt (fr (tabAt ts now).slots) t.toNat else -2
theorem mod_cur {ts : List Tab} {now next parts : Int} (h : modOk ts now next parts = true) : ∃ (n : Nat) (hn : n < ts.length), now = n ∧ tabAt ts now = ts[n] ∧ sltsOk ts[n].slots parts = true ∧ ts.length ≤ 4 := by
  unfold modOk at h
  rw [Bool.and_eq_true, Bool.and_eq_true, Bool.and_eq_true] at h
  obtain ⟨⟨⟨a, b⟩, _⟩, d⟩ := h
  have a := inB_iff.1 a
  have b := inB_iff.1 b
  obtain ⟨n, rfl⟩ := Int.eq_ofNat_of_zero_le b.1
  have hn : n < ts.length := by omega
  unfold tabsOk at d
  rw [List.all_eq_true] at d
  refine ⟨n, hn, rfl, ?_, d _ (List.getElem_mem hn), by omega⟩
  unfold tabAt
  rw [List.getD_eq_getElem?_getD, Int.toNat_natCast, List.getElem?_eq_getElem hn]; rfl
theorem modeTick_bad {ts : List Tab} {now next parts t : Int} (h : modOk ts now next parts = false) : modeTick ts now next parts t = -2 := by
  unfold modeTick; rw [h]; rfl
theorem modeTick_out {ts : List Tab} {now next parts t : Int} (h : inB t 0 ((fr (tabAt ts now).slots).length - 1) = false) : modeTick ts now next parts t = -2 := by
  unfold modeTick; rw [h, Bool.and_false]; rfl
theorem modeTick_in {ts : List Tab} {now next parts t : Int} (h : modOk ts now next parts = true) (h' : inB t 0 ((fr (tabAt ts now).slots).length - 1) = true) : modeTick ts now next parts t = whoAt (fr (tabAt ts now).slots) t.toNat := by
  unfold modeTick; rw [h, h']; rfl

set_option maxRecDepth 100000 in
set_option maxHeartbeats 1600000 in
theorem callModeTick (A : Option Addr) (c : Nat) (ts : List Tab) (now next parts t : Int) (w : World) (B : Nat) (hB : B ≤ w.heap.size) (hm : ts.length ≤ 1048576) (hp1 : -10 ≤ parts) (hp2 : parts ≤ 10) (hr : RdT w B A ts) :
    Calls Try.prog 21 #[.agg #[.slice A ts.length c, .int .i64 now, .int .i64 next], .int .i64 parts, .int .i64 t] w fun e w' => e = .returned (.int .i64 (modeTick ts now next parts t)) ∧ Below w.heap.size w w' := by
  have K0 := Lib.hid (heap_alloc_new w (.cells #[.slice A ts.length c, .int .i64 now, .int .i64 next] 25))
  have HB := Lib.hid (below1 w (.cells #[.slice A ts.length c, .int .i64 now, .int .i64 next] 25))
  have HR := Lib.hid (hr.below (HB.out.mono hB))
  have V := Lib.hid (callModesValid A c ts now next parts _ B (Nat.le_trans hB HB.out.size) hm hp1 hp2 HR.out)
  clear hr
  obtain ⟨x0, x1, x2, _, _, _, x6⟩ := cell3 K0.out
  cases q : modOk ts now next parts
  · have E := Lib.hid (modeTick_bad (t := t) q)
    rw [q] at V
    go_enter Try.func21, Try.ntmps21
    go_wp2_with fail
    refine V.out.mono ?_
    rintro e w1 ⟨rfl, hb1⟩
    have HB1 := Lib.hid (bel_trans HB.out hb1)
    clear q
    go_wp2
    go_ret
    exact ⟨by rw [E.out] <;> rfl, HB1.out⟩
  · obtain ⟨n, hn, rfl, hcur, hs, hl4⟩ := mod_cur q
    obtain ⟨b, off, rfl, hbB, h1⟩ := HR.out.1.at1 rfl hn rfl
    have HW := HR.out.slots hn
    have HIN : Hid (inB t 0 ((fr ts[n].slots).length - 1) = true → modeTick ts n next parts t = whoAt (fr ts[n].slots) t.toNat) := fun h => by
      rw [← hcur] at h ⊢; exact modeTick_in q h
    have HOUT : Hid (inB t 0 ((fr ts[n].slots).length - 1) = false → modeTick ts n next parts t = -2) := fun h => by
      rw [← hcur] at h; exact modeTick_out h
    have hbd := fr_bd hs
    have HS := Lib.hid hs
    rw [q] at V
    clear q hcur hs
    go_enter Try.func21, Try.ntmps21
    go_wp2_with fail
    refine V.out.mono ?_
    rintro e w1 ⟨rfl, hb1⟩
    have HB1 := Lib.hid (bel_trans HB.out hb1)
    have h1' : w1.cell? ⟨b, off + n, none⟩ = some (.slice ts[n].A ts[n].slots.length ts[n].c) := (hb1.cell (p := ⟨b, off + n, none⟩) (by show b < _; have := HB.out.size; omega)).trans h1
    obtain ⟨y0, y1, y2, _, _, _, y6⟩ := cell3 (blkc K0.out hb1)
    have FC := Lib.hid (callFrame ts[n].A ts[n].c ts[n].slots parts w1 B (Nat.le_trans hB HB1.out.size) HS.out (HW.1.below (hb1.mono (Nat.le_trans hB HB.out.size))))
    clear x0 x1 x2 x6 h1 hb1 HR V K0 HW
    have hd0 : decide ((n : Int) < (ts.length : Int)) = true := decide_eq_true (by omega)
    go_wp2_with fail
    refine FC.out.mono ?_
    rintro e w2 ⟨v, rfl, hown, hb2⟩
    obtain ⟨A1, c1, hv, hc1, _⟩ := hown.form
    subst hv
    have HB2 := Lib.hid (bel_trans HB1.out hb2)
    have HO := Lib.hid hown.rd
    have hwl : IntKind.i64.wrap (((fr ts[n].slots).length : Int) - 1) = ((fr ts[n].slots).length : Int) - 1 := IntWalk.i64_in _ (by omega)
    clear y0 y1 y2 y6 h1' hown hb2 FC
    cases q1 : inB t 0 (((fr ts[n].slots).length : Int) - 1)
    · have E := Lib.hid (HOUT.out q1)
      go_wp2_with (go_at_call 62; refine (callIn _ _ _ _).mono ?_; rintro e w' ⟨rfl, rfl⟩)
      go_ret
      exact ⟨by rw [E.out] <;> rfl, HB2.out⟩
    · have E := Lib.hid (HIN.out q1)
      have h2 := inB_iff.1 q1
      obtain ⟨k, rfl⟩ := Int.eq_ofNat_of_zero_le h2.1
      have hk : k < (fr ts[n].slots).length := by omega
      have EW : Hid (whoAt (fr ts[n].slots) ((k : Int)).toNat = (fr ts[n].slots)[k]) := by rw [Int.toNat_natCast]; exact whoAt_lt hk
      obtain ⟨b', off', rfl, hbB', h3⟩ := HO.out.at1 rfl hk rfl
      clear h2
      go_wp2_with (go_at_call 62; refine (callIn _ _ _ _).mono ?_; rintro e w' ⟨rfl, rfl⟩)
      go_ret
      exact ⟨by rw [E.out, EW.out] <;> rfl, HB2.out⟩
set_option maxRecDepth 100000 in
set_option maxHeartbeats 1600000 in
theorem callSModeTick (A : Option Addr) (c : Nat) (ts : List Tab) (now next parts t : Int) (w : World) (B : Nat) (hB : B ≤ w.heap.size) (hm : ts.length ≤ 1048576) (hp1 : -10 ≤ parts) (hp2 : parts ≤ 10) (hr : RdT w B A ts) :
    Calls Try.prog 42 #[.agg #[.slice A ts.length c, .int .i64 now, .int .i64 next], .int .i64 parts, .int .i64 t] w fun e w' => e = .returned (.int .i64 (modeTick ts now next parts t)) ∧ Below w.heap.size w w' := by
  have K0 := Lib.hid (heap_alloc_new w (.cells #[.slice A ts.length c, .int .i64 now, .int .i64 next] 25))
  have HB := Lib.hid (below1 w (.cells #[.slice A ts.length c, .int .i64 now, .int .i64 next] 25))
  have HR := Lib.hid (hr.below (HB.out.mono hB))
  have V := Lib.hid (callSModesValid A c ts now next parts _ B (Nat.le_trans hB HB.out.size) hm hp1 hp2 HR.out)
  clear hr
  obtain ⟨x0, x1, x2, _, _, _, x6⟩ := cell3 K0.out
  cases q : modOk ts now next parts
  · have E := Lib.hid (modeTick_bad (t := t) q)
    rw [q] at V
    go_enter Try.func42, Try.ntmps42
    go_wp2_with fail
    refine V.out.mono ?_
    rintro e w1 ⟨rfl, hb1⟩
    have HB1 := Lib.hid (bel_trans HB.out hb1)
    clear q
    go_wp2
    go_ret
    exact ⟨by rw [E.out] <;> rfl, HB1.out⟩
  · obtain ⟨n, hn, rfl, hcur, hs, hl4⟩ := mod_cur q
    obtain ⟨b, off, rfl, hbB, h1⟩ := HR.out.1.at1 rfl hn rfl
    have HW := HR.out.slots hn
    have HIN : Hid (inB t 0 ((fr ts[n].slots).length - 1) = true → modeTick ts n next parts t = whoAt (fr ts[n].slots) t.toNat) := fun h => by
      rw [← hcur] at h ⊢; exact modeTick_in q h
    have HOUT : Hid (inB t 0 ((fr ts[n].slots).length - 1) = false → modeTick ts n next parts t = -2) := fun h => by
      rw [← hcur] at h; exact modeTick_out h
    have hbd := fr_bd hs
    have HS := Lib.hid hs
    rw [q] at V
    clear q hcur hs
    go_enter Try.func42, Try.ntmps42
    go_wp2_with fail
    refine V.out.mono ?_
    rintro e w1 ⟨rfl, hb1⟩
    have HB1 := Lib.hid (bel_trans HB.out hb1)
    have h1' : w1.cell? ⟨b, off + n, none⟩ = some (.slice ts[n].A ts[n].slots.length ts[n].c) := (hb1.cell (p := ⟨b, off + n, none⟩) (by show b < _; have := HB.out.size; omega)).trans h1
    have K1 := Lib.hid (blkc K0.out hb1)
    obtain ⟨y0, y1, y2, _, _, _, y6⟩ := cell3 K1.out
    have HW1 := Lib.hid (HW.1.below (hb1.mono (Nat.le_trans hB HB.out.size)))
    have hms := HW.2
    have FC := Lib.hid (callSFrameTicksY ts[n].A ts[n].c ts[n].slots parts HS.out w1 B (Nat.le_trans hB HB1.out.size) hms hp1 hp2 HW1.out)
    clear x0 x1 x2 x6 h1 hb1 HR V K0 HW
    have hd0 : decide ((n : Int) < (ts.length : Int)) = true := decide_eq_true (by omega)
    have hwl : IntKind.i64.wrap (((fr ts[n].slots).length : Int) - 1) = ((fr ts[n].slots).length : Int) - 1 := IntWalk.i64_in _ (by omega)
    go_wp2_with fail
    refine FC.out.mono ?_
    rintro e w2 ⟨rfl, hb2⟩
    have HB2 := Lib.hid (bel_trans HB1.out hb2)
    have h2' : w2.cell? ⟨b, off + n, none⟩ = some (.slice ts[n].A ts[n].slots.length ts[n].c) := (hb2.cell (p := ⟨b, off + n, none⟩) (by show b < _; have := HB1.out.size; omega)).trans h1'
    obtain ⟨z0, z1, z2, _, _, _, z6⟩ := cell3 (blkc K1.out hb2)
    have FW := Lib.hid (callSWhoRuns ts[n].A ts[n].c ts[n].slots parts t w2 B (Nat.le_trans hB HB2.out.size) hms hp1 hp2 (HW1.out.below (hb2.mono (Nat.le_trans hB HB1.out.size))))
    clear y0 y1 y2 y6 h1' hb2 FC K1
    cases q1 : inB t 0 (((fr ts[n].slots).length : Int) - 1)
    · have E := Lib.hid (HOUT.out q1)
      go_wp2_with (go_at_call 67; refine (callL1In _ _ _ _).mono ?_; rintro e w' ⟨rfl, rfl⟩)
      go_ret
      exact ⟨by rw [E.out] <;> rfl, HB2.out⟩
    · have E := Lib.hid (HIN.out q1)
      have h2 := inB_iff.1 q1
      have EW : Hid (whoRuns ts[n].slots parts t = whoAt (fr ts[n].slots) t.toNat) := by
        show _ = _
        unfold whoRuns tkOk
        rw [HS.out, inB_iff.2 (by omega), Bool.and_self]; rfl
      rw [EW.out] at FW
      clear h2
      go_wp2_with (first | (go_at_call 67; refine (callL1In _ _ _ _).mono ?_; rintro e w' ⟨rfl, rfl⟩) | (go_at_call 79; refine FW.out.mono ?_; rintro e w3 ⟨rfl, hb3⟩))
      go_ret
      exact ⟨by rw [E.out] <;> rfl, bel_trans HB2.out hb3⟩
end Go.Proofs.Ytapkgncmjinedaa
