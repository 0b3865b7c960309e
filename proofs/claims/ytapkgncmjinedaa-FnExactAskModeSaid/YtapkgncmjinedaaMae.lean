/- AskMode and EndFrame of the program and of the reference, for every input. -/
import Derived.Test.YtapkgncmjinedaaMcs
import Derived.Test.YtapkgncmjinedaaMde
namespace Go.Proofs.Ytapkgncmjinedaa
open Go.RowKit Go.Sort
def askNext (m : Nat) (next n : Int) : Int := if inB n 0 ((m : Int) - 1) then n else next
def askMode (ts : List Tab) (now next parts n : Int) : List (List Slt) × Int × Int × Bool :=
  if modOk ts now next parts then (ts.map Tab.slots, now, askNext ts.length next n, inB n 0 ((ts.length : Int) - 1)) else ([], 0, 0, false)
def endFrame (ts : List Tab) (now next parts : Int) : List (List Slt) × Int × Int :=
  if modOk ts now next parts then (ts.map Tab.slots, endNow now next, -1) else ([], 0, 0)
theorem modOk_next {ts : List Tab} {now next parts : Int} (h : modOk ts now next parts = true) : -1 ≤ next ∧ next ≤ (ts.length : Int) - 1 ∧ 0 ≤ now ∧ now ≤ (ts.length : Int) - 1 ∧ ts.length ≤ 4 ∧ 1 ≤ ts.length := by
  unfold modOk at h
  rw [Bool.and_eq_true, Bool.and_eq_true, Bool.and_eq_true] at h
  obtain ⟨⟨⟨a, b⟩, c⟩, _⟩ := h
  have a := inB_iff.1 a
  have b := inB_iff.1 b
  have c := inB_iff.1 c
  omega
theorem endNext_ok {next : Int} (h : -1 ≤ next) : endNext next = -1 := by
  unfold endNext
  split
  · rfl
  · omega
/-- What AskMode leaves. -/
def AskRes (w : World) (r : List (List Slt) × Int × Int × Bool) (e : Ending) (w' : World) : Prop :=
  ∃ A c us now next ok, e = .returned (.tuple #[.agg #[.slice A (us : List Tab).length c, .int .i64 now, .int .i64 next], .bool ok]) ∧ OwnT w' w.heap.size (.slice A us.length c) us ∧ r = (us.map Tab.slots, now, next, ok) ∧ Below w.heap.size w w'
/-- What EndFrame leaves. -/
def EndRes (w : World) (r : List (List Slt) × Int × Int) (e : Ending) (w' : World) : Prop :=
  ∃ A c us now next, e = .returned (.agg #[.slice A (us : List Tab).length c, .int .i64 now, .int .i64 next]) ∧ OwnT w' w.heap.size (.slice A us.length c) us ∧ r = (us.map Tab.slots, now, next) ∧ Below w.heap.size w w'
set_option maxRecDepth 100000 in
set_option maxHeartbeats 1600000 in
theorem callAsk (A : Option Addr) (m c : Nat) (now next n : Int) (w : World) (hm : m ≤ 1048576) :
    Calls Try.prog 56 #[.agg #[.slice A m c, .int .i64 now, .int .i64 next], .int .i64 n] w fun e w' => e = .returned (.tuple #[.agg #[.slice A m c, .int .i64 now, .int .i64 (askNext m next n)], .bool (inB n 0 ((m : Int) - 1))]) ∧ Below w.heap.size w w' := by
  have HV := Lib.hid (below2 w (.cells #[.slice A m c, .int .i64 now, .int .i64 next] 25) (.cells #[.slice none 0 0, .int .i64 0, .int .i64 0] 25))
  have K0 := Lib.hid (alloc_at0 w (.cells #[.slice A m c, .int .i64 now, .int .i64 next] 25) (.cells #[.slice none 0 0, .int .i64 0, .int .i64 0] 25))
  have K1 := Lib.hid (alloc_at1 w (.cells #[.slice A m c, .int .i64 now, .int .i64 next] 25) (.cells #[.slice none 0 0, .int .i64 0, .int .i64 0] 25))
  have hwl : IntKind.i64.wrap ((m : Int) - 1) = (m : Int) - 1 := IntWalk.i64_in _ (by omega)
  go_enter Try.func56, Try.ntmps56
  go_upto_region 1 with (fail)
  obtain ⟨u, hu⟩ : ∃ u, u = ((w.alloc (.cells #[.slice A m c, .int .i64 now, .int .i64 next] 25)).alloc (.cells #[.slice none 0 0, .int .i64 0, .int .i64 0] 25)) := ⟨_, rfl⟩
  rw [← hu] at HV K0 K1 ⊢
  clear hu
  obtain ⟨x0, x1, x2, x3, x4, x5, x6⟩ := cell3 K0.out
  obtain ⟨r0, r1, r2, r3, r4, r5, r6⟩ := cell3 K1.out
  have E : Hid (askNext m next n = if inB n 0 ((m : Int) - 1) then n else next) := rfl
  cases q : inB n 0 ((m : Int) - 1)
  · rw [q] at E
    have HV3 := Lib.hid (bset3 (b := w.heap.size + 1) HV.out (by omega) (.slice A m c) (.int .i64 now) (.int .i64 next))
    obtain ⟨f0, f1, f2⟩ := res3 K1.out (.slice A m c) (.int .i64 now) (.int .i64 next)
    go_wp2_with (go_at_call 62; refine (callIn _ _ _ _).mono ?_; rintro e w' ⟨rfl, rfl⟩)
    exact bodyPost_ret (v := .tuple #[.agg #[.slice A m c, .int .i64 now, .int .i64 next], .bool false]) (by simp [results, Try.results56, go_sem, f0, f1, f2]) rfl ⟨by rw [E.out, q] <;> rfl, HV3.out⟩
  · rw [q] at E
    have G1 := Lib.hid (set3c (u := .int .i64 n) K0.out)
    have G2 := Lib.hid (gblk (gset (g := w.heap.size) 2 (.int .i64 n)) K1.out (by simp))
    have HV2 := Lib.hid (HV.out.setCell (p := ⟨w.heap.size, 2, none⟩) (Nat.le_refl _) (.int .i64 n))
    have HV3 := Lib.hid (bset3 (b := w.heap.size + 1) HV2.out (by omega) (.slice A m c) (.int .i64 now) (.int .i64 n))
    obtain ⟨y0, y1, y2, y3, y4, y5, y6⟩ := cell3 G1.out
    obtain ⟨z0, z1, z2, z3, z4, z5, z6⟩ := cell3 G2.out
    obtain ⟨f0, f1, f2⟩ := res3 G2.out (.slice A m c) (.int .i64 now) (.int .i64 n)
    go_wp2_with (go_at_call 62; refine (callIn _ _ _ _).mono ?_; rintro e w' ⟨rfl, rfl⟩)
    exact bodyPost_ret (v := .tuple #[.agg #[.slice A m c, .int .i64 now, .int .i64 n], .bool true]) (by simp [results, Try.results56, go_sem, f0, f1, f2]) rfl ⟨by rw [E.out, q] <;> rfl, HV3.out⟩
set_option maxRecDepth 100000 in
set_option maxHeartbeats 3200000 in
theorem callAskMode (A : Option Addr) (c : Nat) (ts : List Tab) (now next parts n : Int) (w : World) (B : Nat) (hB : B ≤ w.heap.size) (hc : ts.length ≤ c) (hm : ts.length ≤ 1048576) (hp1 : -10 ≤ parts) (hp2 : parts ≤ 10) (hcap : CapT ts) (hr : RdT w B A ts) :
    Calls Try.prog 50 #[.agg #[.slice A ts.length c, .int .i64 now, .int .i64 next], .int .i64 parts, .int .i64 n] w (AskRes w (askMode ts now next parts n)) := by
  have E : Hid (askMode ts now next parts n = if modOk ts now next parts then (ts.map Tab.slots, now, askNext ts.length next n, inB n 0 ((ts.length : Int) - 1)) else ([], 0, 0, false)) := rfl
  have HV := Lib.hid (below2 w (.cells #[.slice A ts.length c, .int .i64 now, .int .i64 next] 25) (.cells #[.slice none 0 0, .int .i64 0, .int .i64 0] 25))
  have K0 := Lib.hid (alloc_at0 w (.cells #[.slice A ts.length c, .int .i64 now, .int .i64 next] 25) (.cells #[.slice none 0 0, .int .i64 0, .int .i64 0] 25))
  have K1 := Lib.hid (alloc_at1 w (.cells #[.slice A ts.length c, .int .i64 now, .int .i64 next] 25) (.cells #[.slice none 0 0, .int .i64 0, .int .i64 0] 25))
  have HR := Lib.hid (hr.below (HV.out.mono hB))
  have HCAP := Lib.hid hcap
  clear hr hcap
  go_enter Try.func50, Try.ntmps50
  go_upto_region 1 with (fail)
  obtain ⟨u, hu⟩ : ∃ u, u = ((w.alloc (.cells #[.slice A ts.length c, .int .i64 now, .int .i64 next] 25)).alloc (.cells #[.slice none 0 0, .int .i64 0, .int .i64 0] 25)) := ⟨_, rfl⟩
  rw [← hu] at HV K0 K1 HR ⊢
  clear hu
  have hsu : w.heap.size + 1 < u.heap.size := (cell3 K1.out).2.2.2.2.2.2
  obtain ⟨x0, x1, x2, x3, x4, x5, x6⟩ := cell3 K0.out
  go_wp2_with fail
  refine (callModesValid A c ts now next parts u B (by omega) hm hp1 hp2 HR.out).mono ?_
  rintro e w1 ⟨rfl, hb1⟩
  have HB1 := Lib.hid (bel_trans HV.out hb1)
  have KP := Lib.hid (blkc K0.out hb1)
  have KR := Lib.hid (blkc K1.out hb1)
  have HR1 := Lib.hid (HR.out.below (hb1.mono (by omega)))
  clear hb1 K0 K1 HR x0 x1 x2 x3 x4 x5 x6
  obtain ⟨x0, x1, x2, x3, x4, x5, x6⟩ := cell3 KP.out
  obtain ⟨r0, r1, r2, r3, r4, r5, r6⟩ := cell3 KR.out
  cases q : modOk ts now next parts
  · rw [q] at E
    have HF := Lib.hid (bset3 (b := w.heap.size + 1) HB1.out (by omega) (.slice none 0 0) (.int .i64 0) (.int .i64 0))
    obtain ⟨f0, f1, f2⟩ := res3 KR.out (.slice none 0 0) (.int .i64 0) (.int .i64 0)
    clear q
    go_wp2_with fail
    exact bodyPost_ret (v := .tuple #[.agg #[.slice none 0 0, .int .i64 0, .int .i64 0], .bool false]) (by simp [results, Try.results50, go_sem, f0, f1, f2]) rfl ⟨none, 0, [], 0, 0, false, rfl, OwnT.none_, E.out, HF.out⟩
  · rw [q] at E
    have hm4 := (modOk_next q).2.2.2.2.1
    clear q
    go_wp2_with fail
    refine (callCopyOfModes A c ts now next w1 B (by have := HB1.out.size; omega) hc hm4 HCAP.out HR1.out).mono ?_
    rintro e w2 ⟨A2, us, rfl, ho2, hmp, hb2⟩
    have HB2 := Lib.hid (bel_trans HB1.out hb2)
    have KR2 := Lib.hid (blkc KR.out hb2)
    have HO2 := Lib.hid (And.intro ho2 hmp)
    have HL2 : Hid (us.length = ts.length) := by show _ = _; have := congrArg List.length hmp; simpa using this
    clear ho2 hmp hb2 KP KR x0 x1 x2 x3 x4 x5 x6 r0 r1 r2 r3 r4 r5 r6
    have hul : us.length ≤ 1048576 := by have := HL2.out; omega
    go_wp2_with fail
    refine (callAsk A2 us.length us.length now next n w2 hul).mono ?_
    rintro e w3 ⟨rfl, hb3⟩
    have HB3 := Lib.hid (bel_trans HB2.out hb3)
    have KR3 := Lib.hid (blkc KR2.out hb3)
    have HO3 := Lib.hid ((HO2.out.1.next hb3))
    obtain ⟨r0, r1, r2, r3, r4, r5, r6⟩ := cell3 KR3.out
    obtain ⟨nx, hnx⟩ : ∃ nx, nx = askNext us.length next n := ⟨_, rfl⟩
    obtain ⟨ok, hok⟩ : ∃ ok, ok = inB n 0 ((us.length : Int) - 1) := ⟨_, rfl⟩
    rw [← hnx, ← hok]
    have EE : Hid (askMode ts now next parts n = (us.map Tab.slots, now, nx, ok)) := by
      show _ = _
      rw [E.out, HO2.out.2, hnx, hok, HL2.out]; rfl
    clear hnx hok hb3
    have HF := Lib.hid (bset3 (b := w.heap.size + 1) HB3.out (by omega) (.slice A2 us.length us.length) (.int .i64 now) (.int .i64 nx))
    obtain ⟨f0, f1, f2⟩ := res3 KR3.out (.slice A2 us.length us.length) (.int .i64 now) (.int .i64 nx)
    have HOF := Lib.hid (modes3 KR3.out (.slice A2 us.length us.length) (.int .i64 now) (.int .i64 nx) HO3.out)
    have hsz := HB1.out.size
    go_wp2_with fail
    exact bodyPost_ret (v := .tuple #[.agg #[.slice A2 us.length us.length, .int .i64 now, .int .i64 nx], .bool ok]) (by simp [results, Try.results50, go_sem, f0, f1, f2]) rfl ⟨A2, us.length, us, now, nx, ok, rfl, ⟨HOF.out.1.more hsz, fun p hp => ⟨(HOF.out.2 p hp).1.more hsz, (HOF.out.2 p hp).2⟩⟩, EE.out, HF.out⟩
set_option maxRecDepth 100000 in
set_option maxHeartbeats 3200000 in
theorem callEndFrame (A : Option Addr) (c : Nat) (ts : List Tab) (now next parts : Int) (w : World) (B : Nat) (hB : B ≤ w.heap.size) (hc : ts.length ≤ c) (hm : ts.length ≤ 1048576) (hp1 : -10 ≤ parts) (hp2 : parts ≤ 10) (hcap : CapT ts) (hr : RdT w B A ts) :
    Calls Try.prog 31 #[.agg #[.slice A ts.length c, .int .i64 now, .int .i64 next], .int .i64 parts] w (EndRes w (endFrame ts now next parts)) := by
  have E : Hid (endFrame ts now next parts = if modOk ts now next parts then (ts.map Tab.slots, endNow now next, -1) else ([], 0, 0)) := rfl
  have HV := Lib.hid (below2 w (.cells #[.slice A ts.length c, .int .i64 now, .int .i64 next] 25) (.cells #[.slice none 0 0, .int .i64 0, .int .i64 0] 25))
  have K0 := Lib.hid (alloc_at0 w (.cells #[.slice A ts.length c, .int .i64 now, .int .i64 next] 25) (.cells #[.slice none 0 0, .int .i64 0, .int .i64 0] 25))
  have K1 := Lib.hid (alloc_at1 w (.cells #[.slice A ts.length c, .int .i64 now, .int .i64 next] 25) (.cells #[.slice none 0 0, .int .i64 0, .int .i64 0] 25))
  have HR := Lib.hid (hr.below (HV.out.mono hB))
  have HCAP := Lib.hid hcap
  clear hr hcap
  go_enter Try.func31, Try.ntmps31
  go_upto_region 1 with (fail)
  obtain ⟨u, hu⟩ : ∃ u, u = ((w.alloc (.cells #[.slice A ts.length c, .int .i64 now, .int .i64 next] 25)).alloc (.cells #[.slice none 0 0, .int .i64 0, .int .i64 0] 25)) := ⟨_, rfl⟩
  rw [← hu] at HV K0 K1 HR ⊢
  clear hu
  have hsu : w.heap.size + 1 < u.heap.size := (cell3 K1.out).2.2.2.2.2.2
  obtain ⟨x0, x1, x2, x3, x4, x5, x6⟩ := cell3 K0.out
  go_wp2_with fail
  refine (callModesValid A c ts now next parts u B (by omega) hm hp1 hp2 HR.out).mono ?_
  rintro e w1 ⟨rfl, hb1⟩
  have HB1 := Lib.hid (bel_trans HV.out hb1)
  have KP := Lib.hid (blkc K0.out hb1)
  have KR := Lib.hid (blkc K1.out hb1)
  have HR1 := Lib.hid (HR.out.below (hb1.mono (by omega)))
  clear hb1 K0 K1 HR x0 x1 x2 x3 x4 x5 x6
  obtain ⟨x0, x1, x2, x3, x4, x5, x6⟩ := cell3 KP.out
  obtain ⟨r0, r1, r2, r3, r4, r5, r6⟩ := cell3 KR.out
  cases q : modOk ts now next parts
  · rw [q] at E
    have HF := Lib.hid (bset3 (b := w.heap.size + 1) HB1.out (by omega) (.slice none 0 0) (.int .i64 0) (.int .i64 0))
    obtain ⟨f0, f1, f2⟩ := res3 KR.out (.slice none 0 0) (.int .i64 0) (.int .i64 0)
    clear q
    go_wp2_with fail
    exact bodyPost_ret (v := .agg #[.slice none 0 0, .int .i64 0, .int .i64 0]) (by simp [results, Try.results31, go_sem, f0, f1, f2]) rfl ⟨none, 0, [], 0, 0, rfl, OwnT.none_, E.out, HF.out⟩
  · rw [q] at E
    have hm4 := (modOk_next q).2.2.2.2.1
    have HN1 := Lib.hid (endNext_ok (modOk_next q).1)
    clear q
    go_wp2_with fail
    refine (callCopyOfModes A c ts now next w1 B (by have := HB1.out.size; omega) hc hm4 HCAP.out HR1.out).mono ?_
    rintro e w2 ⟨A2, us, rfl, ho2, hmp, hb2⟩
    have HB2 := Lib.hid (bel_trans HB1.out hb2)
    have KR2 := Lib.hid (blkc KR.out hb2)
    have HO2 := Lib.hid (And.intro ho2 hmp)
    clear ho2 hmp hb2 KP KR x0 x1 x2 x3 x4 x5 x6 r0 r1 r2 r3 r4 r5 r6
    go_wp2_with fail
    refine (callEnd A2 us.length us.length now next w2).mono ?_
    rintro e w3 ⟨rfl, hb3⟩
    rw [HN1.out]
    have HB3 := Lib.hid (bel_trans HB2.out hb3)
    have KR3 := Lib.hid (blkc KR2.out hb3)
    have HO3 := Lib.hid ((HO2.out.1.next hb3))
    obtain ⟨r0, r1, r2, r3, r4, r5, r6⟩ := cell3 KR3.out
    obtain ⟨nx, hnx⟩ : ∃ nx, nx = endNow now next := ⟨_, rfl⟩
    rw [← hnx]
    have EE : Hid (endFrame ts now next parts = (us.map Tab.slots, nx, -1)) := by
      show _ = _
      rw [E.out, HO2.out.2, hnx]; rfl
    clear hnx hb3
    have HF := Lib.hid (bset3 (b := w.heap.size + 1) HB3.out (by omega) (.slice A2 us.length us.length) (.int .i64 nx) (.int .i64 (-1)))
    obtain ⟨f0, f1, f2⟩ := res3 KR3.out (.slice A2 us.length us.length) (.int .i64 nx) (.int .i64 (-1))
    have HOF := Lib.hid (modes3 KR3.out (.slice A2 us.length us.length) (.int .i64 nx) (.int .i64 (-1)) HO3.out)
    have hsz := HB1.out.size
    go_wp2_with fail
    exact bodyPost_ret (v := .agg #[.slice A2 us.length us.length, .int .i64 nx, .int .i64 (-1)]) (by simp [results, Try.results31, go_sem, f0, f1, f2]) rfl ⟨A2, us.length, us, nx, -1, rfl, ⟨HOF.out.1.more hsz, fun p hp => ⟨(HOF.out.2 p hp).1.more hsz, (HOF.out.2 p hp).2⟩⟩, EE.out, HF.out⟩
end Go.Proofs.Ytapkgncmjinedaa
