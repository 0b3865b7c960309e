/- AskMode and EndFrame at any number of partitions, the rows of the program's results apart. -/
import Derived.Test.YtapkgncmjinedaaMoc
namespace Go.Proofs.Ytapkgncmjinedaa
open Go.RowKit Go.Sort
theorem rows_ne {ts : List Tab} {now next parts : Int} (h : modOk ts now next parts = true) : ∀ t, t ∈ ts → t.slots ≠ [] := fun t ht e => by
  unfold modOk at h
  rw [Bool.and_eq_true] at h
  unfold tabsOk at h
  have := List.all_eq_true.1 h.2 t ht
  have := (sltsOk_iff.1 this).2.1.1
  rw [e] at this; simp at this
theorem rows_20 {ts : List Tab} {now next parts : Int} (h : modOk ts now next parts = true) : ∀ t, t ∈ ts → t.slots.length ≤ 20 := fun t ht => by
  unfold modOk at h
  rw [Bool.and_eq_true] at h
  unfold tabsOk at h
  have := List.all_eq_true.1 h.2 t ht
  have := (sltsOk_iff.1 this).2.1.2
  omega
def AskResA (w : World) (r : List (List Slt) × Int × Int × Bool) (e : Ending) (w' : World) : Prop :=
  ∃ A c us now next ok, e = .returned (.tuple #[.agg #[.slice A (us : List Tab).length c, .int .i64 now, .int .i64 next], .bool ok]) ∧ OwnT w' w.heap.size (.slice A us.length c) us ∧ r = (us.map Tab.slots, now, next, ok) ∧ Sep us us.length ∧ Below w.heap.size w w'
def EndResA (w : World) (r : List (List Slt) × Int × Int) (e : Ending) (w' : World) : Prop :=
  ∃ A c us now next, e = .returned (.agg #[.slice A (us : List Tab).length c, .int .i64 now, .int .i64 next]) ∧ OwnT w' w.heap.size (.slice A us.length c) us ∧ r = (us.map Tab.slots, now, next) ∧ Sep us us.length ∧ Below w.heap.size w w'
set_option maxRecDepth 100000 in
set_option maxHeartbeats 3200000 in
theorem callAskModeA (A : Option Addr) (c : Nat) (ts : List Tab) (now next parts n : Int) (w : World) (B : Nat) (hB : B ≤ w.heap.size) (hc : ts.length ≤ c) (hm : ts.length ≤ 1048576) (hcap : ∀ t, t ∈ ts → t.slots.length ≤ t.c) (hr : RdT w B A ts) :
    Calls Try.prog 50 #[.agg #[.slice A ts.length c, .int .i64 now, .int .i64 next], .int .i64 parts, .int .i64 n] w (AskResA w (askMode ts now next parts n)) := by
  have E : Hid (askMode ts now next parts n = if modOk ts now next parts then (ts.map Tab.slots, now, askNext ts.length next n, inB n 0 ((ts.length : Int) - 1)) else ([], 0, 0, false)) := rfl
  have HV := Lib.hid (below2 w (.cells #[.slice A ts.length c, .int .i64 now, .int .i64 next] 25) (.cells #[.slice none 0 0, .int .i64 0, .int .i64 0] 25))
  have K0 := Lib.hid (alloc_at0 w (.cells #[.slice A ts.length c, .int .i64 now, .int .i64 next] 25) (.cells #[.slice none 0 0, .int .i64 0, .int .i64 0] 25))
  have K1 := Lib.hid (alloc_at1 w (.cells #[.slice A ts.length c, .int .i64 now, .int .i64 next] 25) (.cells #[.slice none 0 0, .int .i64 0, .int .i64 0] 25))
  have HR := Lib.hid (hr.below (HV.out.mono hB))
  have HCAP := Lib.hid hcap
  clear hr hcap
  go_enter Try.func50, Try.ntmps50
  go_upto_region 1 with (fail)
  obtain ⟨u, hu⟩ : ∃ u, u = ((w.alloc (.cells #[.slice A ts.length c, .int .i64 now, .int .i64 next] 25)).alloc (.cells #[.slice none 0 0, .int .i64 0, .int .i64 0] 25)) := ⟨_, rfl⟩
  rw [← hu] at HV K0 K1 HR ⊢
  clear hu
  have hsu : w.heap.size + 1 < u.heap.size := (cell3 K1.out).2.2.2.2.2.2
  obtain ⟨x0, x1, x2, x3, x4, x5, x6⟩ := cell3 K0.out
  go_wp2_with fail
  refine (callModesValidA A c ts now next parts u B (by omega) hm HR.out).mono ?_
  rintro e w1 ⟨rfl, hb1⟩
  have HB1 := Lib.hid (bel_trans HV.out hb1)
  have KP := Lib.hid (blkc K0.out hb1)
  have KR := Lib.hid (blkc K1.out hb1)
  have HR1 := Lib.hid (HR.out.below (hb1.mono (by omega)))
  clear hb1 K0 K1 HR x0 x1 x2 x3 x4 x5 x6
  obtain ⟨x0, x1, x2, x3, x4, x5, x6⟩ := cell3 KP.out
  obtain ⟨r0, r1, r2, r3, r4, r5, r6⟩ := cell3 KR.out
  cases q : modOk ts now next parts
  · rw [q] at E
    have HF := Lib.hid (bset3 (b := w.heap.size + 1) HB1.out (by omega) (.slice none 0 0) (.int .i64 0) (.int .i64 0))
    obtain ⟨f0, f1, f2⟩ := res3 KR.out (.slice none 0 0) (.int .i64 0) (.int .i64 0)
    clear q
    go_wp2_with fail
    exact bodyPost_ret (v := .tuple #[.agg #[.slice none 0 0, .int .i64 0, .int .i64 0], .bool false]) (by simp [results, Try.results50, go_sem, f0, f1, f2]) rfl ⟨none, 0, [], 0, 0, false, rfl, OwnT.none_, E.out, sep0 [], HF.out⟩
  · rw [q] at E
    have hm4 := (modOk_next q).2.2.2.2.1
    have HNE := Lib.hid (rows_ne q)
    have HCAP2 : Hid (CapT ts) := fun t ht => ⟨HCAP.out t ht, rows_20 q t ht⟩
    clear q
    go_wp2_with fail
    refine (callCopyOfModesA A c ts now next w1 B (by have := HB1.out.size; omega) hc hm4 HCAP2.out HNE.out HR1.out).mono ?_
    rintro e w2 ⟨A2, us, rfl, ho2, hmp, hsp, hb2⟩
    have HSP := Lib.hid hsp
    clear hsp
    have HB2 := Lib.hid (bel_trans HB1.out hb2)
    have KR2 := Lib.hid (blkc KR.out hb2)
    have HO2 := Lib.hid (And.intro ho2 hmp)
    have HL2 : Hid (us.length = ts.length) := by show _ = _; have := congrArg List.length hmp; simpa using this
    clear ho2 hmp hb2 KP KR x0 x1 x2 x3 x4 x5 x6 r0 r1 r2 r3 r4 r5 r6
    have hul : us.length ≤ 1048576 := by have := HL2.out; omega
    go_wp2_with fail
    refine (callAsk A2 us.length us.length now next n w2 hul).mono ?_
    rintro e w3 ⟨rfl, hb3⟩
    have HB3 := Lib.hid (bel_trans HB2.out hb3)
    have KR3 := Lib.hid (blkc KR2.out hb3)
    have HO3 := Lib.hid ((HO2.out.1.next hb3))
    obtain ⟨r0, r1, r2, r3, r4, r5, r6⟩ := cell3 KR3.out
    obtain ⟨nx, hnx⟩ : ∃ nx, nx = askNext us.length next n := ⟨_, rfl⟩
    obtain ⟨ok, hok⟩ : ∃ ok, ok = inB n 0 ((us.length : Int) - 1) := ⟨_, rfl⟩
    rw [← hnx, ← hok]
    have EE : Hid (askMode ts now next parts n = (us.map Tab.slots, now, nx, ok)) := by
      show _ = _
      rw [E.out, HO2.out.2, hnx, hok, HL2.out]; rfl
    clear hnx hok hb3
    have HF := Lib.hid (bset3 (b := w.heap.size + 1) HB3.out (by omega) (.slice A2 us.length us.length) (.int .i64 now) (.int .i64 nx))
    obtain ⟨f0, f1, f2⟩ := res3 KR3.out (.slice A2 us.length us.length) (.int .i64 now) (.int .i64 nx)
    have HOF := Lib.hid (modes3 KR3.out (.slice A2 us.length us.length) (.int .i64 now) (.int .i64 nx) HO3.out)
    have hsz := HB1.out.size
    go_wp2_with fail
    exact bodyPost_ret (v := .tuple #[.agg #[.slice A2 us.length us.length, .int .i64 now, .int .i64 nx], .bool ok]) (by simp [results, Try.results50, go_sem, f0, f1, f2]) rfl ⟨A2, us.length, us, now, nx, ok, rfl, ⟨HOF.out.1.more hsz, fun p hp => ⟨(HOF.out.2 p hp).1.more hsz, (HOF.out.2 p hp).2⟩⟩, EE.out, HSP.out, HF.out⟩
set_option maxRecDepth 100000 in
set_option maxHeartbeats 3200000 in
theorem callEndFrameA (A : Option Addr) (c : Nat) (ts : List Tab) (now next parts : Int) (w : World) (B : Nat) (hB : B ≤ w.heap.size) (hc : ts.length ≤ c) (hm : ts.length ≤ 1048576) (hcap : ∀ t, t ∈ ts → t.slots.length ≤ t.c) (hr : RdT w B A ts) :
    Calls Try.prog 31 #[.agg #[.slice A ts.length c, .int .i64 now, .int .i64 next], .int .i64 parts] w (EndResA w (endFrame ts now next parts)) := by
  have E : Hid (endFrame ts now next parts = if modOk ts now next parts then (ts.map Tab.slots, endNow now next, -1) else ([], 0, 0)) := rfl
  have HV := Lib.hid (below2 w (.cells #[.slice A ts.length c, .int .i64 now, .int .i64 next] 25) (.cells #[.slice none 0 0, .int .i64 0, .int .i64 0] 25))
  have K0 := Lib.hid (alloc_at0 w (.cells #[.slice A ts.length c, .int .i64 now, .int .i64 next] 25) (.cells #[.slice none 0 0, .int .i64 0, .int .i64 0] 25))
  have K1 := Lib.hid (alloc_at1 w (.cells #[.slice A ts.length c, .int .i64 now, .int .i64 next] 25) (.cells #[.slice none 0 0, .int .i64 0, .int .i64 0] 25))
  have HR := Lib.hid (hr.below (HV.out.mono hB))
  have HCAP := Lib.hid hcap
  clear hr hcap
  go_enter Try.func31, Try.ntmps31
  go_upto_region 1 with (fail)
  obtain ⟨u, hu⟩ : ∃ u, u = ((w.alloc (.cells #[.slice A ts.length c, .int .i64 now, .int .i64 next] 25)).alloc (.cells #[.slice none 0 0, .int .i64 0, .int .i64 0] 25)) := ⟨_, rfl⟩
  rw [← hu] at HV K0 K1 HR ⊢
  clear hu
  have hsu : w.heap.size + 1 < u.heap.size := (cell3 K1.out).2.2.2.2.2.2
  obtain ⟨x0, x1, x2, x3, x4, x5, x6⟩ := cell3 K0.out
  go_wp2_with fail
  refine (callModesValidA A c ts now next parts u B (by omega) hm HR.out).mono ?_
  rintro e w1 ⟨rfl, hb1⟩
  have HB1 := Lib.hid (bel_trans HV.out hb1)
  have KP := Lib.hid (blkc K0.out hb1)
  have KR := Lib.hid (blkc K1.out hb1)
  have HR1 := Lib.hid (HR.out.below (hb1.mono (by omega)))
  clear hb1 K0 K1 HR x0 x1 x2 x3 x4 x5 x6
  obtain ⟨x0, x1, x2, x3, x4, x5, x6⟩ := cell3 KP.out
  obtain ⟨r0, r1, r2, r3, r4, r5, r6⟩ := cell3 KR.out
  cases q : modOk ts now next parts
  · rw [q] at E
    have HF := Lib.hid (bset3 (b := w.heap.size + 1) HB1.out (by omega) (.slice none 0 0) (.int .i64 0) (.int .i64 0))
    obtain ⟨f0, f1, f2⟩ := res3 KR.out (.slice none 0 0) (.int .i64 0) (.int .i64 0)
    clear q
    go_wp2_with fail
    exact bodyPost_ret (v := .agg #[.slice none 0 0, .int .i64 0, .int .i64 0]) (by simp [results, Try.results31, go_sem, f0, f1, f2]) rfl ⟨none, 0, [], 0, 0, rfl, OwnT.none_, E.out, sep0 [], HF.out⟩
  · rw [q] at E
    have hm4 := (modOk_next q).2.2.2.2.1
    have HNE := Lib.hid (rows_ne q)
    have HCAP2 : Hid (CapT ts) := fun t ht => ⟨HCAP.out t ht, rows_20 q t ht⟩
    have HN1 := Lib.hid (endNext_ok (modOk_next q).1)
    clear q
    go_wp2_with fail
    refine (callCopyOfModesA A c ts now next w1 B (by have := HB1.out.size; omega) hc hm4 HCAP2.out HNE.out HR1.out).mono ?_
    rintro e w2 ⟨A2, us, rfl, ho2, hmp, hsp, hb2⟩
    have HSP := Lib.hid hsp
    clear hsp
    have HB2 := Lib.hid (bel_trans HB1.out hb2)
    have KR2 := Lib.hid (blkc KR.out hb2)
    have HO2 := Lib.hid (And.intro ho2 hmp)
    clear ho2 hmp hb2 KP KR x0 x1 x2 x3 x4 x5 x6 r0 r1 r2 r3 r4 r5 r6
    go_wp2_with fail
    refine (callEnd A2 us.length us.length now next w2).mono ?_
    rintro e w3 ⟨rfl, hb3⟩
    rw [HN1.out]
    have HB3 := Lib.hid (bel_trans HB2.out hb3)
    have KR3 := Lib.hid (blkc KR2.out hb3)
    have HO3 := Lib.hid ((HO2.out.1.next hb3))
    obtain ⟨r0, r1, r2, r3, r4, r5, r6⟩ := cell3 KR3.out
    obtain ⟨nx, hnx⟩ : ∃ nx, nx = endNow now next := ⟨_, rfl⟩
    rw [← hnx]
    have EE : Hid (endFrame ts now next parts = (us.map Tab.slots, nx, -1)) := by
      show _ = _
      rw [E.out, HO2.out.2, hnx]; rfl
    clear hnx hb3
    have HF := Lib.hid (bset3 (b := w.heap.size + 1) HB3.out (by omega) (.slice A2 us.length us.length) (.int .i64 nx) (.int .i64 (-1)))
    obtain ⟨f0, f1, f2⟩ := res3 KR3.out (.slice A2 us.length us.length) (.int .i64 nx) (.int .i64 (-1))
    have HOF := Lib.hid (modes3 KR3.out (.slice A2 us.length us.length) (.int .i64 nx) (.int .i64 (-1)) HO3.out)
    have hsz := HB1.out.size
    go_wp2_with fail
    exact bodyPost_ret (v := .agg #[.slice A2 us.length us.length, .int .i64 nx, .int .i64 (-1)]) (by simp [results, Try.results31, go_sem, f0, f1, f2]) rfl ⟨A2, us.length, us, nx, -1, rfl, ⟨HOF.out.1.more hsz, fun p hp => ⟨(HOF.out.2 p hp).1.more hsz, (HOF.out.2 p hp).2⟩⟩, EE.out, HSP.out, HF.out⟩
set_option maxRecDepth 100000 in
set_option maxHeartbeats 3200000 in
theorem callSAskModeA (A : Option Addr) (c : Nat) (ts : List Tab) (now next parts n : Int) (w : World) (B : Nat) (hB : B ≤ w.heap.size) (hm : ts.length ≤ 1048576) (hcap : ∀ t, t ∈ ts → t.slots.length ≤ t.c) (hr : RdT w B A ts) :
    Calls Try.prog 49 #[.agg #[.slice A ts.length c, .int .i64 now, .int .i64 next], .int .i64 parts, .int .i64 n] w (AskRes w (askMode ts now next parts n)) := by
  have E : Hid (askMode ts now next parts n = if modOk ts now next parts then (ts.map Tab.slots, now, askNext ts.length next n, inB n 0 ((ts.length : Int) - 1)) else ([], 0, 0, false)) := rfl
  have EA : Hid (askNext ts.length next n = if inB n 0 ((ts.length : Int) - 1) then n else next) := rfl
  have hwl : IntKind.i64.wrap ((ts.length : Int) - 1) = (ts.length : Int) - 1 := IntWalk.i64_in _ (by omega)
  have HV := Lib.hid (below2 w (.cells #[.slice A ts.length c, .int .i64 now, .int .i64 next] 25) (.cells #[.slice none 0 0, .int .i64 0, .int .i64 0] 25))
  have K0 := Lib.hid (alloc_at0 w (.cells #[.slice A ts.length c, .int .i64 now, .int .i64 next] 25) (.cells #[.slice none 0 0, .int .i64 0, .int .i64 0] 25))
  have K1 := Lib.hid (alloc_at1 w (.cells #[.slice A ts.length c, .int .i64 now, .int .i64 next] 25) (.cells #[.slice none 0 0, .int .i64 0, .int .i64 0] 25))
  have HR := Lib.hid (hr.below (HV.out.mono hB))
  have HCAP := Lib.hid hcap
  clear hr hcap
  go_enter Try.func49, Try.ntmps49
  go_upto_region 1 with (fail)
  obtain ⟨u, hu⟩ : ∃ u, u = ((w.alloc (.cells #[.slice A ts.length c, .int .i64 now, .int .i64 next] 25)).alloc (.cells #[.slice none 0 0, .int .i64 0, .int .i64 0] 25)) := ⟨_, rfl⟩
  rw [← hu] at HV K0 K1 HR ⊢
  clear hu
  have hsu : w.heap.size + 1 < u.heap.size := (cell3 K1.out).2.2.2.2.2.2
  obtain ⟨x0, x1, x2, x3, x4, x5, x6⟩ := cell3 K0.out
  go_wp2_with fail
  refine (callSModesValidA A c ts now next parts u B (by omega) hm HR.out).mono ?_
  rintro e w1 ⟨rfl, hb1⟩
  have HB1 := Lib.hid (bel_trans HV.out hb1)
  have KP := Lib.hid (blkc K0.out hb1)
  have KR := Lib.hid (blkc K1.out hb1)
  have HR1 := Lib.hid (HR.out.below (hb1.mono (by omega)))
  clear hb1 K0 K1 HR x0 x1 x2 x3 x4 x5 x6
  obtain ⟨x0, x1, x2, x3, x4, x5, x6⟩ := cell3 KP.out
  obtain ⟨r0, r1, r2, r3, r4, r5, r6⟩ := cell3 KR.out
  cases q : modOk ts now next parts
  · rw [q] at E
    have HF := Lib.hid (bset3 (b := w.heap.size + 1) HB1.out (by omega) (.slice none 0 0) (.int .i64 0) (.int .i64 0))
    obtain ⟨f0, f1, f2⟩ := res3 KR.out (.slice none 0 0) (.int .i64 0) (.int .i64 0)
    clear q
    go_wp2_with fail
    exact bodyPost_ret (v := .tuple #[.agg #[.slice none 0 0, .int .i64 0, .int .i64 0], .bool false]) (by simp [results, Try.results49, go_sem, f0, f1, f2]) rfl ⟨none, 0, [], 0, 0, false, rfl, OwnT.none_, E.out, HF.out⟩
  · rw [q] at E
    have hm4 := (modOk_next q).2.2.2.2.1
    have HCAP2 : Hid (CapT ts) := fun t ht => ⟨HCAP.out t ht, rows_20 q t ht⟩
    clear q
    go_wp2_with fail
    refine (callSCopyOfModes A c ts now next w1 B (by have := HB1.out.size; omega) hm4 HCAP2.out HR1.out).mono ?_
    rintro e w2 ⟨A2, c2, us, rfl, ho2, hmp, hb2⟩
    have hs2 : w.heap.size + 1 < w2.heap.size := (cell3 (blkc KR.out hb2)).2.2.2.2.2.2
    have HB3 := Lib.hid (bel_trans (bel_trans HB1.out hb2) (below1 w2 (.cells #[.slice A2 us.length c2, .int .i64 now, .int .i64 next] 25)))
    have KR3 := Lib.hid (blkc (blkc KR.out hb2) (below1 w2 (.cells #[.slice A2 us.length c2, .int .i64 now, .int .i64 next] 25)))
    have KP3 := Lib.hid (blkc (blkc KP.out hb2) (below1 w2 (.cells #[.slice A2 us.length c2, .int .i64 now, .int .i64 next] 25)))
    have KX3 := Lib.hid (heap_alloc_new w2 (.cells #[.slice A2 us.length c2, .int .i64 now, .int .i64 next] 25))
    have HO3 := Lib.hid ((ho2.alloc (.cells #[.slice A2 us.length c2, .int .i64 now, .int .i64 next] 25)).more HB1.out.size)
    have HMP := Lib.hid hmp
    clear ho2 hmp hb2 KP KR HB1 x0 x1 x2 x3 x4 x5 x6 r0 r1 r2 r3 r4 r5 r6
    go_upto_region 4 with (fail)
    obtain ⟨w3, hw3⟩ : ∃ w3, w3 = w2.alloc (.cells #[.slice A2 us.length c2, .int .i64 now, .int .i64 next] 25) := ⟨_, rfl⟩
    obtain ⟨X, hX⟩ : ∃ X, X = w2.heap.size := ⟨_, rfl⟩
    rw [← hw3] at HB3 KR3 KP3 KX3 HO3 ⊢
    rw [← hX] at KX3 hs2 ⊢
    clear hw3 hX
    obtain ⟨x0, x1, x2, x3, x4, x5, x6⟩ := cell3 KP3.out
    obtain ⟨y0, y1, y2, y3, y4, y5, y6⟩ := cell3 KX3.out
    obtain ⟨r0, r1, r2, r3, r4, r5, r6⟩ := cell3 KR3.out
    cases q : inB n 0 ((ts.length : Int) - 1)
    · rw [q] at EA
      have EE : Hid (askMode ts now next parts n = (us.map Tab.slots, now, next, false)) := by
        show _ = _
        rw [E.out, HMP.out, EA.out, q]; rfl
      have HF := Lib.hid (bset3 (b := w.heap.size + 1) HB3.out (by omega) (.slice A2 us.length c2) (.int .i64 now) (.int .i64 next))
      obtain ⟨f0, f1, f2⟩ := res3 KR3.out (.slice A2 us.length c2) (.int .i64 now) (.int .i64 next)
      have HOF := Lib.hid (modes3 KR3.out (.slice A2 us.length c2) (.int .i64 now) (.int .i64 next) HO3.out)
      go_wp2_with (go_at_call 67; refine (callL1In _ _ _ _).mono ?_; rintro e w' ⟨rfl, rfl⟩)
      exact bodyPost_ret (v := .tuple #[.agg #[.slice A2 us.length c2, .int .i64 now, .int .i64 next], .bool false]) (by simp [results, Try.results49, go_sem, f0, f1, f2]) rfl ⟨A2, c2, us, now, next, false, rfl, HOF.out, EE.out, HF.out⟩
    · rw [q] at EA
      have EE : Hid (askMode ts now next parts n = (us.map Tab.slots, now, n, true)) := by
        show _ = _
        rw [E.out, HMP.out, EA.out, q]; rfl
      have G := gset (w := w3) (g := X) 2 (.int .i64 n)
      have KX4 := Lib.hid (set3c (u := .int .i64 n) KX3.out)
      have KR4 := Lib.hid (gblk G KR3.out (by simp; omega))
      have HO4 := Lib.hid (HO3.out.otherM G KX3.out)
      have HB4 := Lib.hid (HB3.out.setCell (p := ⟨X, 2, none⟩) (by show _ ≤ X; omega) (.int .i64 n))
      clear G
      have HF := Lib.hid (bset3 (b := w.heap.size + 1) HB4.out (by omega) (.slice A2 us.length c2) (.int .i64 now) (.int .i64 n))
      obtain ⟨f0, f1, f2⟩ := res3 KR4.out (.slice A2 us.length c2) (.int .i64 now) (.int .i64 n)
      have HOF := Lib.hid (modes3 KR4.out (.slice A2 us.length c2) (.int .i64 now) (.int .i64 n) HO4.out)
      obtain ⟨z0, z1, z2, z3, z4, z5, z6⟩ := cell3 KX4.out
      obtain ⟨s0, s1, s2, s3, s4, s5, s6⟩ := cell3 KR4.out
      go_wp2_with (go_at_call 67; refine (callL1In _ _ _ _).mono ?_; rintro e w' ⟨rfl, rfl⟩)
      exact bodyPost_ret (v := .tuple #[.agg #[.slice A2 us.length c2, .int .i64 now, .int .i64 n], .bool true]) (by simp [results, Try.results49, go_sem, f0, f1, f2]) rfl ⟨A2, c2, us, now, n, true, rfl, HOF.out, EE.out, HF.out⟩
set_option maxRecDepth 100000 in
set_option maxHeartbeats 3200000 in
theorem callSEndFrameA (A : Option Addr) (c : Nat) (ts : List Tab) (now next parts : Int) (w : World) (B : Nat) (hB : B ≤ w.heap.size) (hm : ts.length ≤ 1048576) (hcap : ∀ t, t ∈ ts → t.slots.length ≤ t.c) (hr : RdT w B A ts) :
    Calls Try.prog 33 #[.agg #[.slice A ts.length c, .int .i64 now, .int .i64 next], .int .i64 parts] w (EndRes w (endFrame ts now next parts)) := by
  have E : Hid (endFrame ts now next parts = if modOk ts now next parts then (ts.map Tab.slots, endNow now next, -1) else ([], 0, 0)) := rfl
  have EA : Hid (endNow now next = if 0 ≤ next then next else now) := rfl
  have HV := Lib.hid (below2 w (.cells #[.slice A ts.length c, .int .i64 now, .int .i64 next] 25) (.cells #[.slice none 0 0, .int .i64 0, .int .i64 0] 25))
  have K0 := Lib.hid (alloc_at0 w (.cells #[.slice A ts.length c, .int .i64 now, .int .i64 next] 25) (.cells #[.slice none 0 0, .int .i64 0, .int .i64 0] 25))
  have K1 := Lib.hid (alloc_at1 w (.cells #[.slice A ts.length c, .int .i64 now, .int .i64 next] 25) (.cells #[.slice none 0 0, .int .i64 0, .int .i64 0] 25))
  have HR := Lib.hid (hr.below (HV.out.mono hB))
  have HCAP := Lib.hid hcap
  clear hr hcap
  go_enter Try.func33, Try.ntmps33
  go_upto_region 1 with (fail)
  obtain ⟨u, hu⟩ : ∃ u, u = ((w.alloc (.cells #[.slice A ts.length c, .int .i64 now, .int .i64 next] 25)).alloc (.cells #[.slice none 0 0, .int .i64 0, .int .i64 0] 25)) := ⟨_, rfl⟩
  rw [← hu] at HV K0 K1 HR ⊢
  clear hu
  have hsu : w.heap.size + 1 < u.heap.size := (cell3 K1.out).2.2.2.2.2.2
  obtain ⟨x0, x1, x2, x3, x4, x5, x6⟩ := cell3 K0.out
  go_wp2_with fail
  refine (callSModesValidA A c ts now next parts u B (by omega) hm HR.out).mono ?_
  rintro e w1 ⟨rfl, hb1⟩
  have HB1 := Lib.hid (bel_trans HV.out hb1)
  have KP := Lib.hid (blkc K0.out hb1)
  have KR := Lib.hid (blkc K1.out hb1)
  have HR1 := Lib.hid (HR.out.below (hb1.mono (by omega)))
  clear hb1 K0 K1 HR x0 x1 x2 x3 x4 x5 x6
  obtain ⟨x0, x1, x2, x3, x4, x5, x6⟩ := cell3 KP.out
  obtain ⟨r0, r1, r2, r3, r4, r5, r6⟩ := cell3 KR.out
  cases q : modOk ts now next parts
  · rw [q] at E
    have HF := Lib.hid (bset3 (b := w.heap.size + 1) HB1.out (by omega) (.slice none 0 0) (.int .i64 0) (.int .i64 0))
    obtain ⟨f0, f1, f2⟩ := res3 KR.out (.slice none 0 0) (.int .i64 0) (.int .i64 0)
    clear q
    go_wp2_with fail
    exact bodyPost_ret (v := .agg #[.slice none 0 0, .int .i64 0, .int .i64 0]) (by simp [results, Try.results33, go_sem, f0, f1, f2]) rfl ⟨none, 0, [], 0, 0, rfl, OwnT.none_, E.out, HF.out⟩
  · rw [q] at E
    have hm4 := (modOk_next q).2.2.2.2.1
    have HCAP2 : Hid (CapT ts) := fun t ht => ⟨HCAP.out t ht, rows_20 q t ht⟩
    clear q
    go_wp2_with fail
    refine (callSCopyOfModes A c ts now next w1 B (by have := HB1.out.size; omega) hm4 HCAP2.out HR1.out).mono ?_
    rintro e w2 ⟨A2, c2, us, rfl, ho2, hmp, hb2⟩
    have hs2 : w.heap.size + 1 < w2.heap.size := (cell3 (blkc KR.out hb2)).2.2.2.2.2.2
    have HB3 := Lib.hid (bel_trans (bel_trans HB1.out hb2) (below1 w2 (.cells #[.slice A2 us.length c2, .int .i64 now, .int .i64 next] 25)))
    have KR3 := Lib.hid (blkc (blkc KR.out hb2) (below1 w2 (.cells #[.slice A2 us.length c2, .int .i64 now, .int .i64 next] 25)))
    have KX3 := Lib.hid (heap_alloc_new w2 (.cells #[.slice A2 us.length c2, .int .i64 now, .int .i64 next] 25))
    have HO3 := Lib.hid ((ho2.alloc (.cells #[.slice A2 us.length c2, .int .i64 now, .int .i64 next] 25)).more HB1.out.size)
    have HMP := Lib.hid hmp
    clear ho2 hmp hb2 KP KR HB1 x0 x1 x2 x3 x4 x5 x6 r0 r1 r2 r3 r4 r5 r6
    go_upto_region 4 with (fail)
    obtain ⟨w3, hw3⟩ : ∃ w3, w3 = w2.alloc (.cells #[.slice A2 us.length c2, .int .i64 now, .int .i64 next] 25) := ⟨_, rfl⟩
    obtain ⟨X, hX⟩ : ∃ X, X = w2.heap.size := ⟨_, rfl⟩
    rw [← hw3] at HB3 KR3 KX3 HO3 ⊢
    rw [← hX] at KX3 hs2 ⊢
    clear hw3 hX
    obtain ⟨y0, y1, y2, y3, y4, y5, y6⟩ := cell3 KX3.out
    obtain ⟨r0, r1, r2, r3, r4, r5, r6⟩ := cell3 KR3.out
    have EE : Hid (∀ nx, endNow now next = nx → endFrame ts now next parts = (us.map Tab.slots, nx, -1)) := fun nx h => by
      rw [E.out, HMP.out, h]; rfl
    have FIN : Hid (∀ (wx : World) (nx nn : Int), Below w.heap.size w wx → wx.heap[w.heap.size + 1]? = some (.cells #[.slice none 0 0, .int .i64 0, .int .i64 0] 25 (0, 0)) → wx.heap[X]? = some (.cells #[.slice A2 us.length c2, .int .i64 nx, .int .i64 nn] 25 (0, 0)) → OwnT wx w.heap.size (.slice A2 us.length c2) us →
        (wx.setCell ⟨X, 2, none⟩ (.int .i64 (-1))).heap[w.heap.size + 1]? = some (.cells #[.slice none 0 0, .int .i64 0, .int .i64 0] 25 (0, 0)) ∧ (wx.setCell ⟨X, 2, none⟩ (.int .i64 (-1))).heap[X]? = some (.cells #[.slice A2 us.length c2, .int .i64 nx, .int .i64 (-1)] 25 (0, 0)) ∧ Below w.heap.size w (wx.setCell ⟨X, 2, none⟩ (.int .i64 (-1))) ∧ OwnT (wx.setCell ⟨X, 2, none⟩ (.int .i64 (-1))) w.heap.size (.slice A2 us.length c2) us) := fun wx nx nn hb hr hx ho => by
      have G := gset (w := wx) (g := X) 2 (.int .i64 (-1))
      exact ⟨gblk G hr (by simp; omega), set3c hx, hb.setCell (p := ⟨X, 2, none⟩) (by show _ ≤ X; omega) _, ho.otherM G hx⟩
    by_cases h : 0 ≤ next
    · have hd : decide (next ≥ 0) = true := decide_eq_true h
      have EQ := Lib.hid (EE.out next (EA.out.trans (if_pos h)))
      have G := gset (w := w3) (g := X) 1 (.int .i64 next)
      have KX4 := Lib.hid (set3b (u := .int .i64 next) KX3.out)
      have HH := Lib.hid (FIN.out (w3.setCell ⟨X, 1, none⟩ (.int .i64 next)) next next (HB3.out.setCell (p := ⟨X, 1, none⟩) (by show _ ≤ X; omega) _) (gblk G KR3.out (by simp; omega)) KX4.out (HO3.out.otherM G KX3.out))
      clear G
      obtain ⟨z0, z1, z2, z3, z4, z5, z6⟩ := cell3 KX4.out
      obtain ⟨t0, t1, t2, t3, t4, t5, t6⟩ := cell3 HH.out.2.1
      obtain ⟨s0, s1, s2, s3, s4, s5, s6⟩ := cell3 HH.out.1
      have HF := Lib.hid (bset3 (b := w.heap.size + 1) HH.out.2.2.1 (by omega) (.slice A2 us.length c2) (.int .i64 next) (.int .i64 (-1)))
      obtain ⟨f0, f1, f2⟩ := res3 HH.out.1 (.slice A2 us.length c2) (.int .i64 next) (.int .i64 (-1))
      have HOF := Lib.hid (modes3 HH.out.1 (.slice A2 us.length c2) (.int .i64 next) (.int .i64 (-1)) HH.out.2.2.2)
      go_wp2_with fail
      exact bodyPost_ret (v := .agg #[.slice A2 us.length c2, .int .i64 next, .int .i64 (-1)]) (by simp [results, Try.results33, go_sem, f0, f1, f2]) rfl ⟨A2, c2, us, next, -1, rfl, HOF.out, EQ.out, HF.out⟩
    · have hd : decide (next ≥ 0) = false := decide_eq_false h
      have EQ := Lib.hid (EE.out now (EA.out.trans (if_neg h)))
      have HH := Lib.hid (FIN.out w3 now next HB3.out KR3.out KX3.out HO3.out)
      obtain ⟨t0, t1, t2, t3, t4, t5, t6⟩ := cell3 HH.out.2.1
      obtain ⟨s0, s1, s2, s3, s4, s5, s6⟩ := cell3 HH.out.1
      have HF := Lib.hid (bset3 (b := w.heap.size + 1) HH.out.2.2.1 (by omega) (.slice A2 us.length c2) (.int .i64 now) (.int .i64 (-1)))
      obtain ⟨f0, f1, f2⟩ := res3 HH.out.1 (.slice A2 us.length c2) (.int .i64 now) (.int .i64 (-1))
      have HOF := Lib.hid (modes3 HH.out.1 (.slice A2 us.length c2) (.int .i64 now) (.int .i64 (-1)) HH.out.2.2.2)
      go_wp2_with fail
      exact bodyPost_ret (v := .agg #[.slice A2 us.length c2, .int .i64 now, .int .i64 (-1)]) (by simp [results, Try.results33, go_sem, f0, f1, f2]) rfl ⟨A2, c2, us, now, -1, rfl, HOF.out, EQ.out, HF.out⟩
end Go.Proofs.Ytapkgncmjinedaa
