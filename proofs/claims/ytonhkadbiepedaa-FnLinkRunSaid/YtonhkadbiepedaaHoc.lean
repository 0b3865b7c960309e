/- The functions of holds of the program and of the reference, for every input. -/
import Derived.Test.YtonhkadbiepedaaWin
import Derived.Test.YtonhkadbiepedaaIdx
import Derived.Test.YtonhkadbiepedaaCon
import Derived.Test.YtonhkadbiepedaaHol
import Derived.Deep.QuietTactic
import Derived.Deep.RegionHeld3
import Derived.Deep.DeepCutAuto
namespace Go.Proofs.Ytonhkadbiepedaa
open Go.RowKit Go.Sort

theorem callIsValue (n : Int) (w : World) : Calls Try.prog 37 #[.int .i64 n] w fun e w' => e = .returned (.bool (valOk n)) ∧ w = w' := by
  have E : Hid (valOk n = inB n 0 255) := rfl
  go_enter Try.func37, Try.ntmps37
  go_wp2_with (go_at_call 44; refine (callIn _ _ _ _).mono ?_; rintro e w' ⟨rfl, rfl⟩)
  go_ret
  exact ⟨by rw [E.out] <;> rfl, rfl⟩
theorem callSized (kind size : Int) (w : World) : Calls Try.prog 34 #[.int .i64 kind, .int .i64 size] w fun e w' => e = .returned (.bool (sizedB kind size)) ∧ w = w' := by
  have E : Hid (sizedB kind size = ((kind == 1 && size == 1) || ((kind == 2 || kind == 3) && inB size 1 4))) := rfl
  by_cases k1 : kind = 1
  · subst k1
    cases q : (size == 1)
    all_goals
      go_enter Try.func34, Try.ntmps34
      go_wp2_with (go_at_call 44; refine (callIn _ _ _ _).mono ?_; rintro e w' ⟨rfl, rfl⟩)
      go_ret
      exact ⟨by rw [E.out, q] <;> rfl, rfl⟩
  · have d1 : (kind == 1) = false := by rw [beq_eq_false_iff_ne]; exact k1
    by_cases k2 : kind = 2
    · subst k2
      go_enter Try.func34, Try.ntmps34
      go_wp2_with (go_at_call 44; refine (callIn _ _ _ _).mono ?_; rintro e w' ⟨rfl, rfl⟩)
      go_ret
      exact ⟨by rw [E.out] <;> rfl, rfl⟩
    · have d2 : (kind == 2) = false := by rw [beq_eq_false_iff_ne]; exact k2
      by_cases k3 : kind = 3
      · subst k3
        go_enter Try.func34, Try.ntmps34
        go_wp2_with (go_at_call 44; refine (callIn _ _ _ _).mono ?_; rintro e w' ⟨rfl, rfl⟩)
        go_ret
        exact ⟨by rw [E.out] <;> rfl, rfl⟩
      · have d3 : (kind == 3) = false := by rw [beq_eq_false_iff_ne]; exact k3
        go_enter Try.func34, Try.ntmps34
        go_wp2_with (go_at_call 44; refine (callIn _ _ _ _).mono ?_; rintro e w' ⟨rfl, rfl⟩)
        go_ret
        exact ⟨by rw [E.out, d1, d2, d3] <;> rfl, rfl⟩
theorem callValBad (n : Int) (w : World) : Calls Try.prog 36 #[.int .i64 n] w fun e w' => e = .returned (.bool (!valOk n)) ∧ Below w.heap.size w w' := by
  go_enter Try.func36, Try.ntmps36
  go_wp2_with (go_at_call 37; refine (callIsValue _ _).mono ?_; rintro e w' ⟨rfl, rfl⟩)
  go_ret
  exact ⟨rfl, Below.refl _ _⟩
theorem egValBad : ∀ (args : Array Value) (w : World), (callFunc 36 args).run Try.prog w = .ok (.enter 36 args) w := enters_fn Try.func36 (by kernel_rfl) rfl
set_option maxHeartbeats 800000 in
theorem callHoldValid (A : Option Addr) (c : Nat) (h : List Int) (kind size : Int) (w : World) (B : Nat) (hB : B ≤ w.heap.size) (hm : h.length ≤ 1048576) (hr : Rd eInt w B A h) :
    Calls Try.prog 11 #[.agg #[.slice A h.length c], .int .i64 kind, .int .i64 size] w fun e w' => e = .returned (.bool (holdOk h kind size)) ∧ Below w.heap.size w w' := by
  have hmf := run_makeFunc Try.prog
  have HC := Lib.hid (callContainsInt A c h 36 #[] (fun x => !valOk x) (w.alloc (.cells #[.slice A h.length c] 25)) B (by simp; omega) (by omega) (hr.below ((below1 _ _).mono hB)) egValBad (fun x _ w' _ => callValBad x w'))
  have E : Hid (holdOk h kind size = ((sizedB kind size && decide ((h.length : Int) ≤ size)) && !h.any fun x => !valOk x)) := by rw [not_any_not]; rfl
  clear hr
  generalize (h.any fun x => !valOk x) = q at *
  cases q1 : sizedB kind size
  · rw [q1] at E
    go_enter Try.func11, Try.ntmps11
    go_wp2_with (go_at_call 34; refine (callSized _ _ _).mono ?_; rintro e w' ⟨rfl, rfl⟩)
    go_ret
    exact ⟨by rw [E.out] <;> rfl, below1 _ _⟩
  · rw [q1] at E
    by_cases hl : (h.length : Int) ≤ size
    · have hd : decide ((h.length : Int) ≤ size) = true := decide_eq_true hl
      rw [hd] at E
      go_enter Try.func11, Try.ntmps11
      go_wp2_with (first | (go_at_call 34; refine (callSized _ _ _).mono ?_; rintro e w' ⟨rfl, rfl⟩) | (go_at_call 35; refine HC.out.mono ?_; rintro e w1 ⟨rfl, hb1⟩))
      go_ret
      exact ⟨by rw [E.out] <;> simp, bel_trans (below1 _ _) hb1⟩
    · have hd : decide ((h.length : Int) ≤ size) = false := decide_eq_false hl
      rw [hd] at E
      go_enter Try.func11, Try.ntmps11
      go_wp2_with (go_at_call 34; refine (callSized _ _ _).mono ?_; rintro e w' ⟨rfl, rfl⟩)
      go_ret
      exact ⟨by rw [E.out] <;> rfl, below1 _ _⟩

theorem callBit (b : Bool) (w : World) : Calls Try.prog 60 #[.bool b] w fun e w' => e = .returned (.int .i64 (if b then 1 else 0)) ∧ w = w' := by
  cases b
  all_goals
    go_enter Try.func60, Try.ntmps60
    go_wp2
    go_ret
    exact ⟨rfl, rfl⟩
set_option maxRecDepth 100000 in
set_option maxHeartbeats 1600000 in
theorem callHSend (A : Option Addr) (c : Nat) (h : List Int) (kind size m : Int) (w : World) (B : Nat) (hB : B ≤ w.heap.size) (hc : h.length ≤ c) (hm : h.length ≤ 100) (hr : Rd eInt w B A h) :
    Calls Try.prog 40 #[.agg #[.slice A h.length c], .int .i64 kind, .int .i64 size, .int .i64 m] w fun e w' => ∃ A' c', e = .returned (.tuple #[.agg #[.slice A' (hSend h kind size m).1.length c'], .int .i64 (hSend h kind size m).2]) ∧ Own eInt 3 w' w.heap.size (.slice A' (hSend h kind size m).1.length c') (hSend h kind size m).1 ∧ (hSend h kind size m).1.length ≤ c' ∧ Below w.heap.size w w' := by
  have E : Hid (hSend h kind size m = if kind = 1 then ([m], 0) else if (h.length : Int) < size then (h ++ [m], 0) else (h, if kind = 3 then 1 else 0)) := rfl
  have HR := Lib.hid hr
  clear hr
  by_cases k1 : kind = 1
  · rw [if_pos k1] at E
    subst k1
    rw [E.out]
    have HO := Lib.hid (Own.lit (E := eInt) (base := w.heap.size) (xs := [m]) ((w.alloc (.cells #[.slice A h.length c] 25)).alloc (.cells #[.slice (some ⟨w.heap.size + 1 + 1, 0, none⟩) 1 1] 25)) 3 #[.int .i64 m] (by simp; omega) (by simp) rfl)
    clear E
    go_enter Try.func40, Try.ntmps40
    go_wp2
    refine bodyPost_ret (v := .tuple #[.agg #[.slice (some ⟨w.heap.size + 1 + 1, 0, none⟩) 1 1], .int .i64 0]) (by simp [results, Try.results40, go_sem]) rfl ⟨some ⟨w.heap.size + 1 + 1, 0, none⟩, 1, rfl, ?_, by simp, below3 _ _ _ _⟩
    have := HO.out
    simpa using this
  · have d1 : (kind == 1) = false := by rw [beq_eq_false_iff_ne]; exact k1
    rw [if_neg k1] at E
    by_cases hl : (h.length : Int) < size
    · have hd : decide ((h.length : Int) < size) = true := decide_eq_true hl
      rw [if_pos hl] at E
      rw [E.out]
      clear E
      obtain ⟨h2, hh2⟩ : ∃ h2, h2 = h ++ [m] := ⟨_, rfl⟩
      have HH2 := Lib.hid hh2
      have hl2 : h2.length ≤ 101 := by rw [hh2]; simp; omega
      rw [← hh2]
      clear hh2
      obtain ⟨v, hv⟩ : ∃ v, v = ((w.alloc (.cells #[.slice A h.length c] 25)).alloc (.cells #[.slice none 0 0] 25)) := ⟨_, rfl⟩
      have hb0 : Below w.heap.size w v := by rw [hv]; exact below2 _ _ _
      have K1 : Hid (v.heap[w.heap.size + 1]? = some (.cells #[.slice none 0 0] 25 (0, 0))) := by show _ = _; rw [hv]; exact alloc_at1 w _ _
      have hsv : v.heap.size = w.heap.size + 1 + 1 := by rw [hv]; simp
      have C : Hid (Calls Try.prog 58 #[.slice (some ⟨w.heap.size + 1 + 1 + 1, 0, none⟩) 2 2] ((v.alloc (.cells #[.int .i64 m] 3)).alloc (.cells #[.slice A h.length c, .slice (some ⟨w.heap.size + 1 + 1, 0, none⟩) 1 1] 23)) fun e w' => ∃ u, e = .returned u ∧ Own eInt 3 w' (w.heap.size + 1 + 1) u h2 ∧ Below v.heap.size v w') := by
        rw [HH2.out]
        have hz := alloc_at1 v (.cells #[.int .i64 m] 3) (.cells #[.slice A h.length c, .slice (some ⟨v.heap.size, 0, none⟩) 1 1] 23)
        obtain ⟨z0, z1, _, _, _⟩ := cell2 hz
        have r1 := (Rd.new (E := eInt) (xs := [m]) v 3 #[.int .i64 m] rfl).alloc (.cells #[.slice A h.length c, .slice (some ⟨v.heap.size, 0, none⟩) 1 1] 23)
        have := callConcat2 A (some ⟨v.heap.size, 0, none⟩) c 1 (v.heap.size + 1) h [m] _ _ (Nat.le_refl _) (by simp) (by simp; omega) (((HR.out.below (hb0.mono hB)).below ((below2 v _ _).mono (Nat.le_trans hB hb0.size))).mono (by have := hb0.size; simp; omega)) r1 z0 z1
        rw [hsv] at this
        refine this.mono ?_
        rintro e w' ⟨u, rfl, hown, hb⟩
        exact ⟨u, rfl, hown.more (by simp; omega), bel_trans (below2 v _ _) hb⟩
      rw [hv] at C
      clear hsv
      have HB0 := Lib.hid hb0
      have HV := Lib.hid hv
      clear hb0 hv
      go_enter Try.func40, Try.ntmps40
      go_wp2_with fail
      refine C.out.mono ?_
      rintro e w1 ⟨u, rfl, hown, hb1⟩
      obtain ⟨A1, c1, hu, hc1, _⟩ := hown.form
      subst hu
      have HO := Lib.hid hown.clip
      rw [← HV.out] at hb1
      have K2 := Lib.hid (blkc K1.out hb1)
      have HB1 := Lib.hid (bel_trans HB0.out hb1)
      clear hown hb1 K1 HB0 C
      obtain ⟨a1, a2, a3⟩ := cell1 K2.out
      go_wp2_with fail
      refine (callClipInt A1 h2.length c1 hc1 _).mono ?_
      rintro e w2 ⟨rfl, rfl⟩
      have HRS := Lib.hid (res1 K2.out (.slice A1 h2.length h2.length))
      go_wp2
      refine bodyPost_ret (v := .tuple #[.agg #[.slice A1 h2.length h2.length], .int .i64 0]) (by simp [results, Try.results40, go_sem, HRS.out]) rfl ⟨A1, h2.length, rfl, ?_, Nat.le_refl _, ?_⟩
      · exact ((HO.out.kept (gset 0 _) (fun k hk => by cases hk; omega)).more (by omega))
      · exact HB1.out.setCell (p := ⟨w.heap.size + 1, 0, none⟩) (by show w.heap.size ≤ w.heap.size + 1; omega) _
    · have hd : decide ((h.length : Int) < size) = false := decide_eq_false hl
      rw [if_neg hl] at E
      have HK : Hid (((w.alloc (.cells #[.slice A h.length c] 25)).alloc (.cells #[.slice none 0 0] 25)).heap[w.heap.size + 1]? = some (.cells #[.slice none 0 0] 25 (0, 0))) := alloc_at1 w _ _
      go_enter Try.func40, Try.ntmps40
      go_wp2_with fail
      refine (callCopyInt A c h _ B (by simp; omega) hc (by omega) (HR.out.below ((below2 _ _ _).mono hB))).mono ?_
      rintro e w1 ⟨A1, rfl, hown, hb1⟩
      have K2 := Lib.hid (blkc HK.out hb1)
      have HB1 := Lib.hid (bel_trans (below2 w _ _) hb1)
      have HO : Hid (Own eInt 3 w1 (w.heap.size + 1 + 1) (.slice A1 h.length h.length) h) := hown.more (by simp)
      clear hown hb1 HK
      obtain ⟨a1, a2, a3⟩ := cell1 K2.out
      have HRS := Lib.hid (res1 K2.out (.slice A1 h.length h.length))
      cases k3 : (kind == 3)
      · have k3' : ¬ kind = 3 := by intro e; rw [e] at k3; cases k3
        rw [if_neg k3'] at E
        go_wp2_with (go_at_call 60; refine (callBit _ _).mono ?_; rintro e w' ⟨rfl, rfl⟩)
        refine bodyPost_ret (v := .tuple #[.agg #[.slice A1 h.length h.length], .int .i64 0]) (by simp [results, Try.results40, go_sem, HRS.out]) rfl ?_
        rw [E.out]
        exact ⟨A1, h.length, rfl, (HO.out.kept (gset 0 _) (fun k hk => by cases hk; omega)).more (by omega), Nat.le_refl _, HB1.out.setCell (p := ⟨w.heap.size + 1, 0, none⟩) (by show w.heap.size ≤ w.heap.size + 1; omega) _⟩
      · have k3' : kind = 3 := by simpa using k3
        rw [if_pos k3'] at E
        clear k3'
        go_wp2_with (go_at_call 60; refine (callBit _ _).mono ?_; rintro e w' ⟨rfl, rfl⟩)
        refine bodyPost_ret (v := .tuple #[.agg #[.slice A1 h.length h.length], .int .i64 1]) (by simp [results, Try.results40, go_sem, HRS.out]) rfl ?_
        rw [E.out]
        exact ⟨A1, h.length, rfl, (HO.out.kept (gset 0 _) (fun k hk => by cases hk; omega)).more (by omega), Nat.le_refl _, HB1.out.setCell (p := ⟨w.heap.size + 1, 0, none⟩) (by show w.heap.size ≤ w.heap.size + 1; omega) _⟩

theorem hTake_cons {h : List Int} {kind : Int} (h0 : 0 < h.length) : hTake h kind = if kind = 1 then (h, h[0]) else (h.drop 1, h[0]) := by
  cases h with
  | nil => simp at h0
  | cons x xs => rfl
set_option maxRecDepth 100000 in
set_option maxHeartbeats 1600000 in
theorem callHTake (A : Option Addr) (c : Nat) (h : List Int) (kind : Int) (w : World) (B : Nat) (hB : B ≤ w.heap.size) (hc : h.length ≤ c) (hm : h.length ≤ 100) (hr : Rd eInt w B A h) :
    Calls Try.prog 41 #[.agg #[.slice A h.length c], .int .i64 kind] w fun e w' => ∃ A' c', e = .returned (.tuple #[.agg #[.slice A' (hTake h kind).1.length c'], .int .i64 (hTake h kind).2]) ∧ Own eInt 3 w' w.heap.size (.slice A' (hTake h kind).1.length c') (hTake h kind).1 ∧ (hTake h kind).1.length ≤ c' ∧ Below w.heap.size w w' := by
  have HR := Lib.hid hr
  clear hr
  by_cases h0 : h.length = 0
  · have e : hTake h kind = ([], -1) := by rw [List.eq_nil_of_length_eq_zero h0]; rfl
    rw [e]
    have hq : ((h.length : Int) == 0) = true := by rw [beq_iff_eq]; omega
    clear e h0
    go_enter Try.func41, Try.ntmps41
    go_wp2
    refine bodyPost_ret (v := .tuple #[.agg #[.slice none 0 0], .int .i64 (-1)]) (by simp [results, Try.results41, go_sem]) rfl ⟨none, 0, rfl, Own.none_, by simp, below2 _ _ _⟩
  · have hpos : 0 < h.length := by omega
    have hq : ((h.length : Int) == 0) = false := by rw [beq_eq_false_iff_ne]; omega
    have E := Lib.hid (hTake_cons (kind := kind) hpos)
    obtain ⟨b, off, rfl, hbB, h1⟩ := HR.out.at1 rfl hpos rfl
    simp only [Nat.add_zero] at h1
    have hbw : b < w.heap.size := by omega
    obtain ⟨x, hx⟩ : ∃ x, x = h[0] := ⟨_, rfl⟩
    rw [← hx] at E h1
    clear hx
    have hi0 : (0 : Int) < (h.length : Int) := by omega
    have hV := below2 w (.cells #[.slice (some ⟨b, off, none⟩) h.length c] 25) (.cells #[.slice none 0 0] 25)
    have K0 := Lib.hid (alloc_at0 w (.cells #[.slice (some ⟨b, off, none⟩) h.length c] 25) (.cells #[.slice none 0 0] 25))
    have K1 := Lib.hid (alloc_at1 w (.cells #[.slice (some ⟨b, off, none⟩) h.length c] 25) (.cells #[.slice none 0 0] 25))
    have h1v := Lib.hid ((hV.cell (p := ⟨b, off, none⟩) hbw).trans h1)
    have hsv : ((w.alloc (.cells #[.slice (some ⟨b, off, none⟩) h.length c] 25)).alloc (.cells #[.slice none 0 0] 25)).heap.size = w.heap.size + 1 + 1 := by simp
    obtain ⟨v, hv⟩ : ∃ v, v = ((w.alloc (.cells #[.slice (some ⟨b, off, none⟩) h.length c] 25)).alloc (.cells #[.slice none 0 0] 25)) := ⟨_, rfl⟩
    rw [← hv] at hV K0 K1 h1v hsv
    have HV := Lib.hid hV
    have hsv2 : w.heap.size + 1 + 1 ≤ v.heap.size := by omega
    have hbv : b < v.heap.size := by omega
    clear hV h1 hsv
    have g0 := (cell1 K0.out).1
    have g1 := h1v.out
    by_cases k1 : kind = 1
    · subst k1
      have e : hTake h 1 = (h, x) := by rw [E.out]; rfl
      rw [e]
      clear E e
      have C : ∀ W, Below w.heap.size w W → Hid (Calls Try.prog 59 #[.slice (some ⟨b, off, none⟩) h.length c] W fun e w' => ∃ A', e = .returned (.slice A' h.length h.length) ∧ Own eInt 3 w' W.heap.size (.slice A' h.length h.length) h ∧ Below W.heap.size W w') := fun W hW =>
        callCopyInt (some ⟨b, off, none⟩) c h W B (Nat.le_trans hB hW.size) hc (by omega) (HR.out.below (hW.mono hB))
      go_enter Try.func41, Try.ntmps41
      go_upto_region 4 with (fail)
      rw [← hv]
      clear hv
      go_region_held3 (fun w' => w'.cell? ⟨w.heap.size, 0, none⟩ = some (.slice (some ⟨b, off, none⟩) h.length c) ∧ w'.cell? ⟨b, off, none⟩ = some (.int .i64 x)) (first | exact ⟨g0, g1⟩ | (refine ⟨?_, ?_⟩ <;> assumption) | (refine ⟨?_, ?_⟩ <;> (rw [World.cell?_setCell_other _ _ _ _ (fun e => by injection e with e1 _ _; omega)]; assumption)) | go_keep)
        ((go_at_call 59; refine (C _ HV.out.drew).out.mono ?_; rintro e w1 ⟨A1, rfl, hown, hb1⟩; have n0 : w1.cell? ⟨w.heap.size, 0, none⟩ = some (.slice (some ⟨b, off, none⟩) h.length c) := (cell1 (blkc (w := v.drew) K0.out hb1)).1; have n1 : w1.cell? ⟨b, off, none⟩ = some (.int .i64 x) := (hb1.cell (p := ⟨b, off, none⟩) hbv).trans g1; have K2 := Lib.hid (blkc (w := v.drew) K1.out hb1); have HO := Lib.hid (hown.more (base' := w.heap.size + 1 + 1) hsv2); have HB := Lib.hid (bel_trans HV.out.drew hb1); have HRS := Lib.hid (res1 K2.out (.slice A1 h.length h.length)); obtain ⟨a1, a2, a3⟩ := cell1 K2.out))
      all_goals (try go_wp2)
      all_goals
        refine bodyPost_ret (v := .tuple #[.agg #[.slice A1 h.length h.length], .int .i64 x]) (by simp [results, Try.results41, go_sem, HRS.out]) rfl ⟨A1, h.length, rfl, (HO.out.kept (gset 0 _) (fun k hk => by cases hk; omega)).more (by omega), Nat.le_refl _, HB.out.setCell (p := ⟨w.heap.size + 1, 0, none⟩) (by show w.heap.size ≤ w.heap.size + 1; omega) _⟩
    · have d1 : (kind == 1) = false := by rw [beq_eq_false_iff_ne]; exact k1
      have e : hTake h kind = (h.drop 1, x) := by rw [E.out, if_neg k1]
      rw [e]
      clear E e k1
      have HRt := HR.out.drop (m := 1) (cap := c) hc
      obtain ⟨t, ht⟩ : ∃ t, t = h.drop 1 := ⟨_, rfl⟩
      have htl : t.length = h.length - 1 := by rw [ht, List.length_drop]
      rw [← ht] at HRt ⊢
      have HTL := Lib.hid htl
      have htl2 : t.length ≤ 100 := by omega
      clear ht
      by_cases hc1 : c = 1
      · subst hc1
        rw [if_pos rfl] at HRt
        have htl0 : t.length = 0 := by omega
        have C : ∀ W, Below w.heap.size w W → Hid (Calls Try.prog 59 #[.slice (some ⟨b, off, none⟩) 0 0] W fun e w' => ∃ A', e = .returned (.slice A' t.length t.length) ∧ Own eInt 3 w' W.heap.size (.slice A' t.length t.length) t ∧ Below W.heap.size W w') := fun W hW => by
          have := callCopyInt (some ⟨b, off, none⟩) 0 t W B (Nat.le_trans hB hW.size) (by omega) (by omega) (HRt.below (hW.mono hB))
          rw [htl0] at this
          rw [htl0]
          exact this
        clear htl htl0 HRt
        have hi1 : (1 : Int) ≤ (h.length : Int) := by omega
        go_enter Try.func41, Try.ntmps41
        go_upto_region 5 with (fail)
        rw [← hv]
        clear hv
        go_region_held3 (fun w' => w'.cell? ⟨w.heap.size, 0, none⟩ = some (.slice (some ⟨b, off, none⟩) h.length 1) ∧ w'.cell? ⟨b, off, none⟩ = some (.int .i64 x)) (first | exact ⟨g0, g1⟩ | (refine ⟨?_, ?_⟩ <;> assumption) | (refine ⟨?_, ?_⟩ <;> (rw [World.cell?_setCell_other _ _ _ _ (fun e => by injection e with e1 _ _; omega)]; assumption)) | go_keep)
          ((go_at_call 59; refine (C _ HV.out.drew).out.mono ?_; rintro e w1 ⟨A1, rfl, hown, hb1⟩; have n0 : w1.cell? ⟨w.heap.size, 0, none⟩ = some (.slice (some ⟨b, off, none⟩) h.length 1) := (cell1 (blkc (w := v.drew) K0.out hb1)).1; have n1 : w1.cell? ⟨b, off, none⟩ = some (.int .i64 x) := (hb1.cell (p := ⟨b, off, none⟩) hbv).trans g1; have K2 := Lib.hid (blkc (w := v.drew) K1.out hb1); have HO := Lib.hid (hown.more (base' := w.heap.size + 1 + 1) hsv2); have HB := Lib.hid (bel_trans HV.out.drew hb1); have HRS := Lib.hid (res1 K2.out (.slice A1 t.length t.length)); obtain ⟨a1, a2, a3⟩ := cell1 K2.out))
        all_goals (try go_wp2)
        all_goals
          refine bodyPost_ret (v := .tuple #[.agg #[.slice A1 t.length t.length], .int .i64 x]) (by simp [results, Try.results41, go_sem, HRS.out]) rfl ⟨A1, t.length, rfl, (HO.out.kept (gset 0 _) (fun k hk => by cases hk; omega)).more (by omega), Nat.le_refl _, HB.out.setCell (p := ⟨w.heap.size + 1, 0, none⟩) (by show w.heap.size ≤ w.heap.size + 1; omega) _⟩
      · rw [if_neg hc1, Option.map_some, add_off] at HRt
        have C : ∀ W, Below w.heap.size w W → Hid (Calls Try.prog 59 #[.slice (some ⟨b, off + 1, none⟩) (h.length - 1) (c - 1)] W fun e w' => ∃ A', e = .returned (.slice A' t.length t.length) ∧ Own eInt 3 w' W.heap.size (.slice A' t.length t.length) t ∧ Below W.heap.size W w') := fun W hW => by
          have := callCopyInt (some ⟨b, off + 1, none⟩) (c - 1) t W B (Nat.le_trans hB hW.size) (by omega) (by omega) (HRt.below (hW.mono hB))
          rw [htl] at this
          rw [htl]
          exact this
        clear htl HRt
        have hi1 : (1 : Int) ≤ (h.length : Int) := by omega
        have hi2 : (1 : Int) ≤ (c : Int) := by omega
        go_enter Try.func41, Try.ntmps41
        go_upto_region 5 with (fail)
        rw [← hv]
        clear hv
        go_region_held3 (fun w' => w'.cell? ⟨w.heap.size, 0, none⟩ = some (.slice (some ⟨b, off, none⟩) h.length c) ∧ w'.cell? ⟨b, off, none⟩ = some (.int .i64 x)) (first | exact ⟨g0, g1⟩ | (refine ⟨?_, ?_⟩ <;> assumption) | (refine ⟨?_, ?_⟩ <;> (rw [World.cell?_setCell_other _ _ _ _ (fun e => by injection e with e1 _ _; omega)]; assumption)) | go_keep)
          ((go_at_call 59; refine (C _ HV.out.drew).out.mono ?_; rintro e w1 ⟨A1, rfl, hown, hb1⟩; have n0 : w1.cell? ⟨w.heap.size, 0, none⟩ = some (.slice (some ⟨b, off, none⟩) h.length c) := (cell1 (blkc (w := v.drew) K0.out hb1)).1; have n1 : w1.cell? ⟨b, off, none⟩ = some (.int .i64 x) := (hb1.cell (p := ⟨b, off, none⟩) hbv).trans g1; have K2 := Lib.hid (blkc (w := v.drew) K1.out hb1); have HO := Lib.hid (hown.more (base' := w.heap.size + 1 + 1) hsv2); have HB := Lib.hid (bel_trans HV.out.drew hb1); have HRS := Lib.hid (res1 K2.out (.slice A1 t.length t.length)); obtain ⟨a1, a2, a3⟩ := cell1 K2.out))
        all_goals (try go_wp2)
        all_goals
          refine bodyPost_ret (v := .tuple #[.agg #[.slice A1 t.length t.length], .int .i64 x]) (by simp [results, Try.results41, go_sem, HRS.out]) rfl ⟨A1, t.length, rfl, (HO.out.kept (gset 0 _) (fun k hk => by cases hk; omega)).more (by omega), Nat.le_refl _, HB.out.setCell (p := ⟨w.heap.size + 1, 0, none⟩) (by show w.heap.size ≤ w.heap.size + 1; omega) _⟩

set_option maxRecDepth 100000 in
set_option maxHeartbeats 1600000 in
theorem callHoldSend (A : Option Addr) (c : Nat) (h : List Int) (kind size m : Int) (w : World) (B : Nat) (hB : B ≤ w.heap.size) (hc : h.length ≤ c) (hm : h.length ≤ 100) (hr : Rd eInt w B A h) :
    Calls Try.prog 14 #[.agg #[.slice A h.length c], .int .i64 kind, .int .i64 size, .int .i64 m] w fun e w' => ∃ A' c', e = .returned (.tuple #[.agg #[.slice A' (holdSend h kind size m).1.length c'], .int .i64 (holdSend h kind size m).2]) ∧ Own eInt 3 w' w.heap.size (.slice A' (holdSend h kind size m).1.length c') (holdSend h kind size m).1 ∧ (holdSend h kind size m).1.length ≤ c' ∧ Below w.heap.size w w' := by
  have E : Hid (holdSend h kind size m = if holdOk h kind size && valOk m then hSend h kind size m else ([], -1)) := rfl
  have V : Hid (∀ W, Below w.heap.size w W → Calls Try.prog 11 #[.agg #[.slice A h.length c], .int .i64 kind, .int .i64 size] W fun e w' => e = .returned (.bool (holdOk h kind size)) ∧ Below W.heap.size W w') := fun W hW => callHoldValid A c h kind size W B (Nat.le_trans hB hW.size) (by omega) (hr.below (hW.mono hB))
  have S : Hid (∀ W, Below w.heap.size w W → Calls Try.prog 40 #[.agg #[.slice A h.length c], .int .i64 kind, .int .i64 size, .int .i64 m] W fun e w' => ∃ A' c', e = .returned (.tuple #[.agg #[.slice A' (hSend h kind size m).1.length c'], .int .i64 (hSend h kind size m).2]) ∧ Own eInt 3 w' W.heap.size (.slice A' (hSend h kind size m).1.length c') (hSend h kind size m).1 ∧ (hSend h kind size m).1.length ≤ c' ∧ Below W.heap.size W w') := fun W hW => callHSend A c h kind size m W B (Nat.le_trans hB hW.size) hc hm (hr.below (hW.mono hB))
  clear hr
  have K0 := Lib.hid (alloc_at0 w (.cells #[.slice A h.length c] 25) (.cells #[.slice none 0 0] 25))
  have K1 := Lib.hid (alloc_at1 w (.cells #[.slice A h.length c] 25) (.cells #[.slice none 0 0] 25))
  cases q1 : holdOk h kind size
  · rw [q1] at E V
    rw [E.out]
    clear E S q1
    go_enter Try.func14, Try.ntmps14
    go_wp2_with fail
    refine (V.out _ (below2 w _ _)).mono ?_
    rintro e w1 ⟨rfl, hb1⟩
    have HB1 := Lib.hid (bel_trans (below2 w _ _) hb1)
    have KR := Lib.hid (blkc K1.out hb1)
    clear hb1
    obtain ⟨a1, a2, a3⟩ := cell1 KR.out
    have HRS := Lib.hid (res1 KR.out (.slice none 0 0))
    go_wp2
    exact bodyPost_ret (v := .tuple #[.agg #[.slice none 0 0], .int .i64 (-1)]) (by simp [results, Try.results14, go_sem, HRS.out]) rfl ⟨none, 0, rfl, Own.none_, HB1.out.setCell (p := ⟨w.heap.size + 1, 0, none⟩) (by show w.heap.size ≤ w.heap.size + 1; omega) _⟩
  · cases q2 : valOk m
    · rw [q1, q2] at E
      rw [q1] at V
      rw [E.out]
      clear E S q1
      go_enter Try.func14, Try.ntmps14
      go_wp2_with fail
      refine (V.out _ (below2 w _ _)).mono ?_
      rintro e w1 ⟨rfl, hb1⟩
      have HB1 := Lib.hid (bel_trans (below2 w _ _) hb1)
      have KR := Lib.hid (blkc K1.out hb1)
      clear hb1
      obtain ⟨a1, a2, a3⟩ := cell1 KR.out
      have HRS := Lib.hid (res1 KR.out (.slice none 0 0))
      go_wp2_with (go_at_call 37; refine (callIsValue _ _).mono ?_; rintro e w' ⟨rfl, rfl⟩)
      exact bodyPost_ret (v := .tuple #[.agg #[.slice none 0 0], .int .i64 (-1)]) (by simp [results, Try.results14, go_sem, HRS.out]) rfl ⟨none, 0, rfl, Own.none_, HB1.out.setCell (p := ⟨w.heap.size + 1, 0, none⟩) (by show w.heap.size ≤ w.heap.size + 1; omega) _⟩
    · rw [q1, q2] at E
      rw [q1] at V
      have e : holdSend h kind size m = hSend h kind size m := by rw [E.out]; rfl
      rw [e]
      obtain ⟨r, hr⟩ : ∃ r, r = hSend h kind size m := ⟨_, rfl⟩
      rw [← hr] at S ⊢
      clear E q1 e hr
      obtain ⟨h2, tl⟩ := r
      go_enter Try.func14, Try.ntmps14
      go_wp2_with fail
      refine (V.out _ (below2 w _ _)).mono ?_
      rintro e w1 ⟨rfl, hb1⟩
      have HB1 := Lib.hid (bel_trans (below2 w _ _) hb1)
      have KB := Lib.hid (blkc K0.out hb1)
      have KR := Lib.hid (blkc K1.out hb1)
      clear hb1
      have b1 := (cell1 KB.out).1
      go_wp2_with (go_at_call 37; refine (callIsValue _ _).mono ?_; rintro e w' ⟨rfl, rfl⟩)
      refine (S.out _ HB1.out).mono ?_
      rintro e w2 ⟨A2, c2, rfl, hown, hc2, hb2⟩
      have HB2 := Lib.hid (bel_trans HB1.out hb2)
      have KR2 := Lib.hid (blkc KR.out hb2)
      have hs1 : w.heap.size + 1 < w1.heap.size := (cell1 KR.out).2.2
      have HO := Lib.hid (hown.more (base' := w.heap.size + 1 + 1) (by omega))
      clear hb2 hown b1
      obtain ⟨a1, a2, a3⟩ := cell1 KR2.out
      have HRS := Lib.hid (res1 KR2.out (.slice A2 h2.length c2))
      go_wp2
      exact bodyPost_ret (v := .tuple #[.agg #[.slice A2 h2.length c2], .int .i64 tl]) (by simp [results, Try.results14, go_sem, HRS.out]) rfl ⟨A2, c2, rfl, (HO.out.kept (gset 0 _) (fun k hk => by cases hk; omega)).more (by omega), hc2, HB2.out.setCell (p := ⟨w.heap.size + 1, 0, none⟩) (by show w.heap.size ≤ w.heap.size + 1; omega) _⟩

set_option maxRecDepth 100000 in
set_option maxHeartbeats 1600000 in
theorem callHoldTake (A : Option Addr) (c : Nat) (h : List Int) (kind size : Int) (w : World) (B : Nat) (hB : B ≤ w.heap.size) (hc : h.length ≤ c) (hm : h.length ≤ 100) (hr : Rd eInt w B A h) :
    Calls Try.prog 15 #[.agg #[.slice A h.length c], .int .i64 kind, .int .i64 size] w fun e w' => ∃ A' c', e = .returned (.tuple #[.agg #[.slice A' (holdTake h kind size).1.length c'], .int .i64 (holdTake h kind size).2]) ∧ Own eInt 3 w' w.heap.size (.slice A' (holdTake h kind size).1.length c') (holdTake h kind size).1 ∧ (holdTake h kind size).1.length ≤ c' ∧ Below w.heap.size w w' := by
  have E : Hid (holdTake h kind size = if holdOk h kind size then hTake h kind else ([], -1)) := rfl
  have V : Hid (∀ W, Below w.heap.size w W → Calls Try.prog 11 #[.agg #[.slice A h.length c], .int .i64 kind, .int .i64 size] W fun e w' => e = .returned (.bool (holdOk h kind size)) ∧ Below W.heap.size W w') := fun W hW => callHoldValid A c h kind size W B (Nat.le_trans hB hW.size) (by omega) (hr.below (hW.mono hB))
  have S : Hid (∀ W, Below w.heap.size w W → Calls Try.prog 41 #[.agg #[.slice A h.length c], .int .i64 kind] W fun e w' => ∃ A' c', e = .returned (.tuple #[.agg #[.slice A' (hTake h kind).1.length c'], .int .i64 (hTake h kind).2]) ∧ Own eInt 3 w' W.heap.size (.slice A' (hTake h kind).1.length c') (hTake h kind).1 ∧ (hTake h kind).1.length ≤ c' ∧ Below W.heap.size W w') := fun W hW => callHTake A c h kind W B (Nat.le_trans hB hW.size) hc hm (hr.below (hW.mono hB))
  clear hr
  have K0 := Lib.hid (alloc_at0 w (.cells #[.slice A h.length c] 25) (.cells #[.slice none 0 0] 25))
  have K1 := Lib.hid (alloc_at1 w (.cells #[.slice A h.length c] 25) (.cells #[.slice none 0 0] 25))
  cases q1 : holdOk h kind size
  · rw [q1] at E V
    rw [E.out]
    clear E S q1
    go_enter Try.func15, Try.ntmps15
    go_wp2_with fail
    refine (V.out _ (below2 w _ _)).mono ?_
    rintro e w1 ⟨rfl, hb1⟩
    have HB1 := Lib.hid (bel_trans (below2 w _ _) hb1)
    have KR := Lib.hid (blkc K1.out hb1)
    clear hb1
    obtain ⟨a1, a2, a3⟩ := cell1 KR.out
    have HRS := Lib.hid (res1 KR.out (.slice none 0 0))
    go_wp2
    exact bodyPost_ret (v := .tuple #[.agg #[.slice none 0 0], .int .i64 (-1)]) (by simp [results, Try.results15, go_sem, HRS.out]) rfl ⟨none, 0, rfl, Own.none_, HB1.out.setCell (p := ⟨w.heap.size + 1, 0, none⟩) (by show w.heap.size ≤ w.heap.size + 1; omega) _⟩
  · rw [q1] at E V
    have e : holdTake h kind size = hTake h kind := by rw [E.out]; rfl
    rw [e]
    obtain ⟨r, hr⟩ : ∃ r, r = hTake h kind := ⟨_, rfl⟩
    rw [← hr] at S ⊢
    clear E q1 e hr
    obtain ⟨h2, tl⟩ := r
    go_enter Try.func15, Try.ntmps15
    go_wp2_with fail
    refine (V.out _ (below2 w _ _)).mono ?_
    rintro e w1 ⟨rfl, hb1⟩
    have HB1 := Lib.hid (bel_trans (below2 w _ _) hb1)
    have KB := Lib.hid (blkc K0.out hb1)
    have KR := Lib.hid (blkc K1.out hb1)
    clear hb1
    have b1 := (cell1 KB.out).1
    go_wp2_with fail
    refine (S.out _ HB1.out).mono ?_
    rintro e w2 ⟨A2, c2, rfl, hown, hc2, hb2⟩
    have HB2 := Lib.hid (bel_trans HB1.out hb2)
    have KR2 := Lib.hid (blkc KR.out hb2)
    have hs1 : w.heap.size + 1 < w1.heap.size := (cell1 KR.out).2.2
    have HO := Lib.hid (hown.more (base' := w.heap.size + 1 + 1) (by omega))
    clear hb2 hown b1
    obtain ⟨a1, a2, a3⟩ := cell1 KR2.out
    have HRS := Lib.hid (res1 KR2.out (.slice A2 h2.length c2))
    go_wp2
    exact bodyPost_ret (v := .tuple #[.agg #[.slice A2 h2.length c2], .int .i64 tl]) (by simp [results, Try.results15, go_sem, HRS.out]) rfl ⟨A2, c2, rfl, (HO.out.kept (gset 0 _) (fun k hk => by cases hk; omega)).more (by omega), hc2, HB2.out.setCell (p := ⟨w.heap.size + 1, 0, none⟩) (by show w.heap.size ≤ w.heap.size + 1; omega) _⟩
end Go.Proofs.Ytonhkadbiepedaa
