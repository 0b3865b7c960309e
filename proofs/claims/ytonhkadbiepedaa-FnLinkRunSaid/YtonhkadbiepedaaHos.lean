/- The functions of holds of the reference, for every input. -/
import Derived.Test.YtonhkadbiepedaaHoc
namespace Go.Proofs.Ytonhkadbiepedaa
open Go.RowKit Go.Sort

set_option maxRecDepth 100000 in
set_option maxHeartbeats 1600000 in
theorem callSHoldValid (A : Option Addr) (c : Nat) (h : List Int) (kind size : Int) (w : World) (B : Nat) (hB : B ≤ w.heap.size) (hm : h.length ≤ 1048576) (hr : Rd eInt w B A h) :
    Calls Try.prog 12 #[.agg #[.slice A h.length c], .int .i64 kind, .int .i64 size] w fun e w' => e = .returned (.bool (holdOk h kind size)) ∧ Below w.heap.size w w' := by
  have HR := Lib.hid (hr.below ((below1 w (.cells #[.slice A h.length c] 25)).mono hB))
  have E : Hid (holdOk h kind size = ((sizedB kind size && decide ((h.length : Int) ≤ size)) && h.all valOk)) := rfl
  clear hr
  go_enter Try.func12, Try.ntmps12
  go_wp2
  go_loopw [7] (fun i wr => ∃ k : Nat, k ≤ h.length ∧ i = .int .i64 k ∧ wr = w.alloc (.cells #[.slice A h.length c] 25) ∧ Hid (∀ i (_ : i < k) (hi : i < h.length), valOk h[i] = true)) (fun i _ => h.length - (intOf i).toNat)
  case atStart => exact ⟨0, by omega, rfl, rfl, fun i hi => by omega⟩
  case round =>
    obtain ⟨k, hk, rfl, rfl, hno⟩ := hrel
    by_cases hlt : k < h.length
    · obtain ⟨b, off, rfl, hbB, h1⟩ := HR.out.at1 rfl hlt rfl
      have ES : Hid (valOk h[k] = inB h[k] 0 255) := rfl
      cases q1 : inB h[k] 0 255
      · rw [q1] at ES
        go_wp2_with (go_at_call 38; refine (callL1In _ _ _ _).mono ?_; rintro e w' ⟨rfl, rfl⟩)
        go_ret
        exact ⟨by rw [E.out, all_snoc_false hlt ES.out, Bool.and_false] <;> rfl, below1 _ _⟩
      · rw [q1] at ES
        have hst : Hid (∀ i (_ : i < k + 1) (hi : i < h.length), valOk h[i] = true) := fun i hi h' => by
          rcases Nat.lt_or_ge i k with h'' | h''
          · exact hno.out i h'' h'
          · have : i = k := by omega
            subst this; exact ES.out
        go_wp2_with (go_at_call 38; refine (callL1In _ _ _ _).mono ?_; rintro e w' ⟨rfl, rfl⟩)
        go_roundw
        case rel => exact ⟨k + 1, by omega, by go_num, (by first | trivial | rfl), hst⟩
        case measure => simp [intOf]; omega
    · have hke : k = h.length := by omega
      subst hke
      have hd : decide ((h.length : Int) < h.length) = false := by simp
      have EA : Hid (holdOk h kind size = (sizedB kind size && decide ((h.length : Int) ≤ size))) := by
        show _ = _
        rw [E.out, all_of_get fun i hi => hno.out i hi hi, Bool.and_true]
      cases q1 : inB kind 1 3
      · have es : sizedB kind size = false := by
          cases q : sizedB kind size
          · rfl
          · have := sizedB_bd q; rw [inB_iff.2 ⟨this.1, this.2.1⟩] at q1; cases q1
        rw [es] at EA
        go_wp2_with (go_at_call 38; refine (callL1In _ _ _ _).mono ?_; rintro e w' ⟨rfl, rfl⟩)
        go_ret
        exact ⟨by rw [EA.out] <;> rfl, below1 _ _⟩
      · cases q2 : inB size 1 4
        · have es : sizedB kind size = false := by
            cases q : sizedB kind size
            · rfl
            · have := sizedB_bd q; rw [inB_iff.2 ⟨this.2.2.1, this.2.2.2.1⟩] at q2; cases q2
          rw [es] at EA
          go_wp2_with (go_at_call 38; refine (callL1In _ _ _ _).mono ?_; rintro e w' ⟨rfl, rfl⟩)
          go_ret
          exact ⟨by rw [EA.out] <;> rfl, below1 _ _⟩
        · have b1 := inB_iff.1 q1
          have b2 := inB_iff.1 q2
          have fin : ∀ (s : Bool), sizedB kind size = s → Hid (holdOk h kind size = (s && decide ((h.length : Int) ≤ size))) := fun s hs => by show _ = _; rw [EA.out, hs]
          by_cases hle : (h.length : Int) ≤ size
          · have hd2 : decide ((h.length : Int) ≤ size) = true := decide_eq_true hle
            rw [hd2] at fin
            by_cases k1 : kind = 1
            · have n1 : (kind != 1) = false := by rw [k1]; rfl
              by_cases s1 : size = 1
              · have F := fin true (sizedB_iff.2 (.inl ⟨k1, s1⟩))
                have n2 : (size == 1) = true := by rw [s1]; rfl
                clear k1 s1 fin
                go_wp2_with (go_at_call 38; refine (callL1In _ _ _ _).mono ?_; rintro e w' ⟨rfl, rfl⟩)
                go_ret
                exact ⟨by rw [F.out] <;> rfl, below1 _ _⟩
              · have F := fin false (by cases q : sizedB kind size; rfl; exact absurd ((sizedB_bd q).2.2.2.2 k1) s1)
                have n2 : (size == 1) = false := by rw [beq_eq_false_iff_ne]; exact s1
                clear k1 s1 fin
                go_wp2_with (go_at_call 38; refine (callL1In _ _ _ _).mono ?_; rintro e w' ⟨rfl, rfl⟩)
                go_ret
                exact ⟨by rw [F.out] <;> rfl, below1 _ _⟩
            · have n1 : (kind != 1) = true := by rw [bne_iff_ne]; exact k1
              have F := fin true (sizedB_iff.2 (.inr ⟨by omega, b2.1, b2.2⟩))
              clear k1 fin
              go_wp2_with (go_at_call 38; refine (callL1In _ _ _ _).mono ?_; rintro e w' ⟨rfl, rfl⟩)
              go_ret
              exact ⟨by rw [F.out] <;> rfl, below1 _ _⟩
          · have hd2 : decide ((h.length : Int) ≤ size) = false := decide_eq_false hle
            have F : Hid (holdOk h kind size = false) := by show _ = _; rw [EA.out, hd2, Bool.and_false]
            clear fin
            by_cases k1 : kind = 1
            · have n1 : (kind != 1) = false := by rw [k1]; rfl
              cases n2 : (size == 1)
              all_goals
                clear k1
                go_wp2_with (go_at_call 38; refine (callL1In _ _ _ _).mono ?_; rintro e w' ⟨rfl, rfl⟩)
                go_ret
                exact ⟨by rw [F.out] <;> rfl, below1 _ _⟩
            · have n1 : (kind != 1) = true := by rw [bne_iff_ne]; exact k1
              clear k1
              go_wp2_with (go_at_call 38; refine (callL1In _ _ _ _).mono ?_; rintro e w' ⟨rfl, rfl⟩)
              go_ret
              exact ⟨by rw [F.out] <;> rfl, below1 _ _⟩

/-- A cell of a slice that is appended to: the row that is written is not another box. -/
theorem box_app {w w' : World} {row : Option Nat} {b base : Nat} {o : Obj} (h : w.heap[b]? = some o) (hg : w.grownBy w' row) (hr : ∀ k, row = some k → base ≤ k) (hb : b < base) : w'.heap[b]? = some o :=
  gblk hg h (fun e => by have := hr b e.symm; omega)
set_option maxRecDepth 100000 in
set_option maxHeartbeats 1600000 in
theorem callOwnHold (A : Option Addr) (c : Nat) (h : List Int) (w : World) (B : Nat) (hB : B ≤ w.heap.size) (hm : h.length ≤ 1000) (hr : Rd eInt w B A h) :
    Calls Try.prog 52 #[.agg #[.slice A h.length c]] w fun e w' => ∃ A' c', e = .returned (.agg #[.slice A' h.length c']) ∧ Own eInt 3 w' w.heap.size (.slice A' h.length c') h ∧ h.length ≤ c' ∧ Below w.heap.size w w' := by
  have h3 := below3 w (.cells #[.slice A h.length c] 25) (.cells #[.slice none 0 0] 25) (.cells #[.slice A h.length c] 25)
  have HRR := Lib.hid ((hr.below (h3.mono hB)).below ((below1 (((w.alloc (.cells #[.slice A h.length c] 25)).alloc (.cells #[.slice none 0 0] 25)).alloc (.cells #[.slice A h.length c] 25)) (.cells #[] 3)).mono (by simp; omega)))
  clear hr h3
  go_enter Try.func52, Try.ntmps52
  go_wp2_with (at_builtin; refine wpList_app _ eiInt rfl (.tmp 5) (.tmp 7) rfl (w.heap.size + 1 + 1 + 1) Own.none_ HRR.out rfl rfl rfl (by simp; omega) (by simp) ?_; intro v' w4 row hown4 hg4 hrow4; obtain ⟨A4, c4, hv4, hc4, _⟩ := hown4.form; subst hv4; have hw4 : ∀ k, row = some k → w.heap.size + 1 + 1 + 1 ≤ k := (fun k hk => (hrow4 k hk).1); have K1 := Lib.hid (box_app (b := w.heap.size + 1) (blkc (blkc (alloc_at1 w (.cells #[.slice A h.length c] 25) (.cells #[.slice none 0 0] 25)) (below1 _ (.cells #[.slice A h.length c] 25))) (below1 _ (.cells #[] 3))) hg4 hw4 (by omega)); have K2 := Lib.hid (box_app (b := w.heap.size + 1 + 1) (blkc (by have := heap_alloc_new ((w.alloc (.cells #[.slice A h.length c] 25)).alloc (.cells #[.slice none 0 0] 25)) (.cells #[.slice A h.length c] 25); simpa using this) (below1 _ (.cells #[] 3))) hg4 hw4 (by omega)); obtain ⟨a1, a2, a3⟩ := cell1 K1.out; obtain ⟨b1, b2, b3⟩ := cell1 K2.out; have HO := Lib.hid hown4; have HB := Lib.hid ((bel_trans (below3 w _ _ _) (below1 _ _)).trans ((Below.refl _ _).grown hg4 (by simp; omega) (fun k hk => by have := hw4 k hk; omega))); have K3 := Lib.hid (blko K1.out (p := ⟨w.heap.size + 1 + 1, 0, none⟩) (.slice A4 h.length c4) (by simp)); have K4 := Lib.hid (set1 (u := .slice A4 h.length c4) K2.out); obtain ⟨d1, d2, d3⟩ := cell1 K3.out; obtain ⟨e1, e2, e3⟩ := cell1 K4.out; have HRS := Lib.hid (res1 K3.out (.slice A4 h.length c4)); clear hown4 hg4 hrow4 hw4)
  refine bodyPost_ret (v := .agg #[.slice A4 h.length c4]) (by simp [results, Try.results52, go_sem, HRS.out]) rfl ⟨A4, c4, rfl, ?_, hc4, ?_⟩
  · exact ((HO.out.kept (gset 0 _) (fun k hk => by cases hk; omega)).kept (gset 0 _) (fun k hk => by cases hk; omega)).more (by omega)
  · exact (HB.out.setCell (p := ⟨w.heap.size + 1 + 1, 0, none⟩) (by show w.heap.size ≤ w.heap.size + 1 + 1; omega) _).setCell (p := ⟨w.heap.size + 1, 0, none⟩) (by show w.heap.size ≤ w.heap.size + 1; omega) _

/-- What a call on holds leaves: a hold of the call's own, and a number. -/
def HRes (T : TypeId) (w : World) (r : List Int × Int) (e : Ending) (w' : World) : Prop :=
  ∃ A' c', e = .returned (.tuple #[.agg #[.slice A' r.1.length c'], .int .i64 r.2]) ∧ Own eInt T w' w.heap.size (.slice A' r.1.length c') r.1 ∧ r.1.length ≤ c' ∧ Below w.heap.size w w'
set_option maxRecDepth 100000 in
set_option maxHeartbeats 3200000 in
theorem callSHoldSend (A : Option Addr) (c : Nat) (h : List Int) (kind size m : Int) (w : World) (B : Nat) (hB : B ≤ w.heap.size) (hm : h.length ≤ 100) (hr : Rd eInt w B A h) :
    Calls Try.prog 30 #[.agg #[.slice A h.length c], .int .i64 kind, .int .i64 size, .int .i64 m] w (HRes 3 w (holdSend h kind size m)) := by
  have E : Hid (holdSend h kind size m = if holdOk h kind size && valOk m then hSend h kind size m else ([], -1)) := rfl
  have EV : Hid (valOk m = inB m 0 255) := rfl
  have S := Lib.hid (callOwnHold A c h ((w.alloc (.cells #[.slice A h.length c] 25)).alloc (.cells #[.slice none 0 0] 25)) B (by simp; omega) (by omega) (hr.below ((below2 w _ _).mono hB)))
  have K0 := Lib.hid (alloc_at0 w (.cells #[.slice A h.length c] 25) (.cells #[.slice none 0 0] 25))
  have K1 := Lib.hid (alloc_at1 w (.cells #[.slice A h.length c] 25) (.cells #[.slice none 0 0] 25))
  obtain ⟨r, hr2⟩ : ∃ r, r = holdSend h kind size m := ⟨_, rfl⟩
  rw [← hr2] at E ⊢
  have hso : w.heap.size + 1 + 1 ≤ ((w.alloc (.cells #[.slice A h.length c] 25)).alloc (.cells #[.slice none 0 0] 25)).heap.size := by simp
  have HSO := Lib.hid hso
  clear hr hr2 hso
  go_enter Try.func30, Try.ntmps30
  go_wp2_with fail
  refine S.out.mono ?_
  rintro e w1 ⟨A1, c1, rfl, hown1, hc1, hb1⟩
  have HB1 := Lib.hid ((bel_trans (below2 w _ _) hb1).setCell (p := ⟨w.heap.size, 0, none⟩) (Nat.le_refl _) (.slice A1 h.length c1))
  have KB0 := Lib.hid (blkc K0.out hb1)
  have KB := Lib.hid (set1 (u := .slice A1 h.length c1) KB0.out)
  have KR := Lib.hid (blko (blkc K1.out hb1) (p := ⟨w.heap.size, 0, none⟩) (.slice A1 h.length c1) (by simp))
  have HO := Lib.hid ((hown1.more (base' := w.heap.size + 1 + 1) HSO.out).kept (gset (g := w.heap.size) 0 (.slice A1 h.length c1)) (fun k hk => by cases hk; omega))
  have hs1 : w.heap.size + 1 < w1.heap.size := by have := (cell1 (blkc K1.out hb1)).2.2; exact this
  clear hb1 hown1 S
  obtain ⟨p1, p2, p3⟩ := cell1 KB0.out
  go_upto_region 2 with (fail)
  obtain ⟨v1, hv1⟩ : ∃ v1, v1 = w1.setCell ⟨w.heap.size, 0, none⟩ (.slice A1 h.length c1) := ⟨_, rfl⟩
  rw [← hv1] at HB1 KB KR HO ⊢
  have hs2 : w.heap.size + 1 + 1 ≤ v1.heap.size := by rw [hv1]; simp; omega
  clear hv1 p1 p2 p3 KB0 K0 K1
  have V : Hid (Calls Try.prog 12 #[.agg #[.slice A1 h.length c1], .int .i64 kind, .int .i64 size] v1 fun e w' => e = .returned (.bool (holdOk h kind size)) ∧ Below v1.heap.size v1 w') :=
    callSHoldValid A1 c1 h kind size v1 v1.heap.size (Nat.le_refl _) (by omega) HO.out.rd
  obtain ⟨q, hq⟩ : ∃ q, q = holdOk h kind size := ⟨_, rfl⟩
  rw [← hq] at V E
  clear hq
  have b1 := (cell1 KB.out).1
  go_wp2_with fail
  refine V.out.mono ?_
  rintro e w2 ⟨rfl, hb2⟩
  have HB2 := Lib.hid (bel_trans HB1.out hb2)
  have KB2 := Lib.hid (blkc KB.out hb2)
  have KR2 := Lib.hid (blkc KR.out hb2)
  have HO2 := Lib.hid (HO.out.next hb2)
  have hs3 : w.heap.size + 1 + 1 ≤ w2.heap.size := Nat.le_trans hs2 hb2.size
  clear hb2 b1 V HB1 KB KR HO hs2
  obtain ⟨a1, a2, a3⟩ := cell1 KR2.out
  have bad : Hid ((q && valOk m) = false → r = ([], -1)) := fun h => by rw [E.out, h]; rfl
  have good : Hid ((q && valOk m) = true → r = hSend h kind size m) := fun h => by rw [E.out, h]; rfl
  cases q
  · obtain rfl := bad.out rfl
    have HRS := Lib.hid (res1 KR2.out (.slice none 0 0))
    go_wp2
    exact bodyPost_ret (v := .tuple #[.agg #[.slice none 0 0], .int .i64 (-1)]) (by simp [results, Try.results30, go_sem, HRS.out]) rfl ⟨none, 0, rfl, Own.none_, Nat.le_refl _, HB2.out.setCell (p := ⟨w.heap.size + 1, 0, none⟩) (by show w.heap.size ≤ w.heap.size + 1; omega) _⟩
  · cases qv : inB m 0 255
    · obtain rfl := bad.out (by rw [EV.out, qv]; rfl)
      have HRS := Lib.hid (res1 KR2.out (.slice none 0 0))
      go_wp2_with (go_at_call 38; refine (callL1In _ _ _ _).mono ?_; rintro e w' ⟨rfl, rfl⟩)
      exact bodyPost_ret (v := .tuple #[.agg #[.slice none 0 0], .int .i64 (-1)]) (by simp [results, Try.results30, go_sem, HRS.out]) rfl ⟨none, 0, rfl, Own.none_, Nat.le_refl _, HB2.out.setCell (p := ⟨w.heap.size + 1, 0, none⟩) (by show w.heap.size ≤ w.heap.size + 1; omega) _⟩
    · have hgood := good.out (by rw [EV.out, qv]; rfl)
      unfold hSend at hgood
      clear bad good E EV
      by_cases k1 : kind = 1
      · subst k1
        rw [if_pos rfl] at hgood
        subst hgood
        have HL : Hid (Own eInt 3 ((w2.setCell ⟨w.heap.size + 1, 0, none⟩ (.slice (some ⟨w2.heap.size, 0, none⟩) 1 1)).alloc (.cells #[.int .i64 m] 3)) w.heap.size (.slice (some ⟨w2.heap.size, 0, none⟩) 1 1) [m]) := by
          have := Own.lit (E := eInt) (base := w.heap.size) (xs := [m]) (w2.setCell ⟨w.heap.size + 1, 0, none⟩ (.slice (some ⟨w2.heap.size, 0, none⟩) 1 1)) 3 #[.int .i64 m] (by simp; omega) (by simp) rfl
          show Own _ _ _ _ _ _; simpa using this
        have HB3 := Lib.hid ((HB2.out.setCell (p := ⟨w.heap.size + 1, 0, none⟩) (by show w.heap.size ≤ w.heap.size + 1; omega) (.slice (some ⟨w2.heap.size, 0, none⟩) 1 1)).alloc (by simp; omega) (.cells #[.int .i64 m] 3))
        have HRS := Lib.hid (res1 KR2.out (.slice (some ⟨w2.heap.size, 0, none⟩) 1 1))
        go_wp2_with (go_at_call 38; refine (callL1In _ _ _ _).mono ?_; rintro e w' ⟨rfl, rfl⟩)
        exact bodyPost_ret (v := .tuple #[.agg #[.slice (some ⟨w2.heap.size, 0, none⟩) 1 1], .int .i64 0]) (by simp [results, Try.results30, go_sem, HRS.out, a3]) rfl ⟨some ⟨w2.heap.size, 0, none⟩, 1, rfl, HL.out, Nat.le_refl _, HB3.out⟩
      · have d1 : (kind == 1) = false := by rw [beq_eq_false_iff_ne]; exact k1
        rw [if_neg k1] at hgood
        obtain ⟨x1, x2, x3⟩ := cell1 KB2.out
        have HRR := Lib.hid ((HO2.out.rd).alloc (.cells #[] 3))
        have hl2 : h.length ≤ 100 := hm
        go_upto_region 7 with (first | (go_at_call 38; refine (callL1In _ _ _ _).mono ?_; rintro e w' ⟨rfl, rfl⟩) | (at_builtin; refine wpList_app _ eiInt rfl (.tmp 29) (.tmp 31) rfl (w.heap.size + 1 + 1) Own.none_ HRR.out rfl rfl rfl (by simp; omega) (by simp; omega) ?_; intro v' w4 row hown4 hg4 hrow4; simp only [List.nil_append] at hown4; obtain ⟨A4, c4, hv4, hc4, _⟩ := hown4.form; subst hv4; have hw4 : ∀ k, row = some k → w.heap.size + 1 + 1 ≤ k := (fun k hk => (hrow4 k hk).1); have HO4 := Lib.hid hown4; have KB4 := Lib.hid (box_app (blkc KB2.out (below1 _ _)) hg4 hw4 (by omega)); have KR4 := Lib.hid (box_app (blkc KR2.out (below1 _ _)) hg4 hw4 (by omega)); have HB4 := Lib.hid ((bel_trans HB2.out (below1 _ _)).trans ((Below.refl _ _).grown hg4 (by simp; omega) (fun k hk => by have := hw4 k hk; omega))); have hs4 : w.heap.size + 1 + 1 ≤ w4.heap.size := (by have := hg4.size; simp at this; omega); clear hown4 hg4 hrow4 hw4))
        have HX5 := Lib.hid (heap_alloc_new w4 (.cells #[.slice A4 h.length c4] 25))
        have KR5 := Lib.hid (blkc KR4.out (below1 w4 (.cells #[.slice A4 h.length c4] 25)))
        have KB5 := Lib.hid (blkc KB4.out (below1 w4 (.cells #[.slice A4 h.length c4] 25)))
        have HO5 := Lib.hid (HO4.out.alloc (.cells #[.slice A4 h.length c4] 25))
        have HB5 := Lib.hid (bel_trans HB4.out (below1 w4 (.cells #[.slice A4 h.length c4] 25)))
        obtain ⟨v5, hv5⟩ : ∃ v5, v5 = w4.alloc (.cells #[.slice A4 h.length c4] 25) := ⟨_, rfl⟩
        obtain ⟨X, hX⟩ : ∃ X, X = w4.heap.size := ⟨_, rfl⟩
        have hs5 : v5.heap.size = X + 1 := by rw [hv5, hX]; simp
        rw [← hv5] at HX5 KR5 KB5 HO5 HB5 ⊢
        rw [← hX] at HX5 ⊢
        have hX2 : w.heap.size + 1 + 1 ≤ X := by omega
        have hs6 : X + 1 ≤ v5.heap.size := by omega
        clear hv5 hX hs5 HO4 KB4 KR4 HB4 hs4 KB2 KR2 HO2 HB2 x1 x2 x3 a1 a2 a3 HRR hs3
        obtain ⟨x1, x2, x3⟩ := cell1 KB5.out
        obtain ⟨y1, y2, y3⟩ := cell1 HX5.out
        obtain ⟨a1, a2, a3⟩ := cell1 KR5.out
        by_cases hl : (h.length : Int) < size
        · have hd : decide ((h.length : Int) < size) = true := decide_eq_true hl
          rw [if_pos hl] at hgood
          subst hgood
          have HO6 := Lib.hid (HO5.out.alloc (.cells #[.int .i64 m] 3))
          obtain ⟨h2, hh2⟩ : ∃ h2, h2 = h ++ [m] := ⟨_, rfl⟩
          have HH2 := Lib.hid hh2
          go_wp2_with (at_builtin; refine wpList_app _ eiInt rfl (.tmp 40) (.tmp 42) rfl (w.heap.size + 1 + 1) HO6.out (Rd.new (xs := [m]) _ _ _ rfl) rfl rfl rfl (by simp; omega) (by simp; omega) ?_; intro v' w7 row hown7' hg7 hrow7; have hown7 : Own eInt 3 w7 (w.heap.size + 1 + 1) v' h2 := (by rw [HH2.out]; exact hown7'); obtain ⟨A7, c7, hv7, hc7, _⟩ := hown7.form; subst hv7; have hw7 : ∀ k, row = some k → w.heap.size + 1 + 1 ≤ k := (fun k hk => (hrow7 k hk).1); have hxb := gblk hg7 (blkc HX5.out (below1 _ (.cells #[.int .i64 m] 3))) (fun e => by obtain ⟨cur, hcur⟩ := (hrow7 _ e.symm).2.2; have hq := blkc HX5.out (below1 _ (.cells #[.int .i64 m] 3)); rw [hcur] at hq; injection hq with hq; injection hq with _ hq; exact absurd hq (by decide)); have HX7 := Lib.hid hxb; have KR7 := Lib.hid (box_app (blkc KR5.out (below1 _ _)) hg7 hw7 (by omega)); have HO7 := Lib.hid hown7; have HB7 := Lib.hid ((bel_trans HB5.out (below1 _ _)).trans ((Below.refl _ _).grown hg7 (by simp; omega) (fun k hk => by have := hw7 k hk; omega))); have HX8 := Lib.hid (set1 (u := .slice A7 h2.length c7) HX7.out); have KR8 := Lib.hid (blko KR7.out (p := ⟨X, 0, none⟩) (.slice A7 h2.length c7) (by simp; omega)); obtain ⟨z1, z2, z3⟩ := cell1 HX7.out; obtain ⟨r1, r2, r3⟩ := cell1 HX8.out; obtain ⟨s1, s2, s3⟩ := cell1 KR8.out; have HRS := Lib.hid (res1 KR8.out (.slice A7 h2.length c7)); clear hown7 hown7' hg7 hrow7 hw7 hxb hh2)
          refine bodyPost_ret (v := .tuple #[.agg #[.slice A7 h2.length c7], .int .i64 0]) (by simp [results, Try.results30, go_sem, HRS.out]) rfl ?_
          rw [← HH2.out]
          refine ⟨A7, c7, rfl, ?_, hc7, (HB7.out.setCell (p := ⟨X, 0, none⟩) (by show w.heap.size ≤ X; omega) _).setCell (p := ⟨w.heap.size + 1, 0, none⟩) (by show w.heap.size ≤ w.heap.size + 1; omega) _⟩
          exact ((HO7.out.keptOther (gset (g := X) 0 _) (fun k hk => by cases hk; exact .inr ⟨_, _, _, HX7.out, by decide⟩)).kept (gset 0 _) (fun k hk => by cases hk; omega)).more (base' := w.heap.size) (by omega)
        · have hd : decide ((h.length : Int) < size) = false := decide_eq_false hl
          rw [if_neg hl] at hgood
          have HRS := Lib.hid (res1 KR5.out (.slice A4 h.length c4))
          have HOF := Lib.hid ((HO5.out.kept (gset (g := w.heap.size + 1) 0 (.slice A4 h.length c4)) (fun k hk => by cases hk; omega)).more (base' := w.heap.size) (by omega))
          have HBF := Lib.hid (HB5.out.setCell (p := ⟨w.heap.size + 1, 0, none⟩) (by show w.heap.size ≤ w.heap.size + 1; omega) (.slice A4 h.length c4))
          cases k3 : (kind == 3)
          · have k3' : ¬ kind = 3 := by intro e; rw [e] at k3; cases k3
            rw [if_neg k3'] at hgood
            subst hgood
            go_wp2
            exact bodyPost_ret (v := .tuple #[.agg #[.slice A4 h.length c4], .int .i64 0]) (by simp [results, Try.results30, go_sem, HRS.out]) rfl ⟨A4, c4, rfl, HOF.out, hc4, HBF.out⟩
          · have k3' : kind = 3 := by simpa using k3
            rw [if_pos k3'] at hgood
            subst hgood
            clear k3'
            go_wp2
            exact bodyPost_ret (v := .tuple #[.agg #[.slice A4 h.length c4], .int .i64 1]) (by simp [results, Try.results30, go_sem, HRS.out]) rfl ⟨A4, c4, rfl, HOF.out, hc4, HBF.out⟩
set_option maxRecDepth 100000 in
set_option maxHeartbeats 3200000 in
theorem callSHoldTake (A : Option Addr) (c : Nat) (h : List Int) (kind size : Int) (w : World) (B : Nat) (hB : B ≤ w.heap.size) (hm : h.length ≤ 100) (hr : Rd eInt w B A h) :
    Calls Try.prog 31 #[.agg #[.slice A h.length c], .int .i64 kind, .int .i64 size] w (HRes 3 w (holdTake h kind size)) := by
  have E : Hid (holdTake h kind size = if holdOk h kind size then hTake h kind else ([], -1)) := rfl
  have S := Lib.hid (callOwnHold A c h ((w.alloc (.cells #[.slice A h.length c] 25)).alloc (.cells #[.slice none 0 0] 25)) B (by simp; omega) (by omega) (hr.below ((below2 w _ _).mono hB)))
  have K0 := Lib.hid (alloc_at0 w (.cells #[.slice A h.length c] 25) (.cells #[.slice none 0 0] 25))
  have K1 := Lib.hid (alloc_at1 w (.cells #[.slice A h.length c] 25) (.cells #[.slice none 0 0] 25))
  obtain ⟨r, hr2⟩ : ∃ r, r = holdTake h kind size := ⟨_, rfl⟩
  rw [← hr2] at E ⊢
  have hso : w.heap.size + 1 + 1 ≤ ((w.alloc (.cells #[.slice A h.length c] 25)).alloc (.cells #[.slice none 0 0] 25)).heap.size := by simp
  have HSO := Lib.hid hso
  clear hr hr2 hso
  go_enter Try.func31, Try.ntmps31
  go_wp2_with fail
  refine S.out.mono ?_
  rintro e w1 ⟨A1, c1, rfl, hown1, hc1, hb1⟩
  have HB1 := Lib.hid ((bel_trans (below2 w _ _) hb1).setCell (p := ⟨w.heap.size, 0, none⟩) (Nat.le_refl _) (.slice A1 h.length c1))
  have KB0 := Lib.hid (blkc K0.out hb1)
  have KB := Lib.hid (set1 (u := .slice A1 h.length c1) KB0.out)
  have KR := Lib.hid (blko (blkc K1.out hb1) (p := ⟨w.heap.size, 0, none⟩) (.slice A1 h.length c1) (by simp))
  have HO := Lib.hid ((hown1.more (base' := w.heap.size + 1 + 1) HSO.out).kept (gset (g := w.heap.size) 0 (.slice A1 h.length c1)) (fun k hk => by cases hk; omega))
  have hs1 : w.heap.size + 1 < w1.heap.size := by have := (cell1 (blkc K1.out hb1)).2.2; exact this
  clear hb1 hown1 S
  obtain ⟨p1, p2, p3⟩ := cell1 KB0.out
  go_upto_region 2 with (fail)
  obtain ⟨v1, hv1⟩ : ∃ v1, v1 = w1.setCell ⟨w.heap.size, 0, none⟩ (.slice A1 h.length c1) := ⟨_, rfl⟩
  rw [← hv1] at HB1 KB KR HO ⊢
  have hs2 : w.heap.size + 1 + 1 ≤ v1.heap.size := by rw [hv1]; simp; omega
  clear hv1 p1 p2 p3 KB0 K0 K1
  have V : Hid (Calls Try.prog 12 #[.agg #[.slice A1 h.length c1], .int .i64 kind, .int .i64 size] v1 fun e w' => e = .returned (.bool (holdOk h kind size)) ∧ Below v1.heap.size v1 w') :=
    callSHoldValid A1 c1 h kind size v1 v1.heap.size (Nat.le_refl _) (by omega) HO.out.rd
  obtain ⟨q, hq⟩ : ∃ q, q = holdOk h kind size := ⟨_, rfl⟩
  rw [← hq] at V E
  clear hq
  have b1 := (cell1 KB.out).1
  go_wp2_with fail
  refine V.out.mono ?_
  rintro e w2 ⟨rfl, hb2⟩
  have HB2 := Lib.hid (bel_trans HB1.out hb2)
  have KB2 := Lib.hid (blkc KB.out hb2)
  have KR2 := Lib.hid (blkc KR.out hb2)
  have HO2 := Lib.hid (HO.out.next hb2)
  have hs3 : w.heap.size + 1 + 1 ≤ w2.heap.size := Nat.le_trans hs2 hb2.size
  clear hb2 b1 V HB1 KB KR HO hs2
  obtain ⟨a1, a2, a3⟩ := cell1 KR2.out
  have bad : Hid (q = false → r = ([], -1)) := fun h => by rw [E.out, h]; rfl
  have good : Hid (q = true → r = hTake h kind) := fun h => by rw [E.out, h]; rfl
  cases q
  · obtain rfl := bad.out rfl
    have HRS := Lib.hid (res1 KR2.out (.slice none 0 0))
    go_wp2
    exact bodyPost_ret (v := .tuple #[.agg #[.slice none 0 0], .int .i64 (-1)]) (by simp [results, Try.results31, go_sem, HRS.out]) rfl ⟨none, 0, rfl, Own.none_, Nat.le_refl _, HB2.out.setCell (p := ⟨w.heap.size + 1, 0, none⟩) (by show w.heap.size ≤ w.heap.size + 1; omega) _⟩
  · have hgood := good.out rfl
    clear bad good E
    obtain ⟨x1, x2, x3⟩ := cell1 KB2.out
    have HRR := Lib.hid ((HO2.out.rd).alloc (.cells #[] 3))
    go_upto_region 5 with (at_builtin; refine wpList_app _ eiInt rfl (.tmp 17) (.tmp 19) rfl w2.heap.size Own.none_ HRR.out rfl rfl rfl (by simp; omega) (by simp) ?_; intro v' w4 row hown4 hg4 hrow4; simp only [List.nil_append] at hown4; obtain ⟨A4, c4, hv4, hc4, _⟩ := hown4.form; subst hv4; have hb24 := (below1 w2 (.cells #[] 3)).trans (below_of_row hg4 (fun k hk => (hrow4 k hk).1) (by simp)); have HB24 := Lib.hid hb24; have HO4 := Lib.hid hown4; clear hown4 hg4 hrow4 hb24)
    have HB45 := Lib.hid (bel_trans HB24.out (below1 w4 (.cells #[.slice A4 h.length c4] 25)))
    have HX5 := Lib.hid (heap_alloc_new w4 (.cells #[.slice A4 h.length c4] 25))
    have HO5 := Lib.hid ((HO4.out.alloc (.cells #[.slice A4 h.length c4] 25)).more (base' := w.heap.size + 1 + 1) hs3)
    obtain ⟨v5, hv5⟩ : ∃ v5, v5 = w4.alloc (.cells #[.slice A4 h.length c4] 25) := ⟨_, rfl⟩
    obtain ⟨X, hX⟩ : ∃ X, X = w4.heap.size := ⟨_, rfl⟩
    have hXs : w.heap.size + 1 + 1 ≤ X := by have := HB24.out.size; omega
    rw [← hv5] at HB45 HX5 HO5 ⊢
    rw [← hX] at HX5 ⊢
    have KR5 := Lib.hid (blkc KR2.out HB45.out)
    have KB5 := Lib.hid (blkc KB2.out HB45.out)
    have HOh := Lib.hid (HO2.out.next HB45.out)
    have HB5 := Lib.hid (bel_trans HB2.out HB45.out)
    clear hv5 hX HO4 HB24 HB45 KB2 KR2 HO2 HB2 HRR a1 a2 a3 x1 x2 x3
    obtain ⟨x1, x2, x3⟩ := cell1 KB5.out
    obtain ⟨y1, y2, y3⟩ := cell1 HX5.out
    obtain ⟨a1, a2, a3⟩ := cell1 KR5.out
    by_cases h0 : h.length = 0
    · have e : hTake h kind = (h, -1) := by rw [List.eq_nil_of_length_eq_zero h0]; rfl
      rw [e] at hgood
      subst hgood
      have hq0 : ((h.length : Int) == 0) = true := by rw [beq_iff_eq]; omega
      have HRS := Lib.hid (res1 KR5.out (.slice A4 h.length c4))
      have HOF := Lib.hid ((HO5.out.kept (gset (g := w.heap.size + 1) 0 (.slice A4 h.length c4)) (fun k hk => by cases hk; omega)).more (base' := w.heap.size) (by omega))
      have HBF := Lib.hid (HB5.out.setCell (p := ⟨w.heap.size + 1, 0, none⟩) (by show w.heap.size ≤ w.heap.size + 1; omega) (.slice A4 h.length c4))
      clear h0 e
      go_wp2
      exact bodyPost_ret (v := .tuple #[.agg #[.slice A4 h.length c4], .int .i64 (-1)]) (by simp [results, Try.results31, go_sem, HRS.out]) rfl ⟨A4, c4, rfl, HOF.out, hc4, HBF.out⟩
    · have hpos : 0 < h.length := by omega
      have hq0 : ((h.length : Int) == 0) = false := by rw [beq_eq_false_iff_ne]; omega
      have E := Lib.hid (hTake_cons (kind := kind) hpos)
      have hne : h ≠ [] := by intro e; simp [e] at hpos
      obtain ⟨A', c', hv, _, hf⟩ := HOh.out.form
      injection hv with hA _ hcc
      subst hA
      subst hcc
      obtain ⟨ga, rfl, hga1, hga2⟩ := hf hne
      clear hf
      obtain ⟨bb, oo, hA, _, h1⟩ := HOh.out.rd.at1 (k := 0) rfl hpos rfl
      simp only [Option.some.injEq, Addr.mk.injEq, and_true] at hA
      obtain ⟨rfl, rfl⟩ := hA
      simp only [Nat.add_zero] at h1
      obtain ⟨x, hx⟩ : ∃ x, x = h[0] := ⟨_, rfl⟩
      rw [← hx] at E h1
      have hi0 : (0 : Int) < (h.length : Int) := by omega
      clear hx hne
      by_cases k1 : kind = 1
      · have n1 : (kind != 1) = false := by rw [k1]; rfl
        rw [E.out, if_pos k1] at hgood
        subst hgood
        have HRS := Lib.hid (res1 KR5.out (.slice A4 h.length c4))
        have HOF := Lib.hid ((HO5.out.kept (gset (g := w.heap.size + 1) 0 (.slice A4 h.length c4)) (fun k hk => by cases hk; omega)).more (base' := w.heap.size) (by omega))
        have HBF := Lib.hid (HB5.out.setCell (p := ⟨w.heap.size + 1, 0, none⟩) (by show w.heap.size ≤ w.heap.size + 1; omega) (.slice A4 h.length c4))
        clear k1
        go_wp2_with fail
        go_region
        all_goals (try go_wp2)
        all_goals exact bodyPost_ret (v := .tuple #[.agg #[.slice A4 h.length c4], .int .i64 x]) (by simp [results, Try.results31, go_sem, HRS.out]) rfl ⟨A4, c4, rfl, HOF.out, hc4, below_drew HBF.out⟩
      · have n1 : (kind != 1) = true := by rw [bne_iff_ne]; exact k1
        rw [E.out, if_neg k1] at hgood
        obtain ⟨t, ht⟩ : ∃ t, t = h.drop 1 := ⟨_, rfl⟩
        have htl : t.length = h.length - 1 := by rw [ht, List.length_drop]
        have HTL := Lib.hid htl
        have htl2 : t.length ≤ 100 := by omega
        have HRt := HOh.out.rd.drop (m := 1) (cap := c1) hc1
        rw [← ht] at hgood HRt
        subst hgood
        clear k1 ht E
        by_cases hcc : c1 = 1
        · subst hcc
          rw [if_pos rfl] at HRt
          have ht0 : t.length = 0 := by omega
          have HR7 := Lib.hid (HRt.alloc (.cells #[] 3))
          have hn0 := Lib.hid ht0.symm
          have hi1 : (1 : Int) ≤ (h.length : Int) := by omega
          clear htl ht0 HRt
          go_upto_region 9 with (at_builtin; refine wpList_app _ eiInt rfl (.tmp 29) (.tmp 32) rfl v5.heap.size Own.none_ HR7.out hn0.out rfl rfl (by simp; omega) (by simp) ?_; intro v' w7 row hown7 hg7 hrow7; simp only [List.nil_append] at hown7; obtain ⟨A7, c7, hv7, hc7, _⟩ := hown7.form; subst hv7; have hb7 := (below1 v5 (.cells #[] 3)).trans (below_of_row hg7 (fun k hk => (hrow7 k hk).1) (by simp)); have HB7 := Lib.hid hb7; have HO7 := Lib.hid hown7; obtain ⟨z1, z2, z3⟩ := cell1 (blkc HX5.out hb7); clear hown7 hg7 hrow7 hb7)
          have HX8 := Lib.hid (set1 (u := .slice A7 t.length c7) (blkc HX5.out HB7.out))
          have KR8 := Lib.hid (blko (blkc KR5.out HB7.out) (p := ⟨X, 0, none⟩) (.slice A7 t.length c7) (by simp; omega))
          have KB8 := Lib.hid (blko (blkc KB5.out HB7.out) (p := ⟨X, 0, none⟩) (.slice A7 t.length c7) (by simp; omega))
          have hgX : ga ≠ X := fun e => by
            subst e
            obtain ⟨_, cur, hcur⟩ := HOh.out.blk (by intro e; simp [e] at hpos)
            have hq := HX5.out
            rw [hcur] at hq
            injection hq with hq
            injection hq with _ hq
            exact absurd hq (by decide)
          have h18 : Hid ((w7.setCell ⟨X, 0, none⟩ (.slice A7 t.length c7)).cell? ⟨ga, 0, none⟩ = some (.int .i64 x)) := by
            show _ = _
            rw [World.cell?_setCell_other _ _ _ _ (fun e => by injection e with e1 _ _; exact hgX e1.symm)]
            exact (HB7.out.cell (p := ⟨ga, 0, none⟩) hga2).trans h1
          have HRS := Lib.hid (res1 KR8.out (.slice A7 t.length c7))
          have hX5 : X < v5.heap.size := y3
          have HO8 := Lib.hid (HO7.out.kept (gset (g := X) 0 (.slice A7 t.length c7)) (fun k hk => by cases hk; omega))
          have HOF := Lib.hid ((HO8.out.kept (gset (g := w.heap.size + 1) 0 (.slice A7 t.length c7)) (fun k hk => by cases hk; omega)).more (base' := w.heap.size) (by omega))
          have HBF := Lib.hid (((bel_trans HB5.out HB7.out).setCell (p := ⟨X, 0, none⟩) (by show w.heap.size ≤ X; omega) (.slice A7 t.length c7)).setCell (p := ⟨w.heap.size + 1, 0, none⟩) (by show w.heap.size ≤ w.heap.size + 1; omega) (.slice A7 t.length c7))
          obtain ⟨v8, hv8⟩ : ∃ v8, v8 = w7.setCell ⟨X, 0, none⟩ (.slice A7 t.length c7) := ⟨_, rfl⟩
          rw [← hv8] at HX8 KR8 KB8 h18 HRS HOF HBF ⊢
          clear hv8 z1 z2 z3 x1 x2 x3 y1 y2 y3 a1 a2 a3 h1 HO7 HO8 hgX
          obtain ⟨x1, x2, x3⟩ := cell1 KB8.out
          obtain ⟨y1, y2, y3⟩ := cell1 HX8.out
          obtain ⟨a1, a2, a3⟩ := cell1 KR8.out
          have h1 := h18.out
          go_region
          all_goals (try go_wp2)
          all_goals exact bodyPost_ret (v := .tuple #[.agg #[.slice A7 t.length c7], .int .i64 x]) (by simp [results, Try.results31, go_sem, HRS.out]) rfl ⟨A7, c7, rfl, HOF.out, hc7, below_drew HBF.out⟩
        · rw [if_neg hcc, Option.map_some, add_off, Nat.zero_add] at HRt
          have HR7 := Lib.hid (HRt.alloc (.cells #[] 3))
          have hn0 := Lib.hid htl.symm
          have hi1 : (1 : Int) ≤ (h.length : Int) := by omega
          have hi2 : (1 : Int) ≤ (c1 : Int) := by omega
          clear htl HRt
          go_upto_region 9 with (at_builtin; refine wpList_app _ eiInt rfl (.tmp 29) (.tmp 32) rfl v5.heap.size Own.none_ HR7.out hn0.out rfl rfl (by simp; omega) (by simp) ?_; intro v' w7 row hown7 hg7 hrow7; simp only [List.nil_append] at hown7; obtain ⟨A7, c7, hv7, hc7, _⟩ := hown7.form; subst hv7; have hb7 := (below1 v5 (.cells #[] 3)).trans (below_of_row hg7 (fun k hk => (hrow7 k hk).1) (by simp)); have HB7 := Lib.hid hb7; have HO7 := Lib.hid hown7; obtain ⟨z1, z2, z3⟩ := cell1 (blkc HX5.out hb7); clear hown7 hg7 hrow7 hb7)
          have HX8 := Lib.hid (set1 (u := .slice A7 t.length c7) (blkc HX5.out HB7.out))
          have KR8 := Lib.hid (blko (blkc KR5.out HB7.out) (p := ⟨X, 0, none⟩) (.slice A7 t.length c7) (by simp; omega))
          have KB8 := Lib.hid (blko (blkc KB5.out HB7.out) (p := ⟨X, 0, none⟩) (.slice A7 t.length c7) (by simp; omega))
          have hgX : ga ≠ X := fun e => by
            subst e
            obtain ⟨_, cur, hcur⟩ := HOh.out.blk (by intro e; simp [e] at hpos)
            have hq := HX5.out
            rw [hcur] at hq
            injection hq with hq
            injection hq with _ hq
            exact absurd hq (by decide)
          have h18 : Hid ((w7.setCell ⟨X, 0, none⟩ (.slice A7 t.length c7)).cell? ⟨ga, 0, none⟩ = some (.int .i64 x)) := by
            show _ = _
            rw [World.cell?_setCell_other _ _ _ _ (fun e => by injection e with e1 _ _; exact hgX e1.symm)]
            exact (HB7.out.cell (p := ⟨ga, 0, none⟩) hga2).trans h1
          have HRS := Lib.hid (res1 KR8.out (.slice A7 t.length c7))
          have hX5 : X < v5.heap.size := y3
          have HO8 := Lib.hid (HO7.out.kept (gset (g := X) 0 (.slice A7 t.length c7)) (fun k hk => by cases hk; omega))
          have HOF := Lib.hid ((HO8.out.kept (gset (g := w.heap.size + 1) 0 (.slice A7 t.length c7)) (fun k hk => by cases hk; omega)).more (base' := w.heap.size) (by omega))
          have HBF := Lib.hid (((bel_trans HB5.out HB7.out).setCell (p := ⟨X, 0, none⟩) (by show w.heap.size ≤ X; omega) (.slice A7 t.length c7)).setCell (p := ⟨w.heap.size + 1, 0, none⟩) (by show w.heap.size ≤ w.heap.size + 1; omega) (.slice A7 t.length c7))
          obtain ⟨v8, hv8⟩ : ∃ v8, v8 = w7.setCell ⟨X, 0, none⟩ (.slice A7 t.length c7) := ⟨_, rfl⟩
          rw [← hv8] at HX8 KR8 KB8 h18 HRS HOF HBF ⊢
          clear hv8 z1 z2 z3 x1 x2 x3 y1 y2 y3 a1 a2 a3 h1 HO7 HO8 hgX
          obtain ⟨x1, x2, x3⟩ := cell1 KB8.out
          obtain ⟨y1, y2, y3⟩ := cell1 HX8.out
          obtain ⟨a1, a2, a3⟩ := cell1 KR8.out
          have h1 := h18.out
          go_region
          all_goals (try go_wp2)
          all_goals exact bodyPost_ret (v := .tuple #[.agg #[.slice A7 t.length c7], .int .i64 x]) (by simp [results, Try.results31, go_sem, HRS.out]) rfl ⟨A7, c7, rfl, HOF.out, hc7, below_drew HBF.out⟩
end Go.Proofs.Ytonhkadbiepedaa
