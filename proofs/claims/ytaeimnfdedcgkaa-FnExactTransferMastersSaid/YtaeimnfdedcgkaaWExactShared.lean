/- The walks of FnExactSharedPlaces and FnExactPartReach: true for every argument, and nothing that was there is written. -/
import Derived.Test.YtaeimnfdedcgkaaExPart
import Derived.Deep.RegionLaw
namespace Go.Proofs.Ytaeimnfdedcgkaa
open Go.RowKit Go.Sort
theorem prtOk_same {p q : Prt} (h1 : q.wins = p.wins) (h2 : q.cells = p.cells) : prtOk q = prtOk p := by unfold prtOk; rw [h1, h2]
theorem prtsOk_same {qs ps : List Prt} (h : SameP qs ps) : prtsOk qs = prtsOk ps := by
  unfold prtsOk
  rw [h.1]
  congr 1
  rw [Bool.eq_iff_iff, List.all_eq_true, List.all_eq_true]
  constructor
  · intro k p hp
    obtain ⟨i, hi, rfl⟩ := List.getElem_of_mem hp
    have hq : i < qs.length := by have := h.1; omega
    rw [← prtOk_same (h.2 i hq hi).1 (h.2 i hq hi).2]
    exact k _ (List.getElem_mem hq)
  · intro k p hp
    obtain ⟨i, hi, rfl⟩ := List.getElem_of_mem hp
    have hq : i < ps.length := by have := h.1; omega
    rw [prtOk_same (h.2 i hi hq).1 (h.2 i hi hq).2]
    exact k _ (List.getElem_mem hq)
theorem rdsP_same {p q : Prt} (h : q.wins = p.wins) (n : Int) : rdsP q n = rdsP p n := by unfold rdsP; rw [h]
theorem shared_same {qs ps : List Prt} (h : SameP qs ps) (a b : Int) : shared qs a b = shared ps a b := by
  unfold shared
  rw [prtsOk_same h, h.1]
  have get : ∀ i : Nat, (qs[i]? = none ∧ ps[i]? = none) ∨ ∃ q p, qs[i]? = some q ∧ ps[i]? = some p ∧ q.wins = p.wins := fun i => by
    by_cases hi : i < qs.length
    · have hp : i < ps.length := by have := h.1; omega
      exact .inr ⟨_, _, List.getElem?_eq_getElem hi, List.getElem?_eq_getElem hp, (h.2 i hi hp).1⟩
    · exact .inl ⟨List.getElem?_eq_none (by omega), List.getElem?_eq_none (by have := h.1; omega)⟩
  rcases get a.toNat with ⟨e1, e2⟩ | ⟨q1, p1, e1, e2, w1⟩ <;> rcases get b.toNat with ⟨e3, e4⟩ | ⟨q2, p2, e3, e4, w2⟩ <;> rw [e1, e2, e3, e4]
  have : (fun i : Nat => rdsP q1 i && rdsP q2 i) = fun i : Nat => rdsP p1 i && rdsP p2 i := funext fun i => by rw [rdsP_same w1, rdsP_same w2]
  show (if _ then ((cnt (fun i : Nat => rdsP q1 i && rdsP q2 i) 4096 : Nat) : Int) else -1) = (if _ then ((cnt (fun i : Nat => rdsP p1 i && rdsP p2 i) 4096 : Nat) : Int) else -1)
  rw [this]
set_option maxRecDepth 100000 in
set_option maxHeartbeats 3200000 in
theorem walkFnExactSharedPlaces (A : Option Addr) (c : Nat) (ps : List Prt) (n1 n2 : Int) (w : World) (hn : ps.length ≤ 9223372036854775807) (hr : Rd ePrt w w.heap.size A ps) (hs : ∀ p, p ∈ ps → Rd eWin w w.heap.size p.A p.wins ∧ p.wins.length ≤ p.c ∧ p.wins.length ≤ 9223372036854775807) (_h1 : (Lit.int .i64 n1).wf = true) (_h2 : (Lit.int .i64 n2).wf = true) :
    Calls Try.prog 6 #[.slice A ps.length c, .int .i64 n1, .int .i64 n2] w fun e w' => e = .returned (.bool true) ∧ Below w.heap.size w w' := by
  have HZ := Lib.hid (callSzPartS A c ps w w.heap.size (Nat.le_refl _) hn (fun p hp => (hs p hp).2.2) hr)
  have HR := Lib.hid hr
  have HS := Lib.hid hs
  clear hr hs
  go_enter Try.func6, Try.ntmps6
  go_wp2_with fail
  refine HZ.out.mono ?_
  rintro e w1 ⟨r, rfl, hr1, hr0, hb1⟩
  have HB1 := Lib.hid hb1
  have HRZ := Lib.hid hr0
  clear HZ hb1 hr0
  by_cases h0 : 0 ≤ r
  · have hd : decide (r < 0) = false := decide_eq_false (by omega)
    obtain ⟨hl, hw⟩ := HRZ.out h0
    have HW := Lib.hid hw
    have HP : Hid (∀ W, Below w.heap.size w W → RdP W W.heap.size A ps) := fun W hW => ⟨(HR.out.below hW).mono hW.size, fun p hp => ⟨((HS.out p hp).1.below hW).mono hW.size, HW.out p hp⟩⟩
    have HT : Hid (∀ W, Below w.heap.size w W → Calls Try.prog 24 #[.slice A ps.length c] W (ToP W ps)) := fun W hW => callToPartS A c ps W W.heap.size (Nat.le_refl _) hl (HP.out W hW)
    obtain ⟨V, hV⟩ : ∃ V, V = shared ps n1 n2 := ⟨_, rfl⟩
    have HV := Lib.hid hV
    clear hw HRZ HR HS hV
    have hvv : (V != V) = false := by simp
    go_wp2_with fail
    refine (HT.out w1 HB1.out).mono ?_
    rintro e w2 ⟨rfl, qs, hq, hsm⟩
    have HB2 := Lib.hid (bel_trans HB1.out hq.bel)
    have hl2 := hsm.1
    have C2 := callSShared (some ⟨w1.heap.size, 0, none⟩) ps.length qs n1 n2 w2 w2.heap.size (Nat.le_refl _) (by omega) (hq.rd (hsm.len HW.out))
    rw [shared_same hsm n1 n2, ← HV.out, hl2] at C2
    have HC2 := Lib.hid C2
    clear hq hsm C2 hl2
    go_wp2_with fail
    refine HC2.out.mono ?_
    rintro e w3 ⟨rfl, hb3⟩
    have HB3 := Lib.hid (bel_trans HB2.out hb3)
    clear hb3 HC2 HB2
    go_wp2_with fail
    refine (HT.out w3 HB3.out).mono ?_
    rintro e w4 ⟨rfl, xs, hx, hsx⟩
    have HB4 := Lib.hid (bel_trans HB3.out hx.bel)
    have hl4 := hsx.1
    have HX := Lib.hid (hx.rd (hsx.len HW.out))
    have HSX := Lib.hid hsx
    have C4 := callShared (some ⟨w3.heap.size, 0, none⟩) ps.length xs n1 n2 w4 w4.heap.size (Nat.le_refl _) (by omega) HX.out
    rw [shared_same hsx n1 n2, ← HV.out, hl4] at C4
    have HC4 := Lib.hid C4
    clear hx hsx C4
    go_wp2_with fail
    refine HC4.out.mono ?_
    rintro e w5 ⟨rfl, hb5⟩
    have HB5 := Lib.hid (bel_trans HB4.out hb5)
    have HX5 : Hid (RdP w5 w5.heap.size (some ⟨w3.heap.size, 0, none⟩) xs) := ⟨HX.out.1.next hb5, fun p hp => ⟨(HX.out.2 p hp).1.next hb5, (HX.out.2 p hp).2⟩⟩
    clear hb5 HC4 HB4 HX
    go_wp2_with fail
    refine (HT.out w5 HB5.out).mono ?_
    rintro e w6 ⟨rfl, ys, hy, hsy⟩
    have HB6 := Lib.hid (bel_trans HB5.out hy.bel)
    have hl6 := hsy.1
    have HX6 : RdP w6 w6.heap.size (some ⟨w3.heap.size, 0, none⟩) xs := ⟨HX5.out.1.next hy.bel, fun p hp => ⟨(HX5.out.2 p hp).1.next hy.bel, (HX5.out.2 p hp).2⟩⟩
    have C6 := callEqPartST (some ⟨w3.heap.size, 0, none⟩) (some ⟨w5.heap.size, 0, none⟩) ps.length ps.length xs ys w6 w6.heap.size (Nat.le_refl _) (by omega) (hsy.trans HSX.out.symm) HX6 (hy.rd (hsy.len HW.out))
    rw [hl4, hl6] at C6
    have HC6 := Lib.hid C6
    clear hy hsy HX6 C6 hl4 hl6
    go_wp2_with fail
    refine HC6.out.mono ?_
    rintro e w7 ⟨rfl, hb7⟩
    have HB7 := Lib.hid (bel_trans HB6.out hb7)
    clear hb7
    go_wp2
    go_ret
    exact ⟨rfl, HB7.out⟩
  · have hd : decide (r < 0) = true := decide_eq_true (by omega)
    clear HRZ
    go_wp2
    go_ret
    exact ⟨rfl, HB1.out⟩
set_option maxRecDepth 100000 in
set_option maxHeartbeats 3200000 in
theorem walkFnExactPartReach (A : Option Addr) (c : Nat) (ps : List Prt) (n1 : Int) (w : World) (hn : ps.length ≤ 9223372036854775807) (hr : Rd ePrt w w.heap.size A ps) (hs : ∀ p, p ∈ ps → Rd eWin w w.heap.size p.A p.wins ∧ p.wins.length ≤ p.c ∧ p.wins.length ≤ 9223372036854775807) (_h1 : (Lit.int .i64 n1).wf = true) :
    Calls Try.prog 7 #[.slice A ps.length c, .int .i64 n1] w fun e w' => e = .returned (.bool true) ∧ Below w.heap.size w w' := by
  have HZ := Lib.hid (callSzPartS A c ps w w.heap.size (Nat.le_refl _) hn (fun p hp => (hs p hp).2.2) hr)
  have HR := Lib.hid hr
  have HS := Lib.hid hs
  clear hr hs
  go_enter Try.func7, Try.ntmps7
  go_wp2_with fail
  refine HZ.out.mono ?_
  rintro e w1 ⟨r, rfl, hr1, hr0, hb1⟩
  have HB1 := Lib.hid hb1
  have HRZ := Lib.hid hr0
  clear HZ hb1 hr0
  by_cases h0 : 0 ≤ r
  · have hd : decide (r < 0) = false := decide_eq_false (by omega)
    obtain ⟨hl, hw⟩ := HRZ.out h0
    have HW := Lib.hid hw
    have HP : Hid (∀ W, Below w.heap.size w W → RdP W W.heap.size A ps) := fun W hW => ⟨(HR.out.below hW).mono hW.size, fun p hp => ⟨((HS.out p hp).1.below hW).mono hW.size, HW.out p hp⟩⟩
    have HT : Hid (∀ W, Below w.heap.size w W → Calls Try.prog 24 #[.slice A ps.length c] W (ToP W ps)) := fun W hW => callToPartS A c ps W W.heap.size (Nat.le_refl _) hl (HP.out W hW)
    obtain ⟨V, hV⟩ : ∃ V, V = shared ps n1 n1 := ⟨_, rfl⟩
    have HV := Lib.hid hV
    clear hw HRZ HR HS hV
    have hvv : (V != V) = false := by simp
    go_wp2_with fail
    refine (HT.out w1 HB1.out).mono ?_
    rintro e w2 ⟨rfl, qs, hq, hsm⟩
    have HB2 := Lib.hid (bel_trans HB1.out hq.bel)
    have hl2 := hsm.1
    have C2 := callSReach (some ⟨w1.heap.size, 0, none⟩) ps.length qs n1 w2 w2.heap.size (Nat.le_refl _) (by omega) (hq.rd (hsm.len HW.out))
    rw [shared_same hsm n1 n1, ← HV.out, hl2] at C2
    have HC2 := Lib.hid C2
    clear hq hsm C2 hl2
    go_wp2_with fail
    refine HC2.out.mono ?_
    rintro e w3 ⟨rfl, hb3⟩
    have HB3 := Lib.hid (bel_trans HB2.out hb3)
    clear hb3 HC2 HB2
    go_wp2_with fail
    refine (HT.out w3 HB3.out).mono ?_
    rintro e w4 ⟨rfl, xs, hx, hsx⟩
    have HB4 := Lib.hid (bel_trans HB3.out hx.bel)
    have hl4 := hsx.1
    have HX := Lib.hid (hx.rd (hsx.len HW.out))
    have HSX := Lib.hid hsx
    have C4 := callReach (some ⟨w3.heap.size, 0, none⟩) ps.length xs n1 w4 w4.heap.size (Nat.le_refl _) (by omega) HX.out
    rw [shared_same hsx n1 n1, ← HV.out, hl4] at C4
    have HC4 := Lib.hid C4
    clear hx hsx C4
    go_wp2_with fail
    refine HC4.out.mono ?_
    rintro e w5 ⟨rfl, hb5⟩
    have HB5 := Lib.hid (bel_trans HB4.out hb5)
    have HX5 : Hid (RdP w5 w5.heap.size (some ⟨w3.heap.size, 0, none⟩) xs) := ⟨HX.out.1.next hb5, fun p hp => ⟨(HX.out.2 p hp).1.next hb5, (HX.out.2 p hp).2⟩⟩
    clear hb5 HC4 HB4 HX
    go_wp2_with fail
    refine (HT.out w5 HB5.out).mono ?_
    rintro e w6 ⟨rfl, ys, hy, hsy⟩
    have HB6 := Lib.hid (bel_trans HB5.out hy.bel)
    have hl6 := hsy.1
    have HX6 : RdP w6 w6.heap.size (some ⟨w3.heap.size, 0, none⟩) xs := ⟨HX5.out.1.next hy.bel, fun p hp => ⟨(HX5.out.2 p hp).1.next hy.bel, (HX5.out.2 p hp).2⟩⟩
    have C6 := callEqPartST (some ⟨w3.heap.size, 0, none⟩) (some ⟨w5.heap.size, 0, none⟩) ps.length ps.length xs ys w6 w6.heap.size (Nat.le_refl _) (by omega) (hsy.trans HSX.out.symm) HX6 (hy.rd (hsy.len HW.out))
    rw [hl4, hl6] at C6
    have HC6 := Lib.hid C6
    clear hy hsy HX6 C6 hl4 hl6
    go_wp2_with fail
    refine HC6.out.mono ?_
    rintro e w7 ⟨rfl, hb7⟩
    have HB7 := Lib.hid (bel_trans HB6.out hb7)
    clear hb7
    go_wp2
    go_ret
    exact ⟨rfl, HB7.out⟩
  · have hd : decide (r < 0) = true := decide_eq_true (by omega)
    clear HRZ
    go_wp2
    go_ret
    exact ⟨rfl, HB1.out⟩
end Go.Proofs.Ytaeimnfdedcgkaa
