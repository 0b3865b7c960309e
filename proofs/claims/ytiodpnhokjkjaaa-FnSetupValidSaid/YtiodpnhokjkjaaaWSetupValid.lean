/- The walk of the law FnSetupValid: true for every input, and nothing that was there is written. -/
import Derived.Test.YtiodpnhokjkjaaaSet
import Derived.Test.YtiodpnhokjkjaaaSev
import Derived.BigQuiet
namespace Go.Proofs.Ytiodpnhokjkjaaa
open Go.RowKit Go.Sort

theorem setB_slots (ps : List Prt) (cs : List Chn) : setB ps cs [] = false := by
  unfold setB sltsOk
  rw [show inB (([] : List Slt).length : Int) 1 12 = false by rfl, Bool.false_and, Bool.and_false, Bool.and_false]
theorem setB_chan (ps : List Prt) (ss : List Slt) : setB ps [⟨2, 0, ps.length, 1⟩] ss = false := by
  have : chansB [⟨2, 0, ps.length, 1⟩] (ps.length : Int) = false := by
    have h : inB (ps.length : Int) 0 ((ps.length : Int) - 1) = false := by
      rw [Bool.eq_false_iff]; intro h; have := inB_iff.1 h; omega
    unfold chansB
    rw [List.all_cons]
    unfold chnB
    simp only [h, Bool.and_false, Bool.false_and]
  unfold setB
  rw [this, Bool.and_false, Bool.false_and]

theorem rd_chn1 {w : World} {b : Nat} {k f t s : Int} {T : TypeId} (h : w.heap[b]? = some (.cells #[.int .i64 k, .int .i64 f, .int .i64 t, .int .i64 s] T (0, 0))) : Rd eChn w w.heap.size (some ⟨b, 0, none⟩) [⟨k, f, t, s⟩] := fun _ => by
  refine ⟨b, 0, rfl, (Array.getElem?_eq_some_iff.1 h).1, fun i x hi j v hj => ?_⟩
  rcases i with _ | i
  · have hx : x = ⟨k, f, t, s⟩ := by simpa using hi.symm
    subst hx
    rw [cell_of_row w b _ _ _ _ h, Nat.zero_mul, Nat.zero_add, ← Array.getElem?_toList]
    exact hj
  · simp at hi

set_option maxRecDepth 100000 in
set_option maxHeartbeats 6400000 in
theorem walkFnSetupValid (A : Option Addr) (c : Nat) (bs : List Int) (w : World) (hc : bs.length ≤ c) (hr : Rd eU8 w w.heap.size A bs) (hby : ∀ x ∈ bs, 0 ≤ x ∧ x ≤ 255) :
    Calls Try.prog 9 #[.slice A bs.length c] w fun e w' => e = .returned (.bool true) ∧ Below w.heap.size w w' := by
  by_cases hl : bs.length ≤ 1048576
  · have HC := Lib.hid (callDrawSetupValid A c bs w hc hl hr hby)
    clear hr hby
    go_enter Try.func9, Try.ntmps9
    go_wp2_with fail
    refine HC.out.mono ?_
    rintro e w1 ⟨Ap, cp, ps, Ac, cc, cs, As, cl, ss, rfl, hl1, hl2, hl3, hrp, hrc, hrs, hb1⟩
    have HB1 := Lib.hid (bel_trans hb1 (below1 w1 (.cells #[.slice Ap ps.length cp, .slice Ac cs.length cc, .slice As ss.length cl] 60)))
    have K0 := Lib.hid (heap_alloc_new w1 (.cells #[.slice Ap ps.length cp, .slice Ac cs.length cc, .slice As ss.length cl] 60))
    have HP : Hid (RdP (w1.alloc (.cells #[.slice Ap ps.length cp, .slice Ac cs.length cc, .slice As ss.length cl] 60)) (w1.alloc (.cells #[.slice Ap ps.length cp, .slice Ac cs.length cc, .slice As ss.length cl] 60)).heap.size Ap ps) := ⟨hrp.1.alloc _, fun p hp => ⟨(hrp.2 p hp).1.alloc _, (hrp.2 p hp).2⟩⟩
    have HCn := Lib.hid (hrc.alloc (.cells #[.slice Ap ps.length cp, .slice Ac cs.length cc, .slice As ss.length cl] 60))
    have HS := Lib.hid (hrs.alloc (.cells #[.slice Ap ps.length cp, .slice Ac cs.length cc, .slice As ss.length cl] 60))
    clear hrp hrc hrs hb1 HC
    go_upto_region 4 with (fail)
    obtain ⟨u, hu⟩ : ∃ u, u = w1.alloc (.cells #[.slice Ap ps.length cp, .slice Ac cs.length cc, .slice As ss.length cl] 60) := ⟨_, rfl⟩
    obtain ⟨X, hX⟩ : ∃ X, X = w1.heap.size := ⟨_, rfl⟩
    rw [← hu] at HB1 K0 HP HCn HS ⊢
    rw [← hX] at K0 ⊢
    clear hu hX
    have PN : Hid (∀ W, Below u.heap.size u W → RdP W W.heap.size Ap ps ∧ Rd eChn W W.heap.size Ac cs ∧ Rd eSlt W W.heap.size As ss) := fun W hW => ⟨⟨HP.out.1.next hW, fun p hp => ⟨(HP.out.2 p hp).1.next hW, (HP.out.2 p hp).2⟩⟩, HCn.out.next hW, HS.out.next hW⟩
    have RI := Lib.hid (callSetupValid Ap cp ps Ac cc cs As cl ss u hl1 (by omega) (by omega) HP.out HCn.out HS.out)
    have RS : Hid (∀ (W : World), Below u.heap.size u W → Calls Try.prog 38 #[.agg #[.slice Ap ps.length cp, .slice Ac cs.length cc, .slice As ss.length cl]] W fun e w' => e = .returned (.bool (setB ps cs ss)) ∧ Below W.heap.size W w') := fun W hW => callSSetupValid Ap cp ps Ac cc cs As cl ss W hl1 (by omega) (by omega) (PN.out W hW).1 (PN.out W hW).2.1 (PN.out W hW).2.2
    have R1 : Hid (∀ (W : World), Below u.heap.size u W → Calls Try.prog 37 #[.agg #[.slice Ap ps.length cp, .slice Ac cs.length cc, .slice none 0 0]] W fun e w' => e = .returned (.bool false) ∧ Below W.heap.size W w') := fun W hW => by
      have := callSetupValid Ap cp ps Ac cc cs none 0 [] W hl1 (by omega) (by simp) (PN.out W hW).1 (PN.out W hW).2.1 Rd.nil
      rw [setB_slots] at this
      exact this
    have R2 : Hid (∀ (W : World) (Ad : Option Addr), Below u.heap.size u W → Rd eChn W W.heap.size Ad [⟨2, 0, ps.length, 1⟩] → Calls Try.prog 37 #[.agg #[.slice Ap ps.length cp, .slice Ad 1 1, .slice As ss.length cl]] W fun e w' => e = .returned (.bool false) ∧ Below W.heap.size W w') := fun W Ad hW hA => by
      have := callSetupValid Ap cp ps Ad 1 [⟨2, 0, ps.length, 1⟩] As cl ss W hl1 (by simp) (by omega) (PN.out W hW).1 hA (PN.out W hW).2.2
      rw [setB_chan] at this
      exact this
    obtain ⟨ok, hok⟩ : ∃ ok, ok = setB ps cs ss := ⟨_, rfl⟩
    rw [← hok] at RI RS
    clear hok HP HCn HS PN
    obtain ⟨x0, x1, x2, _, _, _, x6⟩ := cell3 K0.out
    go_wp2_with fail
    refine RI.out.mono ?_
    rintro e w2 ⟨rfl, hb2⟩
    have HB2 := Lib.hid hb2
    have K2 := Lib.hid (blkc K0.out hb2)
    clear hb2 x0 x1 x2 x6 K0 RI
    obtain ⟨x0, x1, x2, _, _, _, x6⟩ := cell3 K2.out
    have hne : (ok != ok) = false := by cases ok <;> rfl
    go_wp2_with fail
    refine (RS.out w2 HB2.out).mono ?_
    rintro e w3 ⟨rfl, hb3⟩
    have HB3 := Lib.hid (bel_trans HB2.out hb3)
    have K3 := Lib.hid (blkc K2.out hb3)
    clear hb3 x0 x1 x2 x6 K2 RS HB2
    obtain ⟨x0, x1, x2, x3, x4, x5, x6⟩ := cell3 K3.out
    go_upto_region 7 with (fail)
    clear hne
    go_upto_region 8 with (fail)
    have L0 := Lib.hid (heap_alloc_new w3 (.cells #[.slice Ap ps.length cp, .slice Ac cs.length cc, .slice As ss.length cl] 60))
    have K4 := Lib.hid (blkc K3.out (below1 w3 (.cells #[.slice Ap ps.length cp, .slice Ac cs.length cc, .slice As ss.length cl] 60)))
    have HB4 := Lib.hid (bel_trans HB3.out (below1 w3 (.cells #[.slice Ap ps.length cp, .slice Ac cs.length cc, .slice As ss.length cl] 60)))
    have hXY : X < w3.heap.size := x6
    have huY : u.heap.size ≤ w3.heap.size := HB3.out.size
    obtain ⟨Y, hY⟩ : ∃ Y, Y = w3.heap.size := ⟨_, rfl⟩
    obtain ⟨w4, hw4⟩ : ∃ w4, w4 = w3.alloc (.cells #[.slice Ap ps.length cp, .slice Ac cs.length cc, .slice As ss.length cl] 60) := ⟨_, rfl⟩
    rw [← hw4] at L0 K4 HB4 ⊢
    rw [← hY] at L0 hXY huY ⊢
    clear hw4 hY x0 x1 x2 x3 x4 x5 x6 K3 HB3
    obtain ⟨y0, y1, y2, y3, y4, y5, y6⟩ := cell3 L0.out
    obtain ⟨x0, x1, x2, x3, x4, x5, x6⟩ := cell3 K4.out
    go_upto_region 9 with (fail)
    have L5 := Lib.hid (set3c (u := .slice none 0 0) L0.out)
    have K5 := Lib.hid (gblk (gset (w := w4) (g := Y) 2 (.slice none 0 0)) K4.out (by simp; omega))
    have HB5 := Lib.hid (HB4.out.setCell (p := ⟨Y, 2, none⟩) huY (.slice none 0 0))
    obtain ⟨w5, hw5⟩ : ∃ w5, w5 = w4.setCell ⟨Y, 2, none⟩ (.slice none 0 0) := ⟨_, rfl⟩
    rw [← hw5] at L5 K5 HB5 ⊢
    clear hw5 x0 x1 x2 x3 x4 x5 x6 y0 y1 y2 y3 y4 y5 y6 K4 HB4 L0
    obtain ⟨x0, x1, x2, x3, x4, x5, x6⟩ := cell3 K5.out
    go_upto_region 10 with (fail)
    have M0 := Lib.hid (heap_alloc_new w5 (.cells #[.slice Ap ps.length cp, .slice Ac cs.length cc, .slice As ss.length cl] 60))
    have K6 := Lib.hid (blkc K5.out (below1 w5 (.cells #[.slice Ap ps.length cp, .slice Ac cs.length cc, .slice As ss.length cl] 60)))
    have L6 := Lib.hid (blkc L5.out (below1 w5 (.cells #[.slice Ap ps.length cp, .slice Ac cs.length cc, .slice As ss.length cl] 60)))
    have HB6 := Lib.hid (bel_trans HB5.out (below1 w5 (.cells #[.slice Ap ps.length cp, .slice Ac cs.length cc, .slice As ss.length cl] 60)))
    have hYZ : Y < w5.heap.size := (Array.getElem?_eq_some_iff.1 L5.out).1
    have huZ : u.heap.size ≤ w5.heap.size := HB5.out.size
    obtain ⟨Z, hZ⟩ : ∃ Z, Z = w5.heap.size := ⟨_, rfl⟩
    obtain ⟨w6, hw6⟩ : ∃ w6, w6 = w5.alloc (.cells #[.slice Ap ps.length cp, .slice Ac cs.length cc, .slice As ss.length cl] 60) := ⟨_, rfl⟩
    rw [← hw6] at M0 K6 L6 HB6 ⊢
    rw [← hZ] at M0 hYZ huZ ⊢
    clear hw6 hZ x0 x1 x2 x3 x4 x5 x6 K5 HB5 L5
    obtain ⟨x0, x1, x2, x3, x4, x5, x6⟩ := cell3 K6.out
    have M1 := Lib.hid (blkc M0.out (below1 w6 (.cells #[.int .i64 2, .int .i64 0, .int .i64 (ps.length : Int), .int .i64 1] 64)))
    have L7 := Lib.hid (blkc L6.out (below1 w6 (.cells #[.int .i64 2, .int .i64 0, .int .i64 (ps.length : Int), .int .i64 1] 64)))
    have HB7 := Lib.hid (bel_trans HB6.out (below1 w6 (.cells #[.int .i64 2, .int .i64 0, .int .i64 (ps.length : Int), .int .i64 1] 64)))
    have hZ6 : Z < w6.heap.size := (Array.getElem?_eq_some_iff.1 M0.out).1
    have N7 := Lib.hid (heap_alloc_new w6 (.cells #[.int .i64 2, .int .i64 0, .int .i64 (ps.length : Int), .int .i64 1] 64))
    obtain ⟨z0, z1, z2, z3, z4, z5, z6⟩ := cell3 M1.out
    go_upto_region 11 with (fail)
    have hsz : (w6.setCell ⟨Z, 1, none⟩ (.slice (some ⟨w6.heap.size, 0, none⟩) 1 1)).heap.size = w6.heap.size := by simp [World.setCell]
    have M8 := Lib.hid (blkc (set3b (u := (.slice (some ⟨w6.heap.size, 0, none⟩) 1 1)) M0.out) (below1 _ (.cells #[.int .i64 2, .int .i64 0, .int .i64 (ps.length : Int), .int .i64 1] 64)))
    have L8 := Lib.hid (blkc (gblk (gset (w := w6) (g := Z) 1 (.slice (some ⟨w6.heap.size, 0, none⟩) 1 1)) L6.out (by simp; omega)) (below1 _ (.cells #[.int .i64 2, .int .i64 0, .int .i64 (ps.length : Int), .int .i64 1] 64)))
    have N8 := heap_alloc_new (w6.setCell ⟨Z, 1, none⟩ (.slice (some ⟨w6.heap.size, 0, none⟩) 1 1)) (.cells #[.int .i64 2, .int .i64 0, .int .i64 (ps.length : Int), .int .i64 1] 64)
    rw [hsz] at N8
    have HB8 := Lib.hid (bel_trans (HB6.out.setCell (p := ⟨Z, 1, none⟩) huZ (.slice (some ⟨w6.heap.size, 0, none⟩) 1 1)) (below1 _ (.cells #[.int .i64 2, .int .i64 0, .int .i64 (ps.length : Int), .int .i64 1] 64)))
    clear hsz
    obtain ⟨w8, hw8⟩ : ∃ w8, w8 = (w6.setCell ⟨Z, 1, none⟩ (.slice (some ⟨w6.heap.size, 0, none⟩) 1 1)).alloc (.cells #[.int .i64 2, .int .i64 0, .int .i64 (ps.length : Int), .int .i64 1] 64) := ⟨_, rfl⟩
    obtain ⟨r, hr⟩ : ∃ r, r = w6.heap.size := ⟨_, rfl⟩
    rw [← hr] at M8 L8 N8 HB8 hw8 ⊢
    rw [← hw8] at M8 L8 N8 HB8 ⊢
    have RD8 := Lib.hid (rd_chn1 N8)
    clear hw8 hr x0 x1 x2 x3 x4 x5 x6 z0 z1 z2 z3 z4 z5 z6 K6 L6 HB6 M0 M1 L7 HB7 N7 N8
    obtain ⟨y0, y1, y2, _, _, _, _⟩ := cell3 L8.out
    go_wp2_with fail
    refine (R1.out w8 HB8.out).mono ?_
    rintro e w9 ⟨rfl, hb9⟩
    have HB9 := Lib.hid (bel_trans HB8.out hb9)
    have RD9 := Lib.hid (RD8.out.next hb9)
    obtain ⟨z0, z1, z2, _, _, _, _⟩ := cell3 (blkc M8.out hb9)
    clear hb9 y0 y1 y2 RD8 M8 L8 HB8
    go_wp2_with fail
    refine (R2.out w9 _ HB9.out RD9.out).mono ?_
    rintro e wa ⟨rfl, hba⟩
    have HBa := Lib.hid (bel_trans HB9.out hba)
    clear hba z0 z1 z2 RD9 HB9
    go_wp2_with fail
    refine (callAlive wa).mono ?_
    rintro e wb ⟨rfl, hbb⟩
    have HBb := Lib.hid (bel_trans (bel_trans HB1.out HBa.out) hbb)
    go_wp2
    go_ret
    exact ⟨rfl, HBb.out⟩
  · have hl' : 1048576 < bs.length := by omega
    clear hr hby hl
    go_enter Try.func9, Try.ntmps9
    go_wp2
    go_ret
    exact ⟨rfl, Below.refl _ _⟩
end Go.Proofs.Ytiodpnhokjkjaaa
