/- SetupValid of the program and of the reference, for every input. -/
import Derived.Test.YtiodpnhokjkjaaaPrt
import Derived.Test.YtiodpnhokjkjaaaSls
import Derived.Test.YtiodpnhokjkjaaaFlf
namespace Go.Proofs.Ytiodpnhokjkjaaa
open Go.RowKit Go.Sort

def setB (ps : List Prt) (cs : List Chn) (ss : List Slt) : Bool := (prtsOk ps && chansB cs ps.length) && sltsOk ss ps.length
set_option maxRecDepth 100000 in
set_option maxHeartbeats 1600000 in
theorem callSetupValid (Ap : Option Addr) (cp : Nat) (ps : List Prt) (Ac : Option Addr) (cc : Nat) (cs : List Chn) (As : Option Addr) (cl : Nat) (ss : List Slt) (w : World) (hl1 : ps.length ≤ 10) (hl2 : cs.length ≤ 1048576) (hl3 : ss.length ≤ 1048576) (hp : RdP w w.heap.size Ap ps) (hc : Rd eChn w w.heap.size Ac cs) (hs : Rd eSlt w w.heap.size As ss) :
    Calls Try.prog 37 #[.agg #[.slice Ap ps.length cp, .slice Ac cs.length cc, .slice As ss.length cl]] w fun e w' => e = .returned (.bool (setB ps cs ss)) ∧ Below w.heap.size w w' := by
  have E : Hid (setB ps cs ss = ((prtsOk ps && chansB cs ps.length) && sltsOk ss ps.length)) := rfl
  have HK := Lib.hid (heap_alloc_new w (.cells #[.slice Ap ps.length cp, .slice Ac cs.length cc, .slice As ss.length cl] 60))
  have HB := Lib.hid (below1 w (.cells #[.slice Ap ps.length cp, .slice Ac cs.length cc, .slice As ss.length cl] 60))
  have C0 : Hid (∀ W, Below w.heap.size w W → Calls Try.prog 70 #[.slice Ap ps.length cp] W fun e w' => e = .returned (.bool (prtsOk ps)) ∧ Below W.heap.size W w') := fun W hW => callPartsValid Ap cp ps W w.heap.size hW.size (by omega) (hp.below hW)
  have C1 : Hid (∀ W, Below w.heap.size w W → Calls Try.prog 48 #[.slice Ac cs.length cc, .int .i64 (ps.length : Int)] W fun e w' => e = .returned (.bool (chansB cs (ps.length : Int))) ∧ Below W.heap.size W w') := fun W hW => callChannelsValid Ac cc cs ps.length W w.heap.size hW.size hl2 (by omega) (by omega) (hc.below hW)
  have C2 : Hid (∀ W, Below w.heap.size w W → Calls Try.prog 71 #[.slice As ss.length cl, .int .i64 (ps.length : Int)] W fun e w' => e = .returned (.bool (sltsOk ss (ps.length : Int))) ∧ Below W.heap.size W w') := fun W hW => callSlotsValid As cl ss ps.length W w.heap.size hW.size hl3 (by omega) (by omega) (hs.below hW)
  obtain ⟨q0, hq0⟩ : ∃ q, q = prtsOk ps := ⟨_, rfl⟩
  obtain ⟨q1, hq1⟩ : ∃ q, q = chansB cs ps.length := ⟨_, rfl⟩
  obtain ⟨q2, hq2⟩ : ∃ q, q = sltsOk ss ps.length := ⟨_, rfl⟩
  rw [← hq0] at C0 E
  rw [← hq1] at C1 E
  rw [← hq2] at C2 E
  clear hq0 hq1 hq2 hp hc hs
  obtain ⟨x0, x1, x2, _, _, _, x6⟩ := cell3 HK.out
  go_enter Try.func37, Try.ntmps37
  go_wp2_with fail
  refine (C0.out _ HB.out).mono ?_
  rintro e w1 ⟨rfl, hb1⟩
  have HK1 := Lib.hid (blkc HK.out hb1)
  have HB1 := Lib.hid (bel_trans HB.out hb1)
  clear hb1 HK HB x0 x1 x2 x6 C0
  obtain ⟨x0, x1, x2, _, _, _, x6⟩ := cell3 HK1.out
  cases q0
  · go_wp2
    go_ret
    exact ⟨by rw [E.out] <;> rfl, HB1.out⟩
  · go_wp2_with fail
    refine (C1.out _ HB1.out).mono ?_
    rintro e w2 ⟨rfl, hb2⟩
    have HK2 := Lib.hid (blkc HK1.out hb2)
    have HB2 := Lib.hid (bel_trans HB1.out hb2)
    clear hb2 HK1 HB1 x0 x1 x2 x6 C1
    obtain ⟨x0, x1, x2, _, _, _, x6⟩ := cell3 HK2.out
    cases q1
    · go_wp2
      go_ret
      exact ⟨by rw [E.out] <;> rfl, HB2.out⟩
    · go_wp2_with fail
      refine (C2.out _ HB2.out).mono ?_
      rintro e w3 ⟨rfl, hb3⟩
      have HB3 := Lib.hid (bel_trans HB2.out hb3)
      clear hb3 HK2 HB2 x0 x1 x2 x6 C2
      go_wp2
      go_ret
      exact ⟨by rw [E.out] <;> rfl, HB3.out⟩
set_option maxRecDepth 100000 in
set_option maxHeartbeats 1600000 in
theorem callSSetupValid (Ap : Option Addr) (cp : Nat) (ps : List Prt) (Ac : Option Addr) (cc : Nat) (cs : List Chn) (As : Option Addr) (cl : Nat) (ss : List Slt) (w : World) (hl1 : ps.length ≤ 10) (hl2 : cs.length ≤ 1048576) (hl3 : ss.length ≤ 1048576) (hp : RdP w w.heap.size Ap ps) (hc : Rd eChn w w.heap.size Ac cs) (hs : Rd eSlt w w.heap.size As ss) :
    Calls Try.prog 38 #[.agg #[.slice Ap ps.length cp, .slice Ac cs.length cc, .slice As ss.length cl]] w fun e w' => e = .returned (.bool (setB ps cs ss)) ∧ Below w.heap.size w w' := by
  have E : Hid (setB ps cs ss = ((prtsOk ps && chansB cs ps.length) && sltsOk ss ps.length)) := rfl
  have HK := Lib.hid (heap_alloc_new w (.cells #[.slice Ap ps.length cp, .slice Ac cs.length cc, .slice As ss.length cl] 60))
  have HB := Lib.hid (below1 w (.cells #[.slice Ap ps.length cp, .slice Ac cs.length cc, .slice As ss.length cl] 60))
  have C0 : Hid (∀ W, Below w.heap.size w W → Calls Try.prog 72 #[.slice Ap ps.length cp] W fun e w' => e = .returned (.bool (prtsOk ps)) ∧ Below W.heap.size W w') := fun W hW => callSPartsValid Ap cp ps W w.heap.size hW.size (by omega) (hp.below hW)
  have C1 : Hid (∀ W, Below w.heap.size w W → Calls Try.prog 51 #[.slice Ac cs.length cc, .int .i64 (ps.length : Int)] W fun e w' => e = .returned (.bool (chansB cs (ps.length : Int))) ∧ Below W.heap.size W w') := fun W hW => callSChannelsValid Ac cc cs ps.length W w.heap.size hW.size hl2 (by omega) (by omega) (hc.below hW)
  have C2 : Hid (∀ W, Below w.heap.size w W → Calls Try.prog 73 #[.slice As ss.length cl, .int .i64 (ps.length : Int)] W fun e w' => e = .returned (.bool (sltsOk ss (ps.length : Int))) ∧ Below W.heap.size W w') := fun W hW => callSSlotsValid As cl ss ps.length W w.heap.size hW.size hl3 (by omega) (by omega) (hs.below hW)
  obtain ⟨q0, hq0⟩ : ∃ q, q = prtsOk ps := ⟨_, rfl⟩
  obtain ⟨q1, hq1⟩ : ∃ q, q = chansB cs ps.length := ⟨_, rfl⟩
  obtain ⟨q2, hq2⟩ : ∃ q, q = sltsOk ss ps.length := ⟨_, rfl⟩
  rw [← hq0] at C0 E
  rw [← hq1] at C1 E
  rw [← hq2] at C2 E
  clear hq0 hq1 hq2 hp hc hs
  obtain ⟨x0, x1, x2, _, _, _, x6⟩ := cell3 HK.out
  go_enter Try.func38, Try.ntmps38
  go_wp2_with fail
  refine (C0.out _ HB.out).mono ?_
  rintro e w1 ⟨rfl, hb1⟩
  have HK1 := Lib.hid (blkc HK.out hb1)
  have HB1 := Lib.hid (bel_trans HB.out hb1)
  clear hb1 HK HB x0 x1 x2 x6 C0
  obtain ⟨x0, x1, x2, _, _, _, x6⟩ := cell3 HK1.out
  cases q0
  · go_wp2
    go_ret
    exact ⟨by rw [E.out] <;> rfl, HB1.out⟩
  · go_wp2_with fail
    refine (C1.out _ HB1.out).mono ?_
    rintro e w2 ⟨rfl, hb2⟩
    have HK2 := Lib.hid (blkc HK1.out hb2)
    have HB2 := Lib.hid (bel_trans HB1.out hb2)
    clear hb2 HK1 HB1 x0 x1 x2 x6 C1
    obtain ⟨x0, x1, x2, _, _, _, x6⟩ := cell3 HK2.out
    cases q1
    · go_wp2
      go_ret
      exact ⟨by rw [E.out] <;> rfl, HB2.out⟩
    · go_wp2_with fail
      refine (C2.out _ HB2.out).mono ?_
      rintro e w3 ⟨rfl, hb3⟩
      have HB3 := Lib.hid (bel_trans HB2.out hb3)
      clear hb3 HK2 HB2 x0 x1 x2 x6 C2
      go_wp2
      go_ret
      exact ⟨by rw [E.out] <;> rfl, HB3.out⟩
end Go.Proofs.Ytiodpnhokjkjaaa
