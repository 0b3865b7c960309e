/- Partitions: PartsValid, reads, SharedPlaces, PartReach of the program and of the reference, for every input. -/
import Derived.Test.YtiodpnhokjkjaaaWin
import Derived.Test.YtiodpnhokjkjaaaLib
namespace Go.Proofs.Ytiodpnhokjkjaaa
open Go.RowKit Go.Sort

/-! ### Plain -/

def prtOk (p : Prt) : Bool := winsOk p.wins && inB p.cells 1 8
def prtsOk (ps : List Prt) : Bool := decide (ps.length ≤ 5) && ps.all prtOk
theorem prtsOk_len {ps : List Prt} (h : prtsOk ps = true) : ps.length ≤ 5 := by unfold prtsOk at h; rw [Bool.and_eq_true] at h; simpa using h.1
theorem prtsOk_mem {ps : List Prt} (h : prtsOk ps = true) {p : Prt} (hp : p ∈ ps) : prtOk p = true := by unfold prtsOk at h; rw [Bool.and_eq_true, List.all_eq_true] at h; exact h.2 p hp
theorem prtOk_wins {p : Prt} (h : prtOk p = true) : winsOk p.wins = true := by unfold prtOk at h; rw [Bool.and_eq_true] at h; exact h.1

/-- Partitions in memory: the row, and the windows of each. -/
def RdP (w : World) (B : Nat) (A : Option Addr) (ps : List Prt) : Prop := Rd ePrt w B A ps ∧ ∀ p, p ∈ ps → Rd eWin w B p.A p.wins ∧ p.wins.length ≤ 1048576
theorem RdP.below {w w' : World} {B : Nat} {A : Option Addr} {ps : List Prt} (h : RdP w B A ps) (hb : Below B w w') : RdP w' B A ps := ⟨h.1.below hb, fun p hp => ⟨(h.2 p hp).1.below hb, (h.2 p hp).2⟩⟩
theorem RdP.wins {w : World} {B : Nat} {A : Option Addr} {ps : List Prt} (h : RdP w B A ps) {k : Nat} (hk : k < ps.length) : Rd eWin w B ps[k].A ps[k].wins ∧ ps[k].wins.length ≤ 1073741824 := by
  obtain ⟨h1, h2⟩ := h.2 _ (List.getElem_mem hk)
  exact ⟨h1, by omega⟩


/-- A partition can read a place. -/
def rdsP (p : Prt) (place : Int) : Bool := p.wins.any (winHas place)
theorem winAt_reads {p : Prt} (h : winsOk p.wins = true) (place : Int) : decide (0 ≤ winAt p.wins place false) = rdsP p place := by
  unfold winAt rdsP
  rw [if_pos h, idx_any]
  congr 1
  funext x
  unfold winFits
  simp


/-! ### PartsValid -/

set_option maxHeartbeats 800000 in
theorem callPrtBad (p : Prt) (w : World) (B : Nat) (hB : B ≤ w.heap.size) (hr : Rd eWin w B p.A p.wins) (hm : p.wins.length ≤ 1048576) :
    Calls Try.prog 95 #[p.val] w fun e w' => e = .returned (.bool (!prtOk p)) ∧ Below w.heap.size w w' := by
  have E : Hid ((!prtOk p) = (!winsOk p.wins || !inB p.cells 1 8)) := by show (!prtOk p) = _; unfold prtOk; rw [Bool.not_and]
  have c1 : (w.alloc (.cells #[.slice p.A p.wins.length p.c, .int .i64 p.cells] 112)).cell? ⟨w.heap.size, 1, none⟩ = some (.int .i64 p.cells) := by rw [World.cell?_alloc_new]; rfl
  have HC := Lib.hid c1
  clear c1
  go_enter Try.func95, Try.ntmps95
  go_wp2_with fail
  refine (callWindowsValid p.A p.c p.wins _ B (by simp; omega) (by omega) (hr.below ((below1 _ _).mono hB))).mono ?_
  rintro e w1 ⟨rfl, hb1⟩
  have c1 : w1.cell? ⟨w.heap.size, 1, none⟩ = some (.int .i64 p.cells) := (hb1.cell (by show w.heap.size < (w.alloc _).heap.size; simp)).trans HC.out
  have HB := Lib.hid (bel_trans (below1 _ _) hb1)
  clear hb1
  cases h1 : winsOk p.wins
  · rw [h1] at E
    clear h1
    go_wp2
    go_ret
    exact ⟨by rw [E.out] <;> rfl, HB.out⟩
  · rw [h1] at E
    clear h1
    go_wp2_with (go_at_call 49; refine (callIn _ _ _ _).mono ?_; rintro e w' ⟨rfl, rfl⟩)
    go_ret
    exact ⟨by rw [E.out]; simp, HB.out⟩

theorem egPrtBad : ∀ (args : Array Value) (w : World), (callFunc 95 args).run Try.prog w = .ok (.enter 95 args) w := enters_fn Try.func95 (by kernel_rfl) rfl

theorem callPartsValid (A : Option Addr) (c : Nat) (ps : List Prt) (w : World) (B : Nat) (hB : B ≤ w.heap.size) (hm : ps.length ≤ 1073741824) (hr : RdP w B A ps) :
    Calls Try.prog 70 #[.slice A ps.length c] w fun e w' => e = .returned (.bool (prtsOk ps)) ∧ Below w.heap.size w w' := by
  have HC := Lib.hid (callContainsPrt A c ps 95 #[] (fun x => !prtOk x) w B hB hm hr.1 egPrtBad (fun x hx w' hb => callPrtBad x w' B (Nat.le_trans hB hb.size) ((hr.2 x hx).1.below (hb.mono hB)) (hr.2 x hx).2))
  have E : Hid (prtsOk ps = (decide (ps.length ≤ 5) && !ps.any fun x => !prtOk x)) := by rw [not_any_not]; rfl
  generalize (ps.any fun x => !prtOk x) = q at *
  clear hr
  by_cases hl : ps.length ≤ 5
  all_goals
    go_enter Try.func70, Try.ntmps70
    go_wp2_with (go_at_call 94; refine HC.out.mono ?_; rintro e w1 ⟨rfl, hb1⟩)
    go_ret
    first | exact ⟨by rw [E.out]; simp [hl], hb1⟩ | exact ⟨by rw [E.out]; simp [hl], Below.refl _ _⟩

set_option maxHeartbeats 800000 in
theorem callSPartsValid (A : Option Addr) (c : Nat) (ps : List Prt) (w : World) (B : Nat) (hB : B ≤ w.heap.size) (hm : ps.length ≤ 1073741824) (hr : RdP w B A ps) :
    Calls Try.prog 72 #[.slice A ps.length c] w fun e w' => e = .returned (.bool (prtsOk ps)) ∧ Below w.heap.size w w' := by
  have E : Hid (prtsOk ps = (decide ((ps.length : Int) ≤ 5) && ps.all prtOk)) := by
    show prtsOk ps = _
    unfold prtsOk
    congr 1
    exact decide_eq_decide.2 (by omega)
  have HR := Lib.hid hr
  clear hr
  go_enter Try.func72, Try.ntmps72
  go_wp2
  go_loopw [3] (fun i wr => ∃ k : Nat, k ≤ ps.length ∧ i = .int .i64 k ∧ Below w.heap.size w wr ∧ Hid (∀ i (_ : i < k) (h : i < ps.length), prtOk ps[i] = true)) (fun i _ => ps.length - (intOf i).toNat)
  case atStart => exact ⟨0, by omega, rfl, Below.refl _ _, fun i hi => by omega⟩
  case round =>
    obtain ⟨k, hk, rfl, hbl, hno⟩ := hrel
    by_cases hlt : k < ps.length
    · have HW := HR.out.wins hlt
      obtain ⟨b, off, rfl, hbB, h1, h2⟩ := (HR.out.1.below (hbl.mono hB)).at2 rfl hlt rfl
      have HB := Lib.hid hbl
      have HWB : Hid (Rd eWin wr B ps[k].A ps[k].wins ∧ ps[k].wins.length ≤ 1073741824) := ⟨HW.1.below (hbl.mono hB), HW.2⟩
      have EP : Hid (prtOk ps[k] = (winsOk ps[k].wins && inB ps[k].cells 1 8)) := rfl
      clear hbl HW
      go_wp2_with fail
      refine (callSWindowsValid ps[k].A ps[k].c ps[k].wins _ B (Nat.le_trans hB HB.out.size) HWB.out.2 HWB.out.1).mono ?_
      rintro e w1 ⟨rfl, hb1⟩
      have g2 : w1.cell? ⟨b, off + k * 2 + 1, none⟩ = some (.int .i64 ps[k].cells) := (hb1.cell (by show b < wr.heap.size; have := HB.out.size; omega)).trans h2
      have HB1 := Lib.hid (HB.out.trans (hb1.mono HB.out.size))
      clear hb1 HB h1 h2 HWB
      cases hq1 : winsOk ps[k].wins
      · rw [hq1] at EP
        clear hq1
        go_wp2
        go_ret
        exact ⟨by rw [E.out, all_snoc_false hlt EP.out, Bool.and_false] <;> rfl, HB1.out⟩
      · cases hq2 : inB ps[k].cells 1 8
        · rw [hq1, hq2] at EP
          have HQ2 := Lib.hid hq2
          clear hq1 hq2
          go_wp2_with fail
          refine (callL1In _ _ _ _).mono ?_
          rintro e w' ⟨rfl, rfl⟩
          rw [HQ2.out]
          go_wp2
          go_ret
          exact ⟨by rw [E.out, all_snoc_false hlt EP.out, Bool.and_false] <;> rfl, HB1.out⟩
        · rw [hq1, hq2] at EP
          have HQ2 := Lib.hid hq2
          clear hq1 hq2
          go_wp2_with fail
          refine (callL1In _ _ _ _).mono ?_
          rintro e w' ⟨rfl, rfl⟩
          rw [HQ2.out]
          go_wp2
          go_roundw
          case rel => exact ⟨k + 1, by omega, by go_num, HB1.out, fun i hi h => by
            rcases Nat.lt_or_ge i k with h' | h'
            · exact hno i h' h
            · have : i = k := by omega
              subst this; exact EP.out⟩
          case measure => simp [intOf]; omega
    · have hke : k = ps.length := by omega
      subst hke
      go_wp2
      go_ret
      exact ⟨by rw [E.out, all_of_get fun i h => hno i h h, Bool.and_true] <;> rfl, hbl⟩

/-! ### reads -/


end Go.Proofs.Ytiodpnhokjkjaaa
