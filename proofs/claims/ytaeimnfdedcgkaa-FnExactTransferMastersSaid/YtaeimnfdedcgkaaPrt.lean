/- Partitions: PartsValid, reads, SharedPlaces, PartReach of the program and of the reference, for every input. -/
import Derived.Test.YtaeimnfdedcgkaaWin
import Derived.Test.YtaeimnfdedcgkaaLib
namespace Go.Proofs.Ytaeimnfdedcgkaa
open Go.RowKit Go.Sort

/-! ### Plain -/

def prtOk (p : Prt) : Bool := winsOk p.wins && inB p.cells 1 8
def prtsOk (ps : List Prt) : Bool := decide (ps.length ≤ 5) && ps.all prtOk
theorem prtsOk_len {ps : List Prt} (h : prtsOk ps = true) : ps.length ≤ 5 := by unfold prtsOk at h; rw [Bool.and_eq_true] at h; simpa using h.1
theorem prtsOk_mem {ps : List Prt} (h : prtsOk ps = true) {p : Prt} (hp : p ∈ ps) : prtOk p = true := by unfold prtsOk at h; rw [Bool.and_eq_true, List.all_eq_true] at h; exact h.2 p hp
theorem prtOk_wins {p : Prt} (h : prtOk p = true) : winsOk p.wins = true := by unfold prtOk at h; rw [Bool.and_eq_true] at h; exact h.1

/-- Partitions in memory: the row, and the windows of each. -/
def RdP (w : World) (B : Nat) (A : Option Addr) (ps : List Prt) : Prop := Rd ePrt w B A ps ∧ ∀ p, p ∈ ps → Rd eWin w B p.A p.wins ∧ p.wins.length ≤ 1048576
theorem RdP.below {w w' : World} {B : Nat} {A : Option Addr} {ps : List Prt} (h : RdP w B A ps) (hb : Below B w w') : RdP w' B A ps := ⟨h.1.below hb, fun p hp => ⟨(h.2 p hp).1.below hb, (h.2 p hp).2⟩⟩
theorem RdP.wins {w : World} {B : Nat} {A : Option Addr} {ps : List Prt} (h : RdP w B A ps) {k : Nat} (hk : k < ps.length) : Rd eWin w B ps[k].A ps[k].wins ∧ ps[k].wins.length ≤ 1073741824 := by
  obtain ⟨h1, h2⟩ := h.2 _ (List.getElem_mem hk)
  exact ⟨h1, by omega⟩

/-- How many of the numbers below n meet p. -/
def cnt (p : Nat → Bool) : Nat → Nat
  | 0 => 0
  | n + 1 => cnt p n + if p n then 1 else 0
theorem cnt_le (p : Nat → Bool) : ∀ n, cnt p n ≤ n
  | 0 => Nat.le_refl _
  | n + 1 => by unfold cnt; have := cnt_le p n; split <;> omega
theorem cnt_mono {p q : Nat → Bool} (h : ∀ i, p i = true → q i = true) : ∀ n, cnt p n ≤ cnt q n
  | 0 => Nat.le_refl _
  | n + 1 => by
    unfold cnt
    have := cnt_mono h n
    cases hp : p n
    · simp; omega
    · rw [h n hp]; simp; omega
theorem cnt_congr {p q : Nat → Bool} (h : ∀ i, p i = q i) (n : Nat) : cnt p n = cnt q n := by rw [funext h]

/-- A partition can read a place. -/
def rdsP (p : Prt) (place : Int) : Bool := p.wins.any (winHas place)
theorem winAt_reads {p : Prt} (h : winsOk p.wins = true) (place : Int) : decide (0 ≤ winAt p.wins place false) = rdsP p place := by
  unfold winAt rdsP
  rw [if_pos h, idx_any]
  congr 1
  funext x
  unfold winFits
  simp

def shared (ps : List Prt) (a b : Int) : Int :=
  if prtsOk ps && inB a 0 (ps.length - 1) && inB b 0 (ps.length - 1) then
    match ps[a.toNat]?, ps[b.toNat]? with
    | some p, some q => (cnt (fun i => rdsP p i && rdsP q i) 4096 : Nat)
    | _, _ => -1
  else -1

/-! ### PartsValid -/

set_option maxHeartbeats 800000 in
theorem callPrtBad (p : Prt) (w : World) (B : Nat) (hB : B ≤ w.heap.size) (hr : Rd eWin w B p.A p.wins) (hm : p.wins.length ≤ 1048576) :
    Calls Try.prog 78 #[p.val] w fun e w' => e = .returned (.bool (!prtOk p)) ∧ Below w.heap.size w w' := by
  have E : Hid ((!prtOk p) = (!winsOk p.wins || !inB p.cells 1 8)) := by show (!prtOk p) = _; unfold prtOk; rw [Bool.not_and]
  have c1 : (w.alloc (.cells #[.slice p.A p.wins.length p.c, .int .i64 p.cells] 37)).cell? ⟨w.heap.size, 1, none⟩ = some (.int .i64 p.cells) := by rw [World.cell?_alloc_new]; rfl
  have HC := Lib.hid c1
  clear c1
  go_enter Try.func78, Try.ntmps78
  go_wp2_with fail
  refine (callWindowsValid p.A p.c p.wins _ B (by simp; omega) (by omega) (hr.below ((below1 _ _).mono hB))).mono ?_
  rintro e w1 ⟨rfl, hb1⟩
  have c1 : w1.cell? ⟨w.heap.size, 1, none⟩ = some (.int .i64 p.cells) := (hb1.cell (by show w.heap.size < (w.alloc _).heap.size; simp)).trans HC.out
  have HB := Lib.hid (bel_trans (below1 _ _) hb1)
  clear hb1
  cases h1 : winsOk p.wins
  · rw [h1] at E
    clear h1
    go_wp2
    go_ret
    exact ⟨by rw [E.out] <;> rfl, HB.out⟩
  · rw [h1] at E
    clear h1
    go_wp2_with (go_at_call 56; refine (callIn _ _ _ _).mono ?_; rintro e w' ⟨rfl, rfl⟩)
    go_ret
    exact ⟨by rw [E.out]; simp, HB.out⟩

theorem egPrtBad : ∀ (args : Array Value) (w : World), (callFunc 78 args).run Try.prog w = .ok (.enter 78 args) w := enters_fn Try.func78 (by kernel_rfl) rfl

theorem callPartsValid (A : Option Addr) (c : Nat) (ps : List Prt) (w : World) (B : Nat) (hB : B ≤ w.heap.size) (hm : ps.length ≤ 1073741824) (hr : RdP w B A ps) :
    Calls Try.prog 55 #[.slice A ps.length c] w fun e w' => e = .returned (.bool (prtsOk ps)) ∧ Below w.heap.size w w' := by
  have HC := Lib.hid (callContainsPrt A c ps 78 #[] (fun x => !prtOk x) w B hB hm hr.1 egPrtBad (fun x hx w' hb => callPrtBad x w' B (Nat.le_trans hB hb.size) ((hr.2 x hx).1.below (hb.mono hB)) (hr.2 x hx).2))
  have E : Hid (prtsOk ps = (decide (ps.length ≤ 5) && !ps.any fun x => !prtOk x)) := by rw [not_any_not]; rfl
  generalize (ps.any fun x => !prtOk x) = q at *
  clear hr
  by_cases hl : ps.length ≤ 5
  all_goals
    go_enter Try.func55, Try.ntmps55
    go_wp2_with (go_at_call 77; refine HC.out.mono ?_; rintro e w1 ⟨rfl, hb1⟩)
    go_ret
    first | exact ⟨by rw [E.out]; simp [hl], hb1⟩ | exact ⟨by rw [E.out]; simp [hl], Below.refl _ _⟩

set_option maxHeartbeats 800000 in
theorem callSPartsValid (A : Option Addr) (c : Nat) (ps : List Prt) (w : World) (B : Nat) (hB : B ≤ w.heap.size) (hm : ps.length ≤ 1073741824) (hr : RdP w B A ps) :
    Calls Try.prog 37 #[.slice A ps.length c] w fun e w' => e = .returned (.bool (prtsOk ps)) ∧ Below w.heap.size w w' := by
  have E : Hid (prtsOk ps = (decide ((ps.length : Int) ≤ 5) && ps.all prtOk)) := by
    show prtsOk ps = _
    unfold prtsOk
    congr 1
    exact decide_eq_decide.2 (by omega)
  have HR := Lib.hid hr
  clear hr
  go_enter Try.func37, Try.ntmps37
  go_wp2
  go_loopw [3] (fun i wr => ∃ k : Nat, k ≤ ps.length ∧ i = .int .i64 k ∧ Below w.heap.size w wr ∧ Hid (∀ i (_ : i < k) (h : i < ps.length), prtOk ps[i] = true)) (fun i _ => ps.length - (intOf i).toNat)
  case atStart => exact ⟨0, by omega, rfl, Below.refl _ _, fun i hi => by omega⟩
  case round =>
    obtain ⟨k, hk, rfl, hbl, hno⟩ := hrel
    by_cases hlt : k < ps.length
    · have HW := HR.out.wins hlt
      obtain ⟨b, off, rfl, hbB, h1, h2⟩ := (HR.out.1.below (hbl.mono hB)).at2 rfl hlt rfl
      have HB := Lib.hid hbl
      have HWB : Hid (Rd eWin wr B ps[k].A ps[k].wins ∧ ps[k].wins.length ≤ 1073741824) := ⟨HW.1.below (hbl.mono hB), HW.2⟩
      have EP : Hid (prtOk ps[k] = (winsOk ps[k].wins && inB ps[k].cells 1 8)) := rfl
      clear hbl HW
      go_wp2_with fail
      refine (callSWindowsValid ps[k].A ps[k].c ps[k].wins _ B (Nat.le_trans hB HB.out.size) HWB.out.2 HWB.out.1).mono ?_
      rintro e w1 ⟨rfl, hb1⟩
      have g2 : w1.cell? ⟨b, off + k * 2 + 1, none⟩ = some (.int .i64 ps[k].cells) := (hb1.cell (by show b < wr.heap.size; have := HB.out.size; omega)).trans h2
      have HB1 := Lib.hid (HB.out.trans (hb1.mono HB.out.size))
      clear hb1 HB h1 h2 HWB
      cases hq1 : winsOk ps[k].wins
      · rw [hq1] at EP
        clear hq1
        go_wp2
        go_ret
        exact ⟨by rw [E.out, all_snoc_false hlt EP.out, Bool.and_false] <;> rfl, HB1.out⟩
      · cases hq2 : inB ps[k].cells 1 8
        · rw [hq1, hq2] at EP
          have HQ2 := Lib.hid hq2
          clear hq1 hq2
          go_wp2_with fail
          refine (callL1In _ _ _ _).mono ?_
          rintro e w' ⟨rfl, rfl⟩
          rw [HQ2.out]
          go_wp2
          go_ret
          exact ⟨by rw [E.out, all_snoc_false hlt EP.out, Bool.and_false] <;> rfl, HB1.out⟩
        · rw [hq1, hq2] at EP
          have HQ2 := Lib.hid hq2
          clear hq1 hq2
          go_wp2_with fail
          refine (callL1In _ _ _ _).mono ?_
          rintro e w' ⟨rfl, rfl⟩
          rw [HQ2.out]
          go_wp2
          go_roundw
          case rel => exact ⟨k + 1, by omega, by go_num, HB1.out, fun i hi h => by
            rcases Nat.lt_or_ge i k with h' | h'
            · exact hno i h' h
            · have : i = k := by omega
              subst this; exact EP.out⟩
          case measure => simp [intOf]; omega
    · have hke : k = ps.length := by omega
      subst hke
      go_wp2
      go_ret
      exact ⟨by rw [E.out, all_of_get fun i h => hno i h h, Bool.and_true] <;> rfl, hbl⟩

/-! ### reads -/

theorem egReads : ∀ (args : Array Value) (w : World), (callFunc 79 args).run Try.prog w = .ok (.enter 79 args) w := enters_fn Try.func79 (by kernel_rfl) rfl

theorem callReads1 (x : Win) (place : Int) (hx : winOk x = true) (b1 : Nat) (w : World) (h1 : w.cell? ⟨b1, 0, none⟩ = some (.int .i64 place)) (hb1 : b1 < w.heap.size) :
    Calls Try.prog 79 (#[x.val] ++ #[.pointer (some ⟨b1, 0, none⟩)]) w fun e w' => e = .returned (.bool (winHas place x)) ∧ Below w.heap.size w w' := by
  show Calls Try.prog 79 #[x.val, .pointer (some ⟨b1, 0, none⟩)] w _
  go_enter Try.func79, Try.ntmps79
  go_wp2_with fail
  refine (callWinHas x place hx _).mono ?_
  rintro e w1 ⟨rfl, hbl⟩
  go_wp2
  go_ret
  exact ⟨rfl, bel_trans (below1 _ _) hbl⟩

theorem callReads (p : Prt) (place : Int) (hp : winsOk p.wins = true) (w : World) (B : Nat) (hB : B ≤ w.heap.size) (hr : Rd eWin w B p.A p.wins) (hm : p.wins.length ≤ 1073741824) :
    Calls Try.prog 57 #[p.val, .int .i64 place] w fun e w' => e = .returned (.bool (rdsP p place)) ∧ Below w.heap.size w w' := by
  have hmf := run_makeFunc Try.prog
  have HC := Lib.hid (callContainsWin p.A p.c p.wins 79 #[.pointer (some ⟨w.heap.size + 1, 0, none⟩)] (winHas place) ((w.alloc (.cells #[.slice p.A p.wins.length p.c, .int .i64 p.cells] 37)).alloc (.cells #[.int .i64 place] 3)) B (by simp; omega) hm
    (hr.below ((below2 _ _ _).mono hB)) egReads (fun x hx w' hb => callReads1 x place (winsOk_mem hp hx) _ w' ((hb.cell (by show w.heap.size + 1 < _; simp)).trans (World.cell?_alloc_at _ _ _ _ (by simp))) (by have := hb.size; simp at this; omega)))
  clear hr
  go_enter Try.func57, Try.ntmps57
  go_wp2_with fail
  refine HC.out.mono ?_
  rintro e w1 ⟨rfl, hbl⟩
  go_wp2
  go_ret
  exact ⟨rfl, bel_trans (below2 _ _ _) hbl⟩

set_option maxRecDepth 100000 in
set_option maxHeartbeats 1600000 in
theorem callShared (A : Option Addr) (c : Nat) (ps : List Prt) (a b : Int) (w : World) (B : Nat) (hB : B ≤ w.heap.size) (hm : ps.length ≤ 1073741824) (hr : RdP w B A ps) :
    Calls Try.prog 21 #[.slice A ps.length c, .int .i64 a, .int .i64 b] w fun e w' => e = .returned (.int .i64 (shared ps a b)) ∧ Below w.heap.size w w' := by
  have E : Hid (shared ps a b = if prtsOk ps && inB a 0 (ps.length - 1) && inB b 0 (ps.length - 1) then (match ps[a.toNat]?, ps[b.toNat]? with | some p, some q => ((cnt (fun i => rdsP p i && rdsP q i) 4096 : Nat) : Int) | _, _ => -1) else -1) := rfl
  have HR := Lib.hid hr
  clear hr
  cases q1 : prtsOk ps
  · have HQ1 := Lib.hid q1
    clear q1
    go_enter Try.func21, Try.ntmps21
    go_wp2_with fail
    refine (callPartsValid A c ps _ B hB hm HR.out).mono ?_
    rintro e w1 ⟨rfl, hb1⟩
    rw [HQ1.out]
    go_wp2
    go_ret
    exact ⟨by rw [E.out, HQ1.out] <;> rfl, hb1⟩
  have HQ1 := Lib.hid q1
  clear q1
  cases q2 : inB a 0 (ps.length - 1)
  · have HQ2 := Lib.hid q2
    clear q2
    go_enter Try.func21, Try.ntmps21
    go_wp2_with fail
    refine (callPartsValid A c ps _ B hB hm HR.out).mono ?_
    rintro e w1 ⟨rfl, hb1⟩
    rw [HQ1.out]
    go_wp2_with fail
    refine (callIn _ _ _ _).mono ?_
    rintro e w' ⟨rfl, rfl⟩
    rw [HQ2.out]
    go_wp2
    go_ret
    exact ⟨by rw [E.out, HQ1.out, HQ2.out] <;> rfl, hb1⟩
  have HQ2 := Lib.hid q2
  clear q2
  cases q3 : inB b 0 (ps.length - 1)
  · have HQ3 := Lib.hid q3
    clear q3
    go_enter Try.func21, Try.ntmps21
    go_wp2_with fail
    refine (callPartsValid A c ps _ B hB hm HR.out).mono ?_
    rintro e w1 ⟨rfl, hb1⟩
    rw [HQ1.out]
    go_wp2_with fail
    refine (callIn _ _ _ _).mono ?_
    rintro e w' ⟨rfl, rfl⟩
    rw [HQ2.out]
    go_wp2_with fail
    refine (callIn _ _ _ _).mono ?_
    rintro e w' ⟨rfl, rfl⟩
    rw [HQ3.out]
    go_wp2
    go_ret
    exact ⟨by rw [E.out, HQ1.out, HQ2.out, HQ3.out] <;> rfl, hb1⟩
  have HQ3 := Lib.hid q3
  clear q3
  have ia := inB_iff.1 HQ2.out
  have ib := inB_iff.1 HQ3.out
  obtain ⟨ka, rfl⟩ := Int.eq_ofNat_of_zero_le ia.1
  obtain ⟨kb, rfl⟩ := Int.eq_ofNat_of_zero_le ib.1
  have hka : ka < ps.length := by omega
  have hkb : kb < ps.length := by omega
  clear ia ib
  have E2 : Hid (shared ps ka kb = (cnt (fun i => rdsP ps[ka] i && rdsP ps[kb] i) 4096 : Nat)) := by
    show shared ps ka kb = _
    rw [E.out, HQ1.out, HQ2.out, HQ3.out]
    simp only [Bool.and_self, if_true, Int.toNat_natCast, List.getElem?_eq_getElem hka, List.getElem?_eq_getElem hkb]
  have HVA := Lib.hid (prtOk_wins (prtsOk_mem HQ1.out (List.getElem_mem hka)))
  have HVB := Lib.hid (prtOk_wins (prtsOk_mem HQ1.out (List.getElem_mem hkb)))
  have HWA := Lib.hid (HR.out.wins hka)
  have HWB := Lib.hid (HR.out.wins hkb)
  go_enter Try.func21, Try.ntmps21
  go_wp2_with fail
  refine (callPartsValid A c ps _ B hB hm HR.out).mono ?_
  rintro e w1 ⟨rfl, hb1⟩
  rw [HQ1.out]
  go_wp2_with fail
  refine (callIn _ _ _ _).mono ?_
  rintro e w' ⟨rfl, rfl⟩
  rw [HQ2.out]
  go_wp2_with fail
  refine (callIn _ _ _ _).mono ?_
  rintro e w' ⟨rfl, rfl⟩
  rw [HQ3.out]
  have HB1 := Lib.hid hb1
  clear hb1
  go_wp2
  go_loopw [7, 28] (fun n i wr => ∃ k : Nat, k ≤ 4096 ∧ i = .int .i64 k ∧ n = .int .i64 (cnt (fun i => rdsP ps[ka] i && rdsP ps[kb] i) k : Nat) ∧ Below w.heap.size w wr) (fun _ i _ => 4096 - (intOf i).toNat)
  case atStart => exact ⟨0, by omega, rfl, rfl, HB1.out⟩
  case round =>
    obtain ⟨k, hk, rfl, rfl, hbl⟩ := hrel
    have hcl := cnt_le (fun i => rdsP ps[ka] i && rdsP ps[kb] i) k
    have EC : Hid (cnt (fun i => rdsP ps[ka] i && rdsP ps[kb] i) (k + 1) = cnt (fun i => rdsP ps[ka] i && rdsP ps[kb] i) k + if (rdsP ps[ka] k && rdsP ps[kb] k) then 1 else 0) := rfl
    have E3 : Hid (k = 4096 → shared ps ka kb = (cnt (fun i => rdsP ps[ka] i && rdsP ps[kb] i) k : Nat)) := fun h => by rw [h]; exact E2.out
    generalize cnt (fun i => rdsP ps[ka] i && rdsP ps[kb] i) k = m at *
    have HB := Lib.hid hbl
    clear hbl
    by_cases hlt : k < 4096
    · obtain ⟨ba, off, rfl, hbB, h1, h2⟩ := (HR.out.1.below (HB.out.mono hB)).at2 rfl hka rfl
      obtain ⟨ba', off', hA, _, h3, h4⟩ := (HR.out.1.below (HB.out.mono hB)).at2 rfl hkb rfl
      simp only [Option.some.injEq, Addr.mk.injEq, and_true] at hA
      obtain ⟨rfl, rfl⟩ := hA
      have hbw : ba < wr.heap.size := by have := HB.out.size; omega
      cases qa : rdsP ps[ka] k
      · have HQA := Lib.hid qa
        rw [qa] at EC
        clear qa
        go_wp2_with fail
        refine (callReads ps[ka] k HVA.out _ B (Nat.le_trans hB HB.out.size) (HWA.out.1.below (HB.out.mono hB)) HWA.out.2).mono ?_
        rintro e w2 ⟨rfl, hb2⟩
        rw [HQA.out]
        have HB2 := Lib.hid (bel_trans HB.out hb2)
        clear hb2 HB h1 h2 h3 h4
        go_wp2
        go_roundw
        case rel => exact ⟨k + 1, by omega, by go_num, by rw [EC.out] <;> rfl, HB2.out⟩
        case measure => simp [intOf]; omega
      · have HQA := Lib.hid qa
        cases qb : rdsP ps[kb] k
        all_goals
          have HQB := Lib.hid qb
          rw [qa, qb] at EC
          clear qa qb
          go_wp2_with fail
          refine (callReads ps[ka] k HVA.out _ B (Nat.le_trans hB HB.out.size) (HWA.out.1.below (HB.out.mono hB)) HWA.out.2).mono ?_
          rintro e w2 ⟨rfl, hb2⟩
          rw [HQA.out]
          have HB2 := Lib.hid (bel_trans HB.out hb2)
          have g3 : w2.cell? ⟨ba, off + kb * 2, none⟩ = some (.slice ps[kb].A ps[kb].wins.length ps[kb].c) := (hb2.cell hbw).trans h3
          have g4 : w2.cell? ⟨ba, off + kb * 2 + 1, none⟩ = some (.int .i64 ps[kb].cells) := (hb2.cell hbw).trans h4
          clear hb2 HB h1 h2 h3 h4
          go_wp2_with fail
          refine (callReads ps[kb] k HVB.out _ B (Nat.le_trans hB HB2.out.size) (HWB.out.1.below (HB2.out.mono hB)) HWB.out.2).mono ?_
          rintro e w3 ⟨rfl, hb3⟩
          rw [HQB.out]
          have HB3 := Lib.hid (bel_trans HB2.out hb3)
          clear hb3 HB2 g3 g4
          go_wp2
          go_roundw
          case rel => exact ⟨k + 1, by omega, by go_num, by rw [EC.out] <;> rfl, HB3.out⟩
          case measure => simp [intOf]; omega
    · have hke : k = 4096 := by omega
      have E4 := Lib.hid (E3.out hke)
      subst hke
      go_wp2
      go_ret
      exact ⟨by rw [E4.out] <;> rfl, HB.out⟩

theorem callReach (A : Option Addr) (c : Nat) (ps : List Prt) (a : Int) (w : World) (B : Nat) (hB : B ≤ w.heap.size) (hm : ps.length ≤ 1073741824) (hr : RdP w B A ps) :
    Calls Try.prog 18 #[.slice A ps.length c, .int .i64 a] w fun e w' => e = .returned (.int .i64 (shared ps a a)) ∧ Below w.heap.size w w' := by
  go_enter Try.func18, Try.ntmps18
  go_wp2_with fail
  refine (callShared A c ps a a _ B hB hm hr).mono ?_
  rintro e w1 ⟨rfl, hb1⟩
  go_wp2
  go_ret
  exact ⟨rfl, hb1⟩

set_option maxRecDepth 100000 in
set_option maxHeartbeats 1600000 in
theorem callSShared (A : Option Addr) (c : Nat) (ps : List Prt) (a b : Int) (w : World) (B : Nat) (hB : B ≤ w.heap.size) (hm : ps.length ≤ 1073741824) (hr : RdP w B A ps) :
    Calls Try.prog 22 #[.slice A ps.length c, .int .i64 a, .int .i64 b] w fun e w' => e = .returned (.int .i64 (shared ps a b)) ∧ Below w.heap.size w w' := by
  have E : Hid (shared ps a b = if prtsOk ps && inB a 0 (ps.length - 1) && inB b 0 (ps.length - 1) then (match ps[a.toNat]?, ps[b.toNat]? with | some p, some q => ((cnt (fun i => rdsP p i && rdsP q i) 4096 : Nat) : Int) | _, _ => -1) else -1) := rfl
  have HR := Lib.hid hr
  clear hr
  cases q1 : prtsOk ps
  · have HQ1 := Lib.hid q1
    clear q1
    go_enter Try.func22, Try.ntmps22
    go_wp2_with fail
    refine (callSPartsValid A c ps _ B hB hm HR.out).mono ?_
    rintro e w1 ⟨rfl, hb1⟩
    rw [HQ1.out]
    go_wp2
    go_ret
    exact ⟨by rw [E.out, HQ1.out] <;> rfl, hb1⟩
  have HQ1 := Lib.hid q1
  clear q1
  cases q2 : inB a 0 (ps.length - 1)
  · have HQ2 := Lib.hid q2
    clear q2
    go_enter Try.func22, Try.ntmps22
    go_wp2_with fail
    refine (callSPartsValid A c ps _ B hB hm HR.out).mono ?_
    rintro e w1 ⟨rfl, hb1⟩
    rw [HQ1.out]
    go_wp2_with fail
    refine (callL1In _ _ _ _).mono ?_
    rintro e w' ⟨rfl, rfl⟩
    rw [HQ2.out]
    go_wp2
    go_ret
    exact ⟨by rw [E.out, HQ1.out, HQ2.out] <;> rfl, hb1⟩
  have HQ2 := Lib.hid q2
  clear q2
  cases q3 : inB b 0 (ps.length - 1)
  · have HQ3 := Lib.hid q3
    clear q3
    go_enter Try.func22, Try.ntmps22
    go_wp2_with fail
    refine (callSPartsValid A c ps _ B hB hm HR.out).mono ?_
    rintro e w1 ⟨rfl, hb1⟩
    rw [HQ1.out]
    go_wp2_with fail
    refine (callL1In _ _ _ _).mono ?_
    rintro e w' ⟨rfl, rfl⟩
    rw [HQ2.out]
    go_wp2_with fail
    refine (callL1In _ _ _ _).mono ?_
    rintro e w' ⟨rfl, rfl⟩
    rw [HQ3.out]
    go_wp2
    go_ret
    exact ⟨by rw [E.out, HQ1.out, HQ2.out, HQ3.out] <;> rfl, hb1⟩
  have HQ3 := Lib.hid q3
  clear q3
  have ia := inB_iff.1 HQ2.out
  have ib := inB_iff.1 HQ3.out
  obtain ⟨ka, rfl⟩ := Int.eq_ofNat_of_zero_le ia.1
  obtain ⟨kb, rfl⟩ := Int.eq_ofNat_of_zero_le ib.1
  have hka : ka < ps.length := by omega
  have hkb : kb < ps.length := by omega
  clear ia ib
  have E2 : Hid (shared ps ka kb = (cnt (fun i => rdsP ps[ka] i && rdsP ps[kb] i) 4096 : Nat)) := by
    show shared ps ka kb = _
    rw [E.out, HQ1.out, HQ2.out, HQ3.out]
    simp only [Bool.and_self, if_true, Int.toNat_natCast, List.getElem?_eq_getElem hka, List.getElem?_eq_getElem hkb]
  have HVA := Lib.hid (prtOk_wins (prtsOk_mem HQ1.out (List.getElem_mem hka)))
  have HVB := Lib.hid (prtOk_wins (prtsOk_mem HQ1.out (List.getElem_mem hkb)))
  have HWA := Lib.hid (HR.out.wins hka)
  have HWB := Lib.hid (HR.out.wins hkb)
  go_enter Try.func22, Try.ntmps22
  go_wp2_with fail
  refine (callSPartsValid A c ps _ B hB hm HR.out).mono ?_
  rintro e w1 ⟨rfl, hb1⟩
  rw [HQ1.out]
  go_wp2_with fail
  refine (callL1In _ _ _ _).mono ?_
  rintro e w' ⟨rfl, rfl⟩
  rw [HQ2.out]
  go_wp2_with fail
  refine (callL1In _ _ _ _).mono ?_
  rintro e w' ⟨rfl, rfl⟩
  rw [HQ3.out]
  have HB1 := Lib.hid hb1
  clear hb1
  go_wp2
  go_loopw [7, 8] (fun n i wr => ∃ k : Nat, k ≤ 4096 ∧ i = .int .i64 k ∧ n = .int .i64 (cnt (fun i => rdsP ps[ka] i && rdsP ps[kb] i) k : Nat) ∧ Below w.heap.size w wr) (fun _ i _ => 4096 - (intOf i).toNat)
  case atStart => exact ⟨0, by omega, rfl, rfl, HB1.out⟩
  case round =>
    obtain ⟨k, hk, rfl, rfl, hbl⟩ := hrel
    have hcl := cnt_le (fun i => rdsP ps[ka] i && rdsP ps[kb] i) k
    have EC : Hid (cnt (fun i => rdsP ps[ka] i && rdsP ps[kb] i) (k + 1) = cnt (fun i => rdsP ps[ka] i && rdsP ps[kb] i) k + if (rdsP ps[ka] k && rdsP ps[kb] k) then 1 else 0) := rfl
    have E3 : Hid (k = 4096 → shared ps ka kb = (cnt (fun i => rdsP ps[ka] i && rdsP ps[kb] i) k : Nat)) := fun h => by rw [h]; exact E2.out
    generalize cnt (fun i => rdsP ps[ka] i && rdsP ps[kb] i) k = m at *
    have HB := Lib.hid hbl
    clear hbl
    by_cases hlt : k < 4096
    · obtain ⟨ba, off, rfl, hbB, h1, h2⟩ := (HR.out.1.below (HB.out.mono hB)).at2 rfl hka rfl
      obtain ⟨ba', off', hA, _, h3, h4⟩ := (HR.out.1.below (HB.out.mono hB)).at2 rfl hkb rfl
      simp only [Option.some.injEq, Addr.mk.injEq, and_true] at hA
      obtain ⟨rfl, rfl⟩ := hA
      have hbw : ba < wr.heap.size := by have := HB.out.size; omega
      have HXA := Lib.hid (winAt_reads HVA.out (k : Int))
      have HXB := Lib.hid (winAt_reads HVB.out (k : Int))
      go_wp2_with fail
      refine (callSWindowAt ps[ka].A ps[ka].c ps[ka].wins k false _ B (Nat.le_trans hB HB.out.size) HWA.out.2 (HWA.out.1.below (HB.out.mono hB))).mono ?_
      rintro e w2 ⟨rfl, hb2⟩
      have HB2 := Lib.hid (bel_trans HB.out hb2)
      have g3 : w2.cell? ⟨ba, off + kb * 2, none⟩ = some (.slice ps[kb].A ps[kb].wins.length ps[kb].c) := (hb2.cell hbw).trans h3
      clear hb2 HB h1 h2 h3 h4
      generalize winAt ps[ka].wins k false = u at *
      by_cases hu : 0 ≤ u
      · have hud : decide (0 ≤ u) = true := by simpa using hu
        have HUD := Lib.hid hud
        clear hud
        go_wp2_with fail
        refine (callSWindowAt ps[kb].A ps[kb].c ps[kb].wins k false _ B (Nat.le_trans hB HB2.out.size) HWB.out.2 (HWB.out.1.below (HB2.out.mono hB))).mono ?_
        rintro e w3 ⟨rfl, hb3⟩
        have HB3 := Lib.hid (bel_trans HB2.out hb3)
        clear hb3 HB2 g3
        generalize winAt ps[kb].wins k false = v at *
        by_cases hv : 0 ≤ v
        · have hvd : decide (0 ≤ v) = true := by simpa using hv
          have HVD := Lib.hid hvd
          clear hvd
          go_wp2
          go_roundw
          case rel => exact ⟨k + 1, by omega, by go_num, by rw [EC.out, ← HXA.out, ← HXB.out, HUD.out, HVD.out] <;> rfl, HB3.out⟩
          case measure => simp [intOf]; omega
        · have hvd : decide (0 ≤ v) = false := by simpa using hv
          have HVD := Lib.hid hvd
          clear hvd
          go_wp2
          go_roundw
          case rel => exact ⟨k + 1, by omega, by go_num, by rw [EC.out, ← HXA.out, ← HXB.out, HUD.out, HVD.out] <;> rfl, HB3.out⟩
          case measure => simp [intOf]; omega
      · have hud : decide (0 ≤ u) = false := by simpa using hu
        have HUD := Lib.hid hud
        clear hud
        go_wp2
        go_roundw
        case rel => exact ⟨k + 1, by omega, by go_num, by rw [EC.out, ← HXA.out, HUD.out] <;> rfl, HB2.out⟩
        case measure => simp [intOf]; omega
    · have hke : k = 4096 := by omega
      have E4 := Lib.hid (E3.out hke)
      subst hke
      go_wp2
      go_ret
      exact ⟨by rw [E4.out] <;> rfl, HB.out⟩

set_option maxRecDepth 100000 in
set_option maxHeartbeats 1600000 in
theorem callSReach (A : Option Addr) (c : Nat) (ps : List Prt) (a : Int) (w : World) (B : Nat) (hB : B ≤ w.heap.size) (hm : ps.length ≤ 1073741824) (hr : RdP w B A ps) :
    Calls Try.prog 19 #[.slice A ps.length c, .int .i64 a] w fun e w' => e = .returned (.int .i64 (shared ps a a)) ∧ Below w.heap.size w w' := by
  have E : Hid (shared ps a a = if prtsOk ps && inB a 0 (ps.length - 1) && inB a 0 (ps.length - 1) then (match ps[a.toNat]?, ps[a.toNat]? with | some p, some q => ((cnt (fun i => rdsP p i && rdsP q i) 4096 : Nat) : Int) | _, _ => -1) else -1) := rfl
  have HR := Lib.hid hr
  clear hr
  cases q1 : prtsOk ps
  · have HQ1 := Lib.hid q1
    clear q1
    go_enter Try.func19, Try.ntmps19
    go_wp2_with fail
    refine (callSPartsValid A c ps _ B hB hm HR.out).mono ?_
    rintro e w1 ⟨rfl, hb1⟩
    rw [HQ1.out]
    go_wp2
    go_ret
    exact ⟨by rw [E.out, HQ1.out] <;> rfl, hb1⟩
  have HQ1 := Lib.hid q1
  clear q1
  cases q2 : inB a 0 (ps.length - 1)
  · have HQ2 := Lib.hid q2
    clear q2
    go_enter Try.func19, Try.ntmps19
    go_wp2_with fail
    refine (callSPartsValid A c ps _ B hB hm HR.out).mono ?_
    rintro e w1 ⟨rfl, hb1⟩
    rw [HQ1.out]
    go_wp2_with fail
    refine (callL1In _ _ _ _).mono ?_
    rintro e w' ⟨rfl, rfl⟩
    rw [HQ2.out]
    go_wp2
    go_ret
    exact ⟨by rw [E.out, HQ1.out, HQ2.out] <;> rfl, hb1⟩
  have HQ2 := Lib.hid q2
  clear q2
  have ia := inB_iff.1 HQ2.out
  obtain ⟨ka, rfl⟩ := Int.eq_ofNat_of_zero_le ia.1
  have hka : ka < ps.length := by omega
  clear ia
  have E2 : Hid (shared ps ka ka = (cnt (fun i => rdsP ps[ka] i) 4096 : Nat)) := by
    show shared ps ka ka = _
    rw [E.out, HQ1.out, HQ2.out]
    simp only [Bool.and_self, if_true, Int.toNat_natCast, List.getElem?_eq_getElem hka]
  have HVA := Lib.hid (prtOk_wins (prtsOk_mem HQ1.out (List.getElem_mem hka)))
  have HWA := Lib.hid (HR.out.wins hka)
  go_enter Try.func19, Try.ntmps19
  go_wp2_with fail
  refine (callSPartsValid A c ps _ B hB hm HR.out).mono ?_
  rintro e w1 ⟨rfl, hb1⟩
  rw [HQ1.out]
  go_wp2_with fail
  refine (callL1In _ _ _ _).mono ?_
  rintro e w' ⟨rfl, rfl⟩
  rw [HQ2.out]
  have HB1 := Lib.hid hb1
  clear hb1
  go_wp2
  go_loopw [5, 6] (fun n i wr => ∃ k : Nat, k ≤ 4096 ∧ i = .int .i64 k ∧ n = .int .i64 (cnt (fun i => rdsP ps[ka] i) k : Nat) ∧ Below w.heap.size w wr) (fun _ i _ => 4096 - (intOf i).toNat)
  case atStart => exact ⟨0, by omega, rfl, rfl, HB1.out⟩
  case round =>
    obtain ⟨k, hk, rfl, rfl, hbl⟩ := hrel
    have hcl := cnt_le (fun i => rdsP ps[ka] i) k
    have EC : Hid (cnt (fun i => rdsP ps[ka] i) (k + 1) = cnt (fun i => rdsP ps[ka] i) k + if rdsP ps[ka] k then 1 else 0) := rfl
    have E3 : Hid (k = 4096 → shared ps ka ka = (cnt (fun i => rdsP ps[ka] i) k : Nat)) := fun h => by rw [h]; exact E2.out
    generalize cnt (fun i => rdsP ps[ka] i) k = m at *
    have HB := Lib.hid hbl
    clear hbl
    by_cases hlt : k < 4096
    · obtain ⟨ba, off, rfl, hbB, h1, h2⟩ := (HR.out.1.below (HB.out.mono hB)).at2 rfl hka rfl
      have HXA := Lib.hid (winAt_reads HVA.out (k : Int))
      go_wp2_with fail
      refine (callSWindowAt ps[ka].A ps[ka].c ps[ka].wins k false _ B (Nat.le_trans hB HB.out.size) HWA.out.2 (HWA.out.1.below (HB.out.mono hB))).mono ?_
      rintro e w2 ⟨rfl, hb2⟩
      have HB2 := Lib.hid (bel_trans HB.out hb2)
      clear hb2 HB h1 h2
      generalize winAt ps[ka].wins k false = u at *
      by_cases hu : 0 ≤ u
      · have hud : decide (0 ≤ u) = true := by simpa using hu
        have HUD := Lib.hid hud
        clear hud
        go_wp2
        go_roundw
        case rel => exact ⟨k + 1, by omega, by go_num, by rw [EC.out, ← HXA.out, HUD.out] <;> rfl, HB2.out⟩
        case measure => simp [intOf]; omega
      · have hud : decide (0 ≤ u) = false := by simpa using hu
        have HUD := Lib.hid hud
        clear hud
        go_wp2
        go_roundw
        case rel => exact ⟨k + 1, by omega, by go_num, by rw [EC.out, ← HXA.out, HUD.out] <;> rfl, HB2.out⟩
        case measure => simp [intOf]; omega
    · have hke : k = 4096 := by omega
      have E4 := Lib.hid (E3.out hke)
      subst hke
      go_wp2
      go_ret
      exact ⟨by rw [E4.out] <;> rfl, HB.out⟩
end Go.Proofs.Ytaeimnfdedcgkaa
