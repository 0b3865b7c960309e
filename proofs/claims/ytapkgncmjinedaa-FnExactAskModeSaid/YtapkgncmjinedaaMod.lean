/- Modes (lists of frames): plain words, and ModesValid of the program and of the reference, for every input. -/
import Derived.Test.YtapkgncmjinedaaSlt
import Derived.Test.YtapkgncmjinedaaSls
import Derived.Test.YtapkgncmjinedaaBox
import Derived.Test.YtapkgncmjinedaaIdx
namespace Go.Proofs.Ytapkgncmjinedaa
open Go.RowKit Go.Sort

def tabsOk (ts : List Tab) (parts : Int) : Bool := ts.all fun t => sltsOk t.slots parts
def modOk (ts : List Tab) (now next parts : Int) : Bool := ((inB ts.length 1 4 && inB now 0 (ts.length - 1)) && inB next (-1) (ts.length - 1)) && tabsOk ts parts
/-- Frames in memory: the row, and the slots of each. -/
def RdT (w : World) (B : Nat) (A : Option Addr) (ts : List Tab) : Prop := Rd eTab w B A ts ∧ ∀ t, t ∈ ts → Rd eSlt w B t.A t.slots ∧ t.slots.length ≤ 1048576
theorem RdT.below {w w' : World} {B : Nat} {A : Option Addr} {ts : List Tab} (h : RdT w B A ts) (hb : Below B w w') : RdT w' B A ts := ⟨h.1.below hb, fun p hp => ⟨(h.2 p hp).1.below hb, (h.2 p hp).2⟩⟩
theorem RdT.next {w w' : World} {A : Option Addr} {ts : List Tab} (h : RdT w w.heap.size A ts) (hb : Below w.heap.size w w') : RdT w' w'.heap.size A ts := ⟨h.1.next hb, fun p hp => ⟨(h.2 p hp).1.next hb, (h.2 p hp).2⟩⟩
theorem RdT.slots {w : World} {B : Nat} {A : Option Addr} {ts : List Tab} (h : RdT w B A ts) {k : Nat} (hk : k < ts.length) : Rd eSlt w B ts[k].A ts[k].slots ∧ ts[k].slots.length ≤ 1048576 := h.2 _ (List.getElem_mem hk)

theorem callTabBad (x : Tab) (parts : Int) (hp1 : -10 ≤ parts) (hp2 : parts ≤ 10) (b1 : Nat) (w : World) (B : Nat) (hB : B ≤ w.heap.size) (h1 : w.cell? ⟨b1, 0, none⟩ = some (.int .i64 parts)) (hr : Rd eSlt w B x.A x.slots) (hm : x.slots.length ≤ 1048576) :
    Calls Try.prog 77 (#[x.val] ++ #[.pointer (some ⟨b1, 0, none⟩)]) w fun e w' => e = .returned (.bool (!sltsOk x.slots parts)) ∧ Below w.heap.size w w' := by
  show Calls Try.prog 77 #[.slice x.A x.slots.length x.c, .pointer (some ⟨b1, 0, none⟩)] w _
  have HC := Lib.hid (callSlotsValid x.A x.c x.slots parts w B hB hm hp1 hp2 hr)
  go_enter Try.func77, Try.ntmps77
  go_wp2_with fail
  refine HC.out.mono ?_
  rintro e w1 ⟨rfl, hb1⟩
  go_wp2
  go_ret
  exact ⟨rfl, hb1⟩

theorem egTabBad : ∀ (args : Array Value) (w : World), (callFunc 77 args).run Try.prog w = .ok (.enter 77 args) w := enters_fn Try.func77 (by kernel_rfl) rfl

theorem tabs_any (ts : List Tab) (parts : Int) : tabsOk ts parts = !ts.any fun x => !sltsOk x.slots parts := by
  unfold tabsOk
  rw [not_any_not]

set_option maxRecDepth 100000 in
set_option maxHeartbeats 1600000 in
theorem callModesValid (A : Option Addr) (c : Nat) (ts : List Tab) (now next parts : Int) (w : World) (B : Nat) (hB : B ≤ w.heap.size) (hm : ts.length ≤ 1048576) (hp1 : -10 ≤ parts) (hp2 : parts ≤ 10) (hr : RdT w B A ts) :
    Calls Try.prog 39 #[.agg #[.slice A ts.length c, .int .i64 now, .int .i64 next], .int .i64 parts] w fun e w' => e = .returned (.bool (modOk ts now next parts)) ∧ Below w.heap.size w w' := by
  have hmf := run_makeFunc Try.prog
  have E : Hid (modOk ts now next parts = (((inB ts.length 1 4 && inB now 0 (ts.length - 1)) && inB next (-1) (ts.length - 1)) && !ts.any fun x => !sltsOk x.slots parts)) := by
    show modOk ts now next parts = _
    rw [← tabs_any]; rfl
  have K0 := Lib.hid (alloc_at0 w (.cells #[.slice A ts.length c, .int .i64 now, .int .i64 next] 25) (.cells #[.int .i64 parts] 3))
  have K1 := alloc_at1 w (.cells #[.slice A ts.length c, .int .i64 now, .int .i64 next] 25) (.cells #[.int .i64 parts] 3)
  have HB := Lib.hid (below2 w (.cells #[.slice A ts.length c, .int .i64 now, .int .i64 next] 25) (.cells #[.int .i64 parts] 3))
  have hz : w.heap.size + 1 < ((w.alloc (.cells #[.slice A ts.length c, .int .i64 now, .int .i64 next] 25)).alloc (.cells #[.int .i64 parts] 3)).heap.size := by simp
  have HC := Lib.hid (callContainsTab A c ts 77 #[.pointer (some ⟨w.heap.size + 1, 0, none⟩)] (fun x => !sltsOk x.slots parts) ((w.alloc (.cells #[.slice A ts.length c, .int .i64 now, .int .i64 next] 25)).alloc (.cells #[.int .i64 parts] 3)) B (by omega) (by omega) (hr.1.below (HB.out.mono hB)) egTabBad
    (fun x hx w' hb => callTabBad x parts hp1 hp2 (w.heap.size + 1) w' B (by have := hb.size; omega) ((hb.cell (p := ⟨w.heap.size + 1, 0, none⟩) (by show w.heap.size + 1 < _; exact hz)).trans (by rw [cell_of_row _ _ 0 _ _ _ K1]; rfl)) ((hr.2 x hx).1.below ((HB.out.mono hB).trans (hb.mono (by omega)))) (hr.2 x hx).2))
  have hwl : IntKind.i64.wrap ((ts.length : Int) - 1) = (ts.length : Int) - 1 := IntWalk.i64_in _ (by omega)
  clear hr K1 hz
  generalize (ts.any fun x => !sltsOk x.slots parts) = q at *
  obtain ⟨x0, x1, x2, _, _, _, x6⟩ := cell3 K0.out
  cases q1 : inB (ts.length : Int) 1 4
  · rw [q1] at E
    go_enter Try.func39, Try.ntmps39
    go_wp2_with (go_at_call 62; refine (callIn _ _ _ _).mono ?_; rintro e w' ⟨rfl, rfl⟩)
    go_ret
    exact ⟨by rw [E.out]; simp, HB.out⟩
  · cases q2 : inB now 0 ((ts.length : Int) - 1)
    · rw [q1, q2] at E
      go_enter Try.func39, Try.ntmps39
      go_wp2_with (go_at_call 62; refine (callIn _ _ _ _).mono ?_; rintro e w' ⟨rfl, rfl⟩)
      go_ret
      exact ⟨by rw [E.out]; simp, HB.out⟩
    · cases q3 : inB next (-1) ((ts.length : Int) - 1)
      · rw [q1, q2, q3] at E
        go_enter Try.func39, Try.ntmps39
        go_wp2_with (go_at_call 62; refine (callIn _ _ _ _).mono ?_; rintro e w' ⟨rfl, rfl⟩)
        go_ret
        exact ⟨by rw [E.out]; simp, HB.out⟩
      · rw [q1, q2, q3] at E
        go_enter Try.func39, Try.ntmps39
        go_wp2_with (first | (go_at_call 62; refine (callIn _ _ _ _).mono ?_; rintro e w' ⟨rfl, rfl⟩) | (go_at_call 76; refine HC.out.mono ?_; rintro e w1 ⟨rfl, hb1⟩))
        go_ret
        exact ⟨by rw [E.out]; simp, bel_trans HB.out hb1⟩
set_option maxRecDepth 100000 in
set_option maxHeartbeats 1600000 in
theorem callSModesValid (A : Option Addr) (c : Nat) (ts : List Tab) (now next parts : Int) (w : World) (B : Nat) (hB : B ≤ w.heap.size) (hm : ts.length ≤ 1048576) (hp1 : -10 ≤ parts) (hp2 : parts ≤ 10) (hr : RdT w B A ts) :
    Calls Try.prog 40 #[.agg #[.slice A ts.length c, .int .i64 now, .int .i64 next], .int .i64 parts] w fun e w' => e = .returned (.bool (modOk ts now next parts)) ∧ Below w.heap.size w w' := by
  have E : Hid (modOk ts now next parts = (((inB ts.length 1 4 && inB now 0 (ts.length - 1)) && inB next (-1) (ts.length - 1)) && ts.all fun t => sltsOk t.slots parts)) := rfl
  have K0 := Lib.hid (heap_alloc_new w (.cells #[.slice A ts.length c, .int .i64 now, .int .i64 next] 25))
  have HB0 := Lib.hid (below1 w (.cells #[.slice A ts.length c, .int .i64 now, .int .i64 next] 25))
  have HR := Lib.hid hr
  have hwl : IntKind.i64.wrap ((ts.length : Int) - 1) = (ts.length : Int) - 1 := IntWalk.i64_in _ (by omega)
  clear hr
  go_enter Try.func40, Try.ntmps40
  go_wp2
  go_loopw [5] (fun i wr => ∃ k : Nat, k ≤ ts.length ∧ i = .int .i64 k ∧ Below w.heap.size w wr ∧ Hid (wr.heap[w.heap.size]? = some (.cells #[.slice A ts.length c, .int .i64 now, .int .i64 next] 25 (0, 0))) ∧ Hid (∀ i (_ : i < k) (h : i < ts.length), sltsOk ts[i].slots parts = true)) (fun i _ => ts.length - (intOf i).toNat)
  case atStart => exact ⟨0, by omega, rfl, HB0.out, K0.out, fun i hi => by omega⟩
  case round =>
    clear K0 HB0
    obtain ⟨k, hk, rfl, hbl, KR, hno⟩ := hrel
    obtain ⟨x0, x1, x2, _, _, _, x6⟩ := cell3 KR.out
    by_cases hlt : k < ts.length
    · have hd : decide ((k : Int) < ts.length) = true := decide_eq_true (by omega)
      obtain ⟨b, off, rfl, hbB, h1⟩ := (HR.out.1.below (hbl.mono hB)).at1 rfl hlt rfl
      have HW := HR.out.slots hlt
      have HB := Lib.hid hbl
      have HV := Lib.hid (callSSlotsValid ts[k].A ts[k].c ts[k].slots parts wr B (Nat.le_trans hB HB.out.size) HW.2 hp1 hp2 (HW.1.below (HB.out.mono hB)))
      clear hbl HW
      go_wp2_with fail
      refine HV.out.mono ?_
      rintro e w1 ⟨rfl, hb1⟩
      have HB1 := Lib.hid (HB.out.trans (hb1.mono HB.out.size))
      have KR1 := Lib.hid (blkc KR.out hb1)
      clear hb1 HB KR x0 x1 x2 x6 HV
      cases hq : sltsOk ts[k].slots parts
      · go_wp2
        go_ret
        exact ⟨by rw [E.out, all_snoc_false hlt hq, Bool.and_false] <;> rfl, HB1.out⟩
      · have HQ := Lib.hid hq
        clear hq
        go_wp2
        go_roundw
        case rel => exact ⟨k + 1, by omega, by go_num, HB1.out, KR1.out, fun i hi h => by
          rcases Nat.lt_or_ge i k with h' | h'
          · exact hno.out i h' h
          · have : i = k := by omega
            subst this; exact HQ.out⟩
        case measure => simp [intOf]; omega
    · have hke : k = ts.length := by omega
      subst hke
      have HALL : Hid ((ts.all fun t => sltsOk t.slots parts) = true) := all_of_get fun i h => hno.out i h h
      have HB := Lib.hid hbl
      clear hbl hno hlt
      cases q1 : inB (ts.length : Int) 1 4
      · rw [q1] at E
        go_wp2_with (go_at_call 67; refine (callL1In _ _ _ _).mono ?_; rintro e w' ⟨rfl, rfl⟩)
        go_ret
        exact ⟨by rw [E.out]; simp, HB.out⟩
      · cases q2 : inB now 0 ((ts.length : Int) - 1)
        · rw [q1, q2] at E
          go_wp2_with (go_at_call 67; refine (callL1In _ _ _ _).mono ?_; rintro e w' ⟨rfl, rfl⟩)
          go_ret
          exact ⟨by rw [E.out]; simp, HB.out⟩
        · cases q3 : inB next (-1) ((ts.length : Int) - 1)
          · rw [q1, q2, q3] at E
            go_wp2_with (go_at_call 67; refine (callL1In _ _ _ _).mono ?_; rintro e w' ⟨rfl, rfl⟩)
            go_ret
            exact ⟨by rw [E.out]; simp, HB.out⟩
          · rw [q1, q2, q3] at E
            go_wp2_with (go_at_call 67; refine (callL1In _ _ _ _).mono ?_; rintro e w' ⟨rfl, rfl⟩)
            go_ret
            exact ⟨by rw [E.out, HALL.out]; simp, HB.out⟩
end Go.Proofs.Ytapkgncmjinedaa
