/- Cores of the program: what is valid, copies and runs, for every input. -/
import Derived.Test.YtiodpnhokjkjaaaCoj
namespace Go.Proofs.Ytiodpnhokjkjaaa
open Go.RowKit Go.Sort

/-- A run as the functions tell it. -/
def runCore (cr : Cor) (os : List Ord3) (cells steps : Int) : Cor := if coreB cr os cells && inB steps 0 200 then corRun cr os steps.toNat else ⟨[], 0, false⟩
theorem coreB_split (cr : Cor) (os : List Ord3) (cells : Int) : coreB cr os cells = (progB os cells && ((decide ((cr.cs.length : Int) = cells) && inB cr.at' 0 (os.length - 1)) && cr.cs.all valB)) := rfl
theorem corRun_len {c : Cor} {os : List Ord3} {cells : Int} (h : coreB c os cells = true) (n : Nat) : (corRun c os n).cs.length = c.cs.length := by
  have a := (coreB_iff.1 (corRun_ok h n)).2.1
  have b := (coreB_iff.1 h).2.1
  omega
/-- What a call leaves: a core of the call's own. -/
def CorRes (w : World) (r : Cor) (e : Ending) (w' : World) : Prop :=
  ∃ A c, e = .returned (.agg #[.slice A r.cs.length c, .int .i64 r.at', .bool r.stop]) ∧ Own eInt 3 w' w.heap.size (.slice A r.cs.length c) r.cs ∧ r.cs.length ≤ c ∧ Below w.heap.size w w'

theorem callIsVal (n : Int) (w : World) : Calls Try.prog 90 #[.int .i64 n] w fun e w' => e = .returned (.bool (valB n)) ∧ w = w' := by
  go_enter Try.func90, Try.ntmps90
  go_wp2_with (go_at_call 49; refine (callIn _ _ _ _).mono ?_; rintro e w' ⟨rfl, rfl⟩)
  go_ret
  exact ⟨rfl, rfl⟩

theorem callFitBad (n : Int) (w : World) : Calls Try.prog 89 #[.int .i64 n] w fun e w' => e = .returned (.bool (!valB n)) ∧ Below w.heap.size w w' := by
  go_enter Try.func89, Try.ntmps89
  go_wp2_with (go_at_call 90; refine (callIsVal _ _).mono ?_; rintro e w' ⟨rfl, rfl⟩)
  go_ret
  exact ⟨rfl, Below.refl _ _⟩
theorem egFitBad : ∀ (args : Array Value) (w : World), (callFunc 89 args).run Try.prog w = .ok (.enter 89 args) w := enters_fn Try.func89 (by kernel_rfl) rfl
set_option maxHeartbeats 1600000 in
theorem callFits (A : Option Addr) (c : Nat) (cr : Cor) (Ao : Option Addr) (co : Nat) (os : List Ord3) (cells : Int) (w : World) (B : Nat) (hB : B ≤ w.heap.size) (hm : cr.cs.length ≤ 1048576) (hm2 : os.length ≤ 1048576) (hr : Rd eInt w B A cr.cs) :
    Calls Try.prog 61 #[.agg #[.slice A cr.cs.length c, .int .i64 cr.at', .bool cr.stop], .slice Ao os.length co, .int .i64 cells] w fun e w' => e = .returned (.bool ((decide ((cr.cs.length : Int) = cells) && inB cr.at' 0 (os.length - 1)) && cr.cs.all valB)) ∧ Below w.heap.size w w' := by
  obtain ⟨cs, at0, st⟩ := cr
  simp only at hm hr ⊢
  have hmf := run_makeFunc Try.prog
  have HC := Lib.hid (callContainsInt A c cs 89 #[] (fun x => !valB x) (w.alloc (.cells #[.slice A cs.length c, .int .i64 at0, .bool st] 33)) B (by simp; omega) (by omega) (hr.below ((below1 _ _).mono hB)) egFitBad (fun x _ w' _ => callFitBad x w'))
  have E : Hid (cs.all valB = !cs.any fun x => !valB x) := by show _ = _; rw [not_any_not]
  have hw1 : IntKind.i64.wrap ((os.length : Int) - 1) = (os.length : Int) - 1 := IntWalk.i64_in _ (by omega)
  clear hr
  generalize (cs.any fun x => !valB x) = q at *
  generalize cs.all valB = qa at *
  have hq := E.out
  subst hq
  clear E
  by_cases hl : (cs.length : Int) = cells
  · have hd : ((cs.length : Int) == cells) = true := by rw [beq_iff_eq]; exact hl
    rw [decide_eq_true hl]
    clear hl
    cases q1 : inB at0 0 ((os.length : Int) - 1)
    · go_enter Try.func61, Try.ntmps61
      go_wp2_with (go_at_call 49; refine (callIn _ _ _ _).mono ?_; rintro e w' ⟨rfl, rfl⟩)
      go_ret
      exact ⟨by simp, below1 _ _⟩
    · go_enter Try.func61, Try.ntmps61
      go_wp2_with (first | (go_at_call 49; refine (callIn _ _ _ _).mono ?_; rintro e w' ⟨rfl, rfl⟩) | (go_at_call 88; refine HC.out.mono ?_; rintro e w1 ⟨rfl, hb1⟩))
      go_ret
      exact ⟨by simp, bel_trans (below1 _ _) hb1⟩
  · have hd : ((cs.length : Int) == cells) = false := by rw [beq_eq_false_iff_ne]; exact hl
    rw [decide_eq_false hl]
    clear hl
    go_enter Try.func61, Try.ntmps61
    go_wp2
    go_ret
    exact ⟨by simp, below1 _ _⟩
set_option maxHeartbeats 800000 in
theorem callCoreValid (A : Option Addr) (c : Nat) (cr : Cor) (Ao : Option Addr) (co : Nat) (os : List Ord3) (cells : Int) (w : World) (B : Nat) (hB : B ≤ w.heap.size) (hm : cr.cs.length ≤ 1048576) (hm2 : os.length ≤ 1048576) (hr : Rd eInt w B A cr.cs) (hr2 : Rd eOrd w B Ao os) :
    Calls Try.prog 23 #[.agg #[.slice A cr.cs.length c, .int .i64 cr.at', .bool cr.stop], .slice Ao os.length co, .int .i64 cells] w fun e w' => e = .returned (.bool (coreB cr os cells)) ∧ Below w.heap.size w w' := by
  have HP := Lib.hid (callProgValid Ao co os cells (w.alloc (.cells #[.slice A cr.cs.length c, .int .i64 cr.at', .bool cr.stop] 33)) B (by simp; omega) hm2 (hr2.below ((below1 _ _).mono hB)))
  have HF : Hid (∀ W, Below w.heap.size w W → Calls Try.prog 61 #[.agg #[.slice A cr.cs.length c, .int .i64 cr.at', .bool cr.stop], .slice Ao os.length co, .int .i64 cells] W fun e w' => e = .returned (.bool ((decide ((cr.cs.length : Int) = cells) && inB cr.at' 0 (os.length - 1)) && cr.cs.all valB)) ∧ Below W.heap.size W w') := fun W hW => callFits A c cr Ao co os cells W B (Nat.le_trans hB hW.size) hm hm2 (hr.below (hW.mono hB))
  have E := Lib.hid (coreB_split cr os cells)
  have K0 := Lib.hid (heap_alloc_new w (.cells #[.slice A cr.cs.length c, .int .i64 cr.at', .bool cr.stop] 33))
  obtain ⟨fb, hfb⟩ : ∃ fb, fb = ((decide ((cr.cs.length : Int) = cells) && inB cr.at' 0 (os.length - 1)) && cr.cs.all valB) := ⟨_, rfl⟩
  rw [← hfb] at HF E
  obtain ⟨cb, hcb⟩ : ∃ cb, cb = coreB cr os cells := ⟨_, rfl⟩
  rw [← hcb] at E ⊢
  clear hfb hcb hr hr2
  cases q1 : progB os cells
  · rw [q1] at HP E
    go_enter Try.func23, Try.ntmps23
    go_wp2_with fail
    refine HP.out.mono ?_
    rintro e w1 ⟨rfl, hb1⟩
    have HB1 := Lib.hid (bel_trans (below1 _ _) hb1)
    clear hb1
    go_wp2
    go_ret
    exact ⟨by rw [E.out] <;> rfl, HB1.out⟩
  · rw [q1] at HP E
    go_enter Try.func23, Try.ntmps23
    go_wp2_with fail
    refine HP.out.mono ?_
    rintro e w1 ⟨rfl, hb1⟩
    have HB1 := Lib.hid (bel_trans (below1 _ _) hb1)
    obtain ⟨x0, x1, x2, _, _, _, _⟩ := cell3 (blkc K0.out hb1)
    clear hb1
    go_wp2_with fail
    refine (HF.out _ HB1.out).mono ?_
    rintro e w2 ⟨rfl, hb2⟩
    have HB2 := Lib.hid (bel_trans HB1.out hb2)
    clear hb2
    go_wp2
    go_ret
    exact ⟨by rw [E.out] <;> rfl, HB2.out⟩

set_option maxHeartbeats 800000 in
theorem callCopyOf (A : Option Addr) (c : Nat) (cr : Cor) (w : World) (B : Nat) (hB : B ≤ w.heap.size) (hc : cr.cs.length ≤ c) (hm : cr.cs.length ≤ 1048576) (hr : Rd eInt w B A cr.cs) :
    Calls Try.prog 56 #[.agg #[.slice A cr.cs.length c, .int .i64 cr.at', .bool cr.stop]] w (CorRes w cr) := by
  obtain ⟨cs, at0, st⟩ := cr
  simp only at hm hr hc ⊢
  have HC := Lib.hid (callCopyInt A c cs ((w.alloc (.cells #[.slice A cs.length c, .int .i64 at0, .bool st] 33)).alloc (.cells #[.slice none 0 0, .int .i64 0, .bool false] 33)) B (by simp; omega) hc hm (hr.below ((below2 _ _ _).mono hB)))
  have K0 := Lib.hid (alloc_at0 w (.cells #[.slice A cs.length c, .int .i64 at0, .bool st] 33) (.cells #[.slice none 0 0, .int .i64 0, .bool false] 33))
  have K1 := Lib.hid (alloc_at1 w (.cells #[.slice A cs.length c, .int .i64 at0, .bool st] 33) (.cells #[.slice none 0 0, .int .i64 0, .bool false] 33))
  have HS := Lib.hid (show w.heap.size + 1 + 1 ≤ ((w.alloc (.cells #[.slice A cs.length c, .int .i64 at0, .bool st] 33)).alloc (.cells #[.slice none 0 0, .int .i64 0, .bool false] 33)).heap.size by simp)
  clear hr
  go_enter Try.func56, Try.ntmps56
  go_wp2_with fail
  refine HC.out.mono ?_
  rintro e w1 ⟨A1, rfl, hown, hb⟩
  have HB := Lib.hid (bel_trans (below2 w (.cells #[.slice A cs.length c, .int .i64 at0, .bool st] 33) (.cells #[.slice none 0 0, .int .i64 0, .bool false] 33)) hb)
  have J0 := Lib.hid (blkc K0.out hb)
  have J1 := Lib.hid (blkc K1.out hb)
  have HO := Lib.hid (hown.more (base' := w.heap.size + 1 + 1) HS.out)
  clear hb hown HC K0 K1 HS
  have J2 := Lib.hid (set3a (u := .slice A1 cs.length cs.length) J0.out)
  have J3 := Lib.hid (blko J1.out (p := ⟨w.heap.size, 0, none⟩) (.slice A1 cs.length cs.length) (by show w.heap.size + 1 ≠ w.heap.size; omega))
  obtain ⟨x0, x1, x2, x3, x4, x5, x6⟩ := cell3 J0.out
  obtain ⟨z0, z1, z2, z3, z4, z5, z6⟩ := cell3 J2.out
  obtain ⟨y0, y1, y2, y3, y4, y5, y6⟩ := cell3 J3.out
  obtain ⟨s0, s1, s2⟩ := res3 J3.out (.slice A1 cs.length cs.length) (.int .i64 at0) (.bool st)
  go_wp2
  exact bodyPost_ret (v := .agg #[.slice A1 cs.length cs.length, .int .i64 at0, .bool st]) (by simp [results, Try.results56, go_sem, s0, s1, s2]) rfl ⟨A1, cs.length, rfl, ((HO.out.kept (gset (g := w.heap.size) 0 _) (fun k hk => by cases hk; omega)).kept (gset3 (g := w.heap.size + 1) _ _ _) (fun k hk => by cases hk; omega)).more (by omega), Nat.le_refl _, bset3 (HB.out.setCell (p := ⟨w.heap.size, 0, none⟩) (Nat.le_refl _) _) (by omega) _ _ _⟩
end Go.Proofs.Ytiodpnhokjkjaaa
