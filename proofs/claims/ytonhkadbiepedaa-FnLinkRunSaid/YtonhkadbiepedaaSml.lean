/- '==' and '!=' at packets, and sameLink of the laws, for every input. -/
import Derived.Test.YtonhkadbiepedaaLku
import Derived.Laws.StructEq
namespace Go.Proofs.Ytonhkadbiepedaa
open Go.RowKit Go.Sort
theorem guardPkt : Try.prog.eqGuardType Try.prog.depth 46 = false := by kernel_rfl
theorem eqPkt (w : World) (a b c d : Int) : (Op.equalIn 10000 46 (.agg #[.int .i64 a, .int .i64 b]) (.agg #[.int .i64 c, .int .i64 d])).run Try.prog w = .ok (a == c && b == d) w := by
  have hS : Try.prog.underlying 46 = some (.struct (Try.prog.fieldsOf 46)) := by kernel_rfl
  have hp : Try.prog.stoodInHeld 46 = false := by kernel_rfl
  have u3 := Try.underlying3
  have a3 := Try.isAgg3
  have z3 := Try.sizeOf3
  rw [show (10000 : Nat) = 9999 + 1 from rfl, run_equalIn_agg w 9999 46 _ _ hS hp]
  simp only [Program.fieldsOf, Try.underlying46]
  go_simp
  by_cases h1 : a = c <;> by_cases h2 : b = d <;> simp [h1, h2]
theorem neqPkt (w : World) (a b c d : Int) : (binOp .neq 46 (.agg #[.int .i64 a, .int .i64 b]) (.agg #[.int .i64 c, .int .i64 d])).run Try.prog w = .ok (.bool (!(a == c && b == d))) w := by
  rw [run_neq_struct, eqPkt]; rfl
set_option maxRecDepth 100000 in
set_option maxHeartbeats 1600000 in
theorem callSameLink (A A' : Option Addr) (c c' : Nat) (d d' : Int) (xs ys : List Pkt) (w : World) (B : Nat) (hB : B ≤ w.heap.size) (hm : xs.length ≤ 1000) (hm' : ys.length ≤ 1000) (hr : Rd ePkt w B A xs) (hr' : Rd ePkt w B A' ys) :
    Calls Try.prog 19 #[.agg #[.int .i64 d, .slice A xs.length c], .agg #[.int .i64 d', .slice A' ys.length c']] w fun e w' => (∃ b : Bool, e = .returned (.bool b) ∧ (d = d' ∧ xs = ys → b = true)) ∧ Below w.heap.size w w' := by
  have HV0 := Lib.hid (below2 w (.cells #[.int .i64 d, .slice A xs.length c] 36) (.cells #[.int .i64 d', .slice A' ys.length c'] 36))
  have K0 := Lib.hid (alloc_at0 w (.cells #[.int .i64 d, .slice A xs.length c] 36) (.cells #[.int .i64 d', .slice A' ys.length c'] 36))
  have K1 := Lib.hid (alloc_at1 w (.cells #[.int .i64 d, .slice A xs.length c] 36) (.cells #[.int .i64 d', .slice A' ys.length c'] 36))
  have HR := Lib.hid (hr.below (HV0.out.mono hB))
  have HR' := Lib.hid (hr'.below (HV0.out.mono hB))
  have neqs := neqPkt
  have gdp := guardPkt
  clear hr hr'
  go_enter Try.func19, Try.ntmps19
  go_upto_region 1 with (fail)
  obtain ⟨u, hu⟩ : ∃ u, u = ((w.alloc (.cells #[.int .i64 d, .slice A xs.length c] 36)).alloc (.cells #[.int .i64 d', .slice A' ys.length c'] 36)) := ⟨_, rfl⟩
  rw [← hu] at HV0 K0 K1 HR HR' ⊢
  clear hu
  have hsu : w.heap.size + 1 < u.heap.size := (cell2 K1.out).2.2.2.2
  by_cases hl : xs.length = ys.length
  · have hd0 : ((xs.length : Int) != (ys.length : Int)) = false := by rw [hl]; simp
    obtain ⟨x0, x1, _, _, _⟩ := cell2 K0.out
    obtain ⟨y0, y1, _, _, _⟩ := cell2 K1.out
    go_wp2
    clear x0 x1 y0 y1
    go_loopw [5] (fun i wr => ∃ k : Nat, k ≤ xs.length ∧ i = .int .i64 k ∧ Hid (Below u.heap.size u wr) ∧ Hid (∀ i (h : i < xs.length) (h' : i < ys.length), i < k → xs[i] = ys[i])) (fun i _ => xs.length - (intOf i).toNat)
    case atStart => exact ⟨0, by omega, rfl, Below.refl _ _, fun i _ _ hi => by omega⟩
    case round =>
      obtain ⟨k, hk, rfl, HB, hno⟩ := hrel
      obtain ⟨x0, x1, _, _, _⟩ := cell2 (blkc K0.out HB.out)
      obtain ⟨y0, y1, _, _, _⟩ := cell2 (blkc K1.out HB.out)
      by_cases hlt : k < xs.length
      · have hlt' : k < ys.length := by omega
        have hd : decide ((k : Int) < xs.length) = true := decide_eq_true (by omega)
        obtain ⟨b, off, rfl, hbB, h1, h2⟩ := (HR.out.below (HB.out.mono (by omega))).at2 rfl hlt rfl
        obtain ⟨b', off', rfl, hbB', h3, h4⟩ := (HR'.out.below (HB.out.mono (by omega))).at2 rfl hlt' rfl
        obtain ⟨p, hp⟩ : ∃ p, p = xs[k] := ⟨_, rfl⟩
        obtain ⟨q, hq⟩ : ∃ q, q = ys[k] := ⟨_, rfl⟩
        rw [← hp] at h1 h2
        rw [← hq] at h3 h4
        have HP := Lib.hid hp
        have HQ := Lib.hid hq
        clear hp hq
        obtain ⟨p1, p2⟩ := p
        obtain ⟨q1, q2⟩ := q
        simp only at h1 h2 h3 h4
        by_cases he : p1 = q1 ∧ p2 = q2
        · obtain ⟨rfl, rfl⟩ := he
          have hne1 : (p1 == p1) = true := by simp
          have hne2 : (p2 == p2) = true := by simp
          have hst : Hid (∀ i (h : i < xs.length) (h' : i < ys.length), i < k + 1 → xs[i] = ys[i]) := fun i h h' hi => by
            rcases Nat.lt_or_ge i k with h'' | h''
            · exact hno.out i h h' h''
            · have : i = k := by omega
              subst this; rw [← HP.out, ← HQ.out]
          go_upto_region 6 with (fail)
          go_quiet (fail)
          clear h1 h2 h3 h4 x0 x1 y0 y1
          go_wp2
          go_roundw
          case rel => exact ⟨k + 1, by omega, by go_num, below_drewN HB.out _, hst⟩
          case measure => simp [intOf]; omega
        · have hne : (p1 == q1 && p2 == q2) = false := by
            rw [Bool.eq_false_iff]; intro h; rw [Bool.and_eq_true, beq_iff_eq, beq_iff_eq] at h; exact he h
          have HN : Hid (¬ xs = ys) := fun e => he (by
            have h5 := HP.out
            have h6 := HQ.out
            subst e
            rw [← h5] at h6
            injection h6 with a b
            exact ⟨a.symm, b.symm⟩)
          clear he
          have NE := fun w => neqs w p1 p2 q1 q2
          rw [hne] at NE
          clear neqs
          go_upto_region 6 with (fail)
          go_quiet (fail)
          clear h1 h2 h3 h4 x0 x1 y0 y1
          go_wp2
          go_ret
          exact ⟨⟨false, rfl, fun h => absurd h.2 HN.out⟩, below_drewN (bel_trans HV0.out HB.out) _⟩
      · have hke : k = xs.length := by omega
        have hd : decide ((k : Int) < xs.length) = false := decide_eq_false (by omega)
        cases hdd : (d == d')
        · go_wp2
          go_ret
          exact ⟨⟨false, rfl, fun h => by rw [h.1] at hdd; simp at hdd⟩, bel_trans HV0.out HB.out⟩
        · go_wp2
          go_ret
          exact ⟨⟨true, rfl, fun _ => rfl⟩, bel_trans HV0.out HB.out⟩
  · have hd0 : ((xs.length : Int) != (ys.length : Int)) = true := by rw [bne_iff_ne]; omega
    have HN : Hid (¬ xs = ys) := fun e => hl (by rw [e])
    clear hl
    obtain ⟨x0, x1, _, _, _⟩ := cell2 K0.out
    obtain ⟨y0, y1, _, _, _⟩ := cell2 K1.out
    go_wp2
    go_ret
    exact ⟨⟨false, rfl, fun h => absurd h.2 HN.out⟩, HV0.out⟩
end Go.Proofs.Ytonhkadbiepedaa
