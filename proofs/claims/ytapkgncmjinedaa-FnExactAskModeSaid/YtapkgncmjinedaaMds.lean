/- '==' and '!=' at slots, and sameSlots of the laws, for every input. -/
import Derived.Test.YtapkgncmjinedaaMod
import Derived.Laws.StructEq
import Derived.Deep.DeepCutAuto
import Derived.BigQuiet
namespace Go.Proofs.Ytapkgncmjinedaa
open Go.RowKit Go.Sort
theorem guardSlt : Try.prog.eqGuardType Try.prog.depth 96 = false := by kernel_rfl
theorem eqSlt (w : World) (a b c d : Int) : (Op.equalIn 10000 96 (.agg #[.int .i64 a, .int .i64 b]) (.agg #[.int .i64 c, .int .i64 d])).run Try.prog w = .ok (a == c && b == d) w := by
  have hS : Try.prog.underlying 96 = some (.struct (Try.prog.fieldsOf 96)) := by kernel_rfl
  have hp : Try.prog.stoodInHeld 96 = false := by kernel_rfl
  have u3 := Try.underlying3
  have a3 := Try.isAgg3
  have z3 := Try.sizeOf3
  rw [show (10000 : Nat) = 9999 + 1 from rfl, run_equalIn_agg w 9999 96 _ _ hS hp]
  simp only [Program.fieldsOf, Try.underlying96]
  go_simp
  by_cases h1 : a = c <;> by_cases h2 : b = d <;> simp [h1, h2]
theorem neqSlt (w : World) (a b c d : Int) : (binOp .neq 96 (.agg #[.int .i64 a, .int .i64 b]) (.agg #[.int .i64 c, .int .i64 d])).run Try.prog w = .ok (.bool (!(a == c && b == d))) w := by
  rw [run_neq_struct, eqSlt]; rfl
set_option maxRecDepth 100000 in
set_option maxHeartbeats 1600000 in
theorem callSameSlots (A A' : Option Addr) (c c' : Nat) (xs ys : List Slt) (w : World) (B : Nat) (hB : B ≤ w.heap.size) (_hm : xs.length ≤ 1048576) (hm' : ys.length ≤ 1048576) (hr : Rd eSlt w B A xs) (hr' : Rd eSlt w B A' ys) :
    Calls Try.prog 73 #[.slice A xs.length c, .slice A' ys.length c'] w fun e w' => (∃ b : Bool, e = .returned (.bool b) ∧ (b = true ↔ xs = ys)) ∧ Below w.heap.size w w' := by
  have HR := Lib.hid hr
  have HR' := Lib.hid hr'
  have neqs := neqSlt
  have gdp := guardSlt
  clear hr hr'
  by_cases hl : xs.length = ys.length
  · have hd0 : ((xs.length : Int) != (ys.length : Int)) = false := by rw [hl]; simp
    go_enter Try.func73, Try.ntmps73
    go_wp2
    go_loopw [5] (fun i wr => ∃ k : Nat, k ≤ xs.length ∧ i = .int .i64 k ∧ Hid (Below w.heap.size w wr) ∧ Hid (∀ i (h : i < xs.length) (h' : i < ys.length), i < k → xs[i] = ys[i])) (fun i _ => xs.length - (intOf i).toNat)
    case atStart => exact ⟨0, by omega, rfl, Below.refl _ _, fun i _ _ hi => by omega⟩
    case round =>
      obtain ⟨k, hk, rfl, HB, hno⟩ := hrel
      by_cases hlt : k < xs.length
      · have hlt' : k < ys.length := by omega
        have hd : decide ((k : Int) < xs.length) = true := decide_eq_true (by omega)
        obtain ⟨b, off, rfl, hbB, h1, h2⟩ := (HR.out.below (HB.out.mono (by omega))).at2 rfl hlt rfl
        obtain ⟨b', off', rfl, hbB', h3, h4⟩ := (HR'.out.below (HB.out.mono (by omega))).at2 rfl hlt' rfl
        obtain ⟨p, hp⟩ : ∃ p, p = xs[k] := ⟨_, rfl⟩
        obtain ⟨q, hq⟩ : ∃ q, q = ys[k] := ⟨_, rfl⟩
        rw [← hp] at h1 h2
        rw [← hq] at h3 h4
        have HP := Lib.hid hp
        have HQ := Lib.hid hq
        clear hp hq
        obtain ⟨p1, p2⟩ := p
        obtain ⟨q1, q2⟩ := q
        simp only at h1 h2 h3 h4
        by_cases he : p1 = q1 ∧ p2 = q2
        · obtain ⟨rfl, rfl⟩ := he
          have hne1 : (p1 == p1) = true := by simp
          have hne2 : (p2 == p2) = true := by simp
          have hst : Hid (∀ i (h : i < xs.length) (h' : i < ys.length), i < k + 1 → xs[i] = ys[i]) := fun i h h' hi => by
            rcases Nat.lt_or_ge i k with h'' | h''
            · exact hno.out i h h' h''
            · have : i = k := by omega
              subst this; rw [← HP.out, ← HQ.out]
          go_upto_region 6 with (fail)
          go_quiet (fail)
          clear h1 h2 h3 h4
          go_wp2
          go_roundw
          case rel => exact ⟨k + 1, by omega, by go_num, below_drewN HB.out _, hst⟩
          case measure => simp [intOf]; omega
        · have hne : (p1 == q1 && p2 == q2) = false := by
            rw [Bool.eq_false_iff]; intro h; rw [Bool.and_eq_true, beq_iff_eq, beq_iff_eq] at h; exact he h
          have HN : Hid (¬ xs = ys) := fun e => he (by
            have h5 := HP.out
            have h6 := HQ.out
            subst e
            rw [← h5] at h6
            injection h6 with a b
            exact ⟨a.symm, b.symm⟩)
          clear he
          have NE := fun w => neqs w p1 p2 q1 q2
          rw [hne] at NE
          clear neqs
          go_upto_region 6 with (fail)
          go_quiet (fail)
          clear h1 h2 h3 h4
          go_wp2
          go_ret
          exact ⟨⟨false, rfl, ⟨fun h => (by cases h), fun h => absurd h HN.out⟩⟩, below_drewN HB.out _⟩
      · have hke : k = xs.length := by omega
        have hd : decide ((k : Int) < xs.length) = false := decide_eq_false (by omega)
        have HY : Hid (xs = ys) := List.ext_getElem hl fun i h h' => hno.out i h h' (by omega)
        go_wp2
        go_ret
        exact ⟨⟨true, rfl, ⟨fun _ => HY.out, fun _ => rfl⟩⟩, HB.out⟩
  · have hd0 : ((xs.length : Int) != (ys.length : Int)) = true := by rw [bne_iff_ne]; omega
    have HN : Hid (¬ xs = ys) := fun e => hl (by rw [e])
    clear hl
    go_enter Try.func73, Try.ntmps73
    go_wp2
    go_ret
    exact ⟨⟨false, rfl, ⟨fun h => (by cases h), fun h => absurd h HN.out⟩⟩, Below.refl _ _⟩
end Go.Proofs.Ytapkgncmjinedaa
