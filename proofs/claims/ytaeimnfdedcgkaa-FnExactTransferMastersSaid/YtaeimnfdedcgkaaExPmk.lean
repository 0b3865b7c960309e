/- The exact laws' helper that marks partitions: for every input. -/
import Derived.Test.YtaeimnfdedcgkaaExPart
namespace Go.Proofs.Ytaeimnfdedcgkaa
open Go.RowKit Go.Sort
set_option maxRecDepth 100000 in
set_option maxHeartbeats 1600000 in
theorem callMarkPartS (b0 c : Nat) (qs : List Prt) (m : Int) (hi : Nat) (w : World) (hm0 : 0 ≤ m) (hm : m ≤ 10) (hn : qs.length ≤ 1048576) (hbh : 0 < qs.length → b0 < hi)
    (hrow : ∀ i (h : i < qs.length), w.cell? ⟨b0, i * 2, none⟩ = some (.slice qs[i].A qs[i].wins.length qs[i].c)) (hwr : Wr 2 w b0 (b0 + 1) (some ⟨b0, 0, none⟩) qs.length)
    (hws : ∀ q, q ∈ qs → Wr 3 w (b0 + 1) hi q.A q.wins.length ∧ q.wins.length ≤ 1048576) :
    Calls Try.prog 40 #[.slice (some ⟨b0, 0, none⟩) qs.length c, .int .i64 m] w fun e w' => ∃ r, e = .returned (.int .i64 r) ∧ 0 ≤ r ∧ Mk b0 hi w w' := by
  have HW := Lib.hid hwr
  have HROW := Lib.hid hrow
  have HWS := Lib.hid hws
  clear hwr hrow hws
  go_enter Try.func40, Try.ntmps40
  go_wp2
  go_loopw [1, 5] (fun s i wr => ∃ (k : Nat) (r : Int), k ≤ qs.length ∧ i = .int .i64 k ∧ s = .int .i64 r ∧ 0 ≤ r ∧ r ≤ 10 + 4000000 * (k : Int) ∧ Hid (Mk b0 hi w wr) ∧ Hid (∀ i (h : i < qs.length), wr.cell? ⟨b0, i * 2, none⟩ = some (.slice qs[i].A qs[i].wins.length qs[i].c))) (fun _ i _ => qs.length - (intOf i).toNat)
  case atStart => exact ⟨0, m, by omega, rfl, rfl, hm0, by omega, Mk.refl _ _ _, HROW.out⟩
  case round =>
    clear HROW
    obtain ⟨k, r, hk, rfl, rfl, hr0, hr1, HM, HC⟩ := hrel
    by_cases hlt : k < qs.length
    · have hd : decide ((k : Int) < (qs.length : Int)) = true := decide_eq_true (by omega)
      have h0 := HC.out k hlt
      have hq := HWS.out _ (List.getElem_mem hlt)
      have HQ := Lib.hid (hq.1.mk HM.out)
      have hq2 := hq.2
      obtain ⟨n, hn'⟩ : ∃ n, n = qs[k].wins.length := ⟨_, rfl⟩
      rw [← hn'] at h0 HQ hq2
      clear hq hn'
      have e1 : IntKind.i64.wrap (r + 3 * (n : Int) + 1) = r + 3 * (n : Int) + 1 := IntWalk.i64_in _ (by omega)
      go_wp2_with fail
      refine (callMarkWindowS qs[k].A n qs[k].c r (b0 + 1) hi wr hr0 (by omega) hq2 HQ.out).mono ?_
      rintro e w5 ⟨rfl, hm5⟩
      have HM5 := Lib.hid (HM.out.trans (hm5.wide (by omega) (Nat.le_refl _)))
      have HC5 : Hid (∀ i (h : i < qs.length), w5.cell? ⟨b0, i * 2, none⟩ = some (.slice qs[i].A qs[i].wins.length qs[i].c)) := fun i h => ((hm5.below (B := b0 + 1) (Nat.le_refl _)).cell (p := ⟨b0, i * 2, none⟩) (by show b0 < _; omega)).trans (HC.out i h)
      obtain ⟨b', hbb, _, _, hcs⟩ := (HW.out.mk HM5.out) (by omega)
      simp only [Option.some.injEq, Addr.mk.injEq, and_true] at hbb
      subst hbb
      obtain ⟨⟨c1, hc1⟩, hf1⟩ := hcs (k * 2 + 1) (by omega)
      obtain ⟨r2, hr2⟩ : ∃ r2, r2 = r + 3 * (n : Int) := ⟨_, rfl⟩
      rw [← hr2] at e1 ⊢
      have hr3 : 0 ≤ r2 + 1 ∧ r2 + 1 ≤ 10 + 4000000 * ((k : Int) + 1) := by omega
      have HM6 := Lib.hid (HM5.out.set (g := b0) (o := k * 2 + 1) (Nat.le_refl _) (hbh (by omega)) (.int .i64 r2))
      have HC6 : Hid (∀ i (h : i < qs.length), (w5.setCell ⟨b0, k * 2 + 1, none⟩ (.int .i64 r2)).cell? ⟨b0, i * 2, none⟩ = some (.slice qs[i].A qs[i].wins.length qs[i].c)) := fun i h =>
        (World.cell?_setCell_other _ _ _ _ (fun e => by injection e with _ e _; omega)).trans (HC5.out i h)
      clear hm5 hcs hr2 HQ HC h0
      go_wp2
      go_roundw
      case rel => exact ⟨k + 1, r2 + 1, by omega, by go_num, rfl, hr3.1, by have := hr3.2; omega, HM6.out, HC6.out⟩
      case measure => simp [intOf]; omega
    · have hke : k = qs.length := by omega
      have hd : decide ((k : Int) < (qs.length : Int)) = false := decide_eq_false (by omega)
      subst hke
      go_wp2
      go_ret
      exact ⟨r, rfl, hr0, HM.out⟩
/-- What toPartS left may be marked. -/
theorem PL.marks {w wx : World} {ps qs : List Prt} (s : PL w ps.length ps qs wx) :
    (∀ i (h : i < qs.length), wx.cell? ⟨w.heap.size, i * 2, none⟩ = some (.slice qs[i].A qs[i].wins.length qs[i].c)) ∧ Wr 2 wx w.heap.size (w.heap.size + 1) (some ⟨w.heap.size, 0, none⟩) qs.length ∧ ∀ q, q ∈ qs → Wr 3 wx (w.heap.size + 1) wx.heap.size q.A q.wins.length := by
  refine ⟨fun i h => ?_, fun h => ?_, fun q hq => (s.rows q hq).wr⟩
  · obtain ⟨bb, oo, hAA, _, e0, _⟩ := s.own.rd.at2 rfl h rfl
    simp only [Option.some.injEq, Addr.mk.injEq, and_true] at hAA
    obtain ⟨rfl, rfl⟩ := hAA
    rw [Nat.zero_add] at e0
    exact e0
  · refine ⟨_, rfl, Nat.le_refl _, Nat.lt_succ_self _, fun j hj => ?_⟩
    have hi : j / 2 < qs.length := by omega
    have := (s.own.cellsAt hi).2.2 (j % 2) (by show _ < 2; omega)
    rw [show j / 2 * ePrt.sz + j % 2 = j from by show j / 2 * 2 + j % 2 = j; omega] at this
    exact this
theorem PL.marksAt {w wx wy : World} {ps qs : List Prt} (s : PL w ps.length ps qs wx) (hb : Below wx.heap.size wx wy) :
    (∀ i (h : i < qs.length), wy.cell? ⟨w.heap.size, i * 2, none⟩ = some (.slice qs[i].A qs[i].wins.length qs[i].c)) ∧ Wr 2 wy w.heap.size (w.heap.size + 1) (some ⟨w.heap.size, 0, none⟩) qs.length ∧ (∀ q, q ∈ qs → Wr 3 wy (w.heap.size + 1) wx.heap.size q.A q.wins.length) ∧ (0 < qs.length → w.heap.size < wx.heap.size) := by
  obtain ⟨h1, h2, h3⟩ := s.marks
  have lt : 0 < qs.length → w.heap.size < wx.heap.size := fun h => (s.own.cellsAt h).2.1
  refine ⟨fun i h => (hb.cell (p := ⟨w.heap.size, i * 2, none⟩) (lt (by omega))).trans (h1 i h), fun h => ?_, fun q hq => (h3 q hq).below hb (Nat.le_refl _), lt⟩
  exact (h2.below hb (lt h)) h
end Go.Proofs.Ytaeimnfdedcgkaa
