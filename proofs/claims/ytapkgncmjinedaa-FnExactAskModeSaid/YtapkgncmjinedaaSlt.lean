/- The functions of slots and frames of the program, for every input. -/
import Derived.Test.YtapkgncmjinedaaWin
import Derived.Test.YtapkgncmjinedaaRep
import Derived.Test.YtapkgncmjinedaaFra
namespace Go.Proofs.Ytapkgncmjinedaa
open Go.RowKit Go.Sort

/-- The closure of SlotsValid. -/
theorem callSltBad (x : Slt) (parts : Int) (hp1 : -10 ≤ parts) (hp2 : parts ≤ 10) (b1 : Nat) (w : World) (h1 : w.cell? ⟨b1, 0, none⟩ = some (.int .i64 parts)) (hb1 : b1 < w.heap.size) :
    Calls Try.prog 93 (#[x.val] ++ #[.pointer (some ⟨b1, 0, none⟩)]) w fun e w' => e = .returned (.bool (!sltOk parts x)) ∧ Below w.heap.size w w' := by
  show Calls Try.prog 93 #[x.val, .pointer (some ⟨b1, 0, none⟩)] w _
  have E : Hid (sltOk parts x = (inB x.ticks 1 20 && inB x.who (-1) (parts - 1))) := rfl
  cases hh : inB x.ticks 1 20
  all_goals
    rw [hh] at E
    go_enter Try.func93, Try.ntmps93
    go_wp2_with (go_at_call 62; refine (callIn _ _ _ _).mono ?_; rintro e w' ⟨rfl, rfl⟩)
    go_ret
    exact ⟨by rw [E.out]; simp, below1 _ _⟩

theorem egSltBad : ∀ (args : Array Value) (w : World), (callFunc 93 args).run Try.prog w = .ok (.enter 93 args) w := enters_fn Try.func93 (by kernel_rfl) rfl

set_option maxHeartbeats 400000 in
theorem callSlotsValid (A : Option Addr) (c : Nat) (xs : List Slt) (parts : Int) (w : World) (B : Nat) (hB : B ≤ w.heap.size) (hm : xs.length ≤ 1048576) (hp1 : -10 ≤ parts) (hp2 : parts ≤ 10) (hr : Rd eSlt w B A xs) :
    Calls Try.prog 61 #[.slice A xs.length c, .int .i64 parts] w fun e w' => e = .returned (.bool (sltsOk xs parts)) ∧ Below w.heap.size w w' := by
  have hmf := run_makeFunc Try.prog
  have E : Hid (sltsOk xs parts = (inB parts 0 5 && (inB xs.length 1 12 && !xs.any fun x => !sltOk parts x))) := by rw [not_any_not]; rfl
  have HC := Lib.hid (callContainsSlt A c xs 93 #[.pointer (some ⟨w.heap.size, 0, none⟩)] (fun x => !sltOk parts x) (w.alloc (.cells #[.int .i64 parts] 3)) B (by simp; omega) (by omega) (hr.below ((below1 _ _).mono hB)) egSltBad
    (fun x _ w' hb => callSltBad x parts hp1 hp2 w.heap.size w' ((hb.cell (by show w.heap.size < (w.alloc _).heap.size; simp)).trans (by rw [World.cell?_alloc_new]; rfl)) (by have := hb.size; simp at this; omega)))
  clear hr
  generalize (xs.any fun x => !sltOk parts x) = q at *
  cases q1 : inB parts 0 5
  · rw [q1] at E
    go_enter Try.func61, Try.ntmps61
    go_wp2_with (go_at_call 62; refine (callIn _ _ _ _).mono ?_; rintro e w' ⟨rfl, rfl⟩)
    go_ret
    exact ⟨by rw [E.out]; simp, below1 _ _⟩
  · cases q2 : inB (xs.length : Int) 1 12
    · rw [q1, q2] at E
      go_enter Try.func61, Try.ntmps61
      go_wp2_with (go_at_call 62; refine (callIn _ _ _ _).mono ?_; rintro e w' ⟨rfl, rfl⟩)
      go_ret
      exact ⟨by rw [E.out]; simp, below1 _ _⟩
    · rw [q1, q2] at E
      go_enter Try.func61, Try.ntmps61
      go_wp2_with (first | (go_at_call 62; refine (callIn _ _ _ _).mono ?_; rintro e w' ⟨rfl, rfl⟩) | (go_at_call 92; refine HC.out.mono ?_; rintro e w1 ⟨rfl, hb1⟩))
      go_ret
      exact ⟨by rw [E.out]; simp, bel_trans (below1 _ _) hb1⟩

set_option maxRecDepth 100000 in
set_option maxHeartbeats 1600000 in
theorem callFrame (A : Option Addr) (c : Nat) (xs : List Slt) (parts : Int) (w : World) (B : Nat) (hB : B ≤ w.heap.size) (hok : sltsOk xs parts = true) (hr : Rd eSlt w B A xs) :
    Calls Try.prog 55 #[.slice A xs.length c] w fun e w' => ∃ v, e = .returned v ∧ Own eInt 3 w' w.heap.size v (fr xs) ∧ Below w.heap.size w w' := by
  obtain ⟨_, ⟨hl1, hl2⟩, hall⟩ := sltsOk_iff.1 hok
  have HA : Hid (∀ s ∈ xs, sltOk parts s = true) := hall
  have HBD := Lib.hid (fr_bd hok)
  have HR := Lib.hid hr
  clear hok hall hr
  go_enter Try.func55, Try.ntmps55
  go_wp2
  go_loopw [3, 8] (fun v i wr => ∃ k : Nat, k ≤ xs.length ∧ i = .int .i64 k ∧ Below w.heap.size w wr ∧ Own eInt 3 wr w.heap.size v (fr (xs.take k))) (fun _ i _ => xs.length - (intOf i).toNat)
  case atStart => exact ⟨0, by omega, rfl, Below.refl _ _, Own.none_⟩
  case round =>
    obtain ⟨k, hk, rfl, hbl, hown⟩ := hrel
    have HH := Lib.hid (And.intro hbl hown)
    clear hbl hown
    by_cases hlt : k < xs.length
    · obtain ⟨b, off, rfl, hbB, h1, h2⟩ := (HR.out.below (HH.out.1.mono hB)).at2 rfl hlt rfl
      have hs := sltOk_iff.1 (HA.out xs[k] (List.getElem_mem hlt))
      obtain ⟨t, ht⟩ : ∃ t : Nat, xs[k].ticks = (t : Int) := ⟨xs[k].ticks.toNat, by omega⟩
      have ht1 : 1 ≤ t := by omega
      have ht2 : t ≤ 20 := by omega
      have EF : Hid (fr (xs.take (k + 1)) = fr (xs.take k) ++ List.replicate t xs[k].who) := by
        show _ = _
        rw [fr_snoc hlt, ht, Int.toNat_natCast]
      have hlen : (fr (xs.take k)).length + t ≤ 240 := by
        have a := fr_take_mono xs (k := k) (k' := xs.length) hlt hlt
        rw [List.take_length, ht, Int.toNat_natCast] at a
        have := HBD.out; omega
      rw [ht] at h2
      clear hs ht
      go_wp2_with fail
      refine (callRepeatInt (wr.heap.size + 1) 0 1 xs[k].who t _ (by simp) (by rw [World.cell?_alloc_at _ _ _ _ (by simp)]; rfl) ht1 (by omega)).mono ?_
      rintro e w1 ⟨v1, rfl, hown1, hb1⟩
      obtain ⟨A1, c1, hv, hc1, _⟩ := hown1.form
      subst hv
      have HB1 := Lib.hid (bel_trans (below2 _ _ _) hb1)
      have HO1 := Lib.hid (HH.out.2.next HB1.out)
      have HR1 := Lib.hid hown1.rd
      clear hb1 hown1 h1 h2
      have hz := HH.out.1.size
      have hz1 := HB1.out.size
      go_wp2_with (at_builtin; refine wpList_app _ eiInt rfl (.tmp 12) (.tmp 18) rfl w.heap.size HO1.out HR1.out List.length_replicate.symm rfl rfl (by simp only [List.length_replicate]; omega) (by omega) ?_; intro v' w4 row hown4 hg4 hrow4)
      go_roundw
      case rel =>
        refine ⟨k + 1, by omega, by go_num, ?_, by rw [EF.out]; exact hown4⟩
        exact HH.out.1.trans ((HB1.out.mono HH.out.1.size).trans (below_of_row hg4 (fun k hk => (hrow4 k hk).1) (by omega)))
      case measure => simp [intOf]; omega
    · have hke : k = xs.length := by omega
      subst hke
      go_wp2
      go_ret
      have := HH.out.2
      rw [List.take_length] at this
      exact ⟨_, rfl, this, HH.out.1⟩

theorem callFrameTicks (A : Option Addr) (c : Nat) (xs : List Slt) (parts : Int) (w : World) (B : Nat) (hB : B ≤ w.heap.size) (hm : xs.length ≤ 1048576) (hp1 : -10 ≤ parts) (hp2 : parts ≤ 10) (hr : Rd eSlt w B A xs) :
    Calls Try.prog 20 #[.slice A xs.length c, .int .i64 parts] w fun e w' => e = .returned (.int .i64 (frameTicks xs parts)) ∧ Below w.heap.size w w' := by
  have E : Hid (frameTicks xs parts = if sltsOk xs parts then ((fr xs).length : Int) else -1) := rfl
  cases hok : sltsOk xs parts
  all_goals
    have HK := Lib.hid hok
    clear hok
    go_enter Try.func20, Try.ntmps20
    go_wp2_with fail
    refine (callSlotsValid A c xs parts _ B hB hm hp1 hp2 hr).mono ?_
    rintro e w1 ⟨rfl, hb1⟩
    rw [HK.out]
    have HB1 := Lib.hid hb1
    clear hb1
    go_wp2_with fail
  · go_ret
    exact ⟨by rw [E.out, HK.out] <;> rfl, HB1.out⟩
  · refine (callFrame A c xs parts _ B (Nat.le_trans hB HB1.out.size) HK.out (hr.below (HB1.out.mono hB))).mono ?_
    rintro e w2 ⟨v, rfl, hown, hb2⟩
    obtain ⟨A1, c1, hv, _, _⟩ := hown.form
    subst hv
    clear hown
    go_wp2
    go_ret
    exact ⟨by rw [E.out, HK.out] <;> rfl, bel_trans HB1.out hb2⟩

set_option maxHeartbeats 400000 in
theorem callWho (A : Option Addr) (c : Nat) (xs : List Slt) (parts : Int) (t : Nat) (w : World) (B : Nat) (hB : B ≤ w.heap.size) (hok : sltsOk xs parts = true) (ht : t ≤ 1000000) (hr : Rd eSlt w B A xs) :
    Calls Try.prog 80 #[.slice A xs.length c, .int .i64 t] w fun e w' => e = .returned (.int .i64 (whoAt (fr xs) t)) ∧ Below w.heap.size w w' := by
  have hbd := fr_bd hok
  have HK := Lib.hid hok
  clear hok
  go_enter Try.func80, Try.ntmps80
  go_wp2_with fail
  refine (callFrame A c xs parts _ B hB HK.out hr).mono ?_
  rintro e w1 ⟨v, rfl, hown, hb1⟩
  obtain ⟨A1, c1, hv, hc1, _⟩ := hown.form
  subst hv
  have hlt := Nat.mod_lt t (show 0 < (fr xs).length by omega)
  have E : Hid (whoAt (fr xs) t = (fr xs)[t % (fr xs).length]) := whoAt_mod (by omega)
  obtain ⟨b, off, rfl, hbB, h1⟩ := hown.rd.at1 rfl hlt rfl
  clear hown hbd
  go_wp2
  go_ret
  exact ⟨by rw [E.out] <;> rfl, hb1⟩

set_option maxHeartbeats 400000 in
theorem callWhoRuns (A : Option Addr) (c : Nat) (xs : List Slt) (parts tick : Int) (w : World) (B : Nat) (hB : B ≤ w.heap.size) (hm : xs.length ≤ 1048576) (hp1 : -10 ≤ parts) (hp2 : parts ≤ 10) (hr : Rd eSlt w B A xs) :
    Calls Try.prog 43 #[.slice A xs.length c, .int .i64 parts, .int .i64 tick] w fun e w' => e = .returned (.int .i64 (whoRuns xs parts tick)) ∧ Below w.heap.size w w' := by
  have E : Hid (whoRuns xs parts tick = if sltsOk xs parts && inB tick 0 1000000 then whoAt (fr xs) tick.toNat else -2) := rfl
  cases hok : sltsOk xs parts
  · have HK := Lib.hid hok
    clear hok
    go_enter Try.func43, Try.ntmps43
    go_wp2_with fail
    refine (callSlotsValid A c xs parts _ B hB hm hp1 hp2 hr).mono ?_
    rintro e w1 ⟨rfl, hb1⟩
    rw [HK.out]
    go_wp2
    go_ret
    exact ⟨by rw [E.out, HK.out] <;> rfl, hb1⟩
  · have HK := Lib.hid hok
    clear hok
    cases q : inB tick 0 1000000
    all_goals
      have HQ := Lib.hid q
      go_enter Try.func43, Try.ntmps43
      go_wp2_with fail
      refine (callSlotsValid A c xs parts _ B hB hm hp1 hp2 hr).mono ?_
      rintro e w1 ⟨rfl, hb1⟩
      rw [HK.out]
      have HB1 := Lib.hid hb1
      clear hb1
    · go_wp2_with (go_at_call 62; refine (callIn _ _ _ _).mono ?_; rintro e w' ⟨rfl, rfl⟩)
      go_ret
      exact ⟨by rw [E.out, HK.out, HQ.out] <;> rfl, HB1.out⟩
    · obtain ⟨h0, h1⟩ := inB_iff.1 q
      obtain ⟨t, rfl⟩ := Int.eq_ofNat_of_zero_le h0
      have E2 : Hid (whoRuns xs parts (t : Int) = whoAt (fr xs) t) := by
        show _ = _
        rw [E.out, HK.out, HQ.out]; rfl
      go_wp2_with (go_at_call 62; refine (callIn _ _ _ _).mono ?_; rintro e w' ⟨rfl, rfl⟩)
      refine (callWho A c xs parts t _ B (Nat.le_trans hB HB1.out.size) HK.out (by omega) (hr.below (HB1.out.mono hB))).mono ?_
      rintro e w2 ⟨rfl, hb2⟩
      go_wp2
      go_ret
      exact ⟨by rw [E2.out] <;> rfl, bel_trans HB1.out hb2⟩

end Go.Proofs.Ytapkgncmjinedaa
