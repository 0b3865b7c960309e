/- The walk of the law FnEmptyCache: true for every input, and nothing that was there is written. -/
import Derived.Test.YtlkdngjpbohgaaaCag
import Derived.Test.YtlkdngjpbohgaaaSam
import Derived.Test.YtlkdngjpbohgaaaDrw
namespace Go.Proofs.Ytlkdngjpbohgaaa
open Go.RowKit Go.Sort

theorem callDrawEmptyCache (A : Option Addr) (c : Nat) (bs : List Int) (w : World) (hc : bs.length ≤ c) (hm : bs.length ≤ 1048576) (hr : Rd eU8 w w.heap.size A bs) (hby : ∀ x ∈ bs, 0 ≤ x ∧ x ≤ 255) :
    Calls Try.prog 31 #[.slice A bs.length c] w fun e w' => ∃ n : Int, e = .returned (.int .i64 n) ∧ -1 ≤ n ∧ n ≤ 18 ∧ Below w.heap.size w w' := by
  go_enter Try.func31, Try.ntmps31
  go_wp2_with fail
  refine (callOpen A c bs _ hc hm hr hby).mono ?_
  rintro e w1 ⟨rfl, hr1, hb1⟩
  have HB := Lib.hid hb1
  have HR := Lib.hid hr1
  clear hr1 hb1
  go_wp2_with fail
  refine (callPick w.heap.size 0 _ _ HR.out (by omega)).mono ?_
  rintro e w2 ⟨k, rfl, d1, d2, _, hr2, hg2⟩
  have hk : k < 20 := by omega
  go_wp2
  go_ret
  exact ⟨k - 1, rfl, by omega, by omega, HB.out.trans ((Below.refl _ _).grown hg2 HB.out.size (fun k hk => by cases hk; omega))⟩

set_option maxRecDepth 100000 in
set_option maxHeartbeats 1600000 in
theorem walkFnEmptyCache (A : Option Addr) (c : Nat) (bs : List Int) (w : World) (hc : bs.length ≤ c) (hr : Rd eU8 w w.heap.size A bs) (hby : ∀ x ∈ bs, 0 ≤ x ∧ x ≤ 255) :
    Calls Try.prog 9 #[.slice A bs.length c] w fun e w' => e = .returned (.bool true) ∧ Below w.heap.size w w' := by
  by_cases hl : bs.length ≤ 1048576
  · have HC := Lib.hid (callDrawEmptyCache A c bs w hc hl hr hby)
    clear hr hby
    have hfd : ∀ (m : Nat) (A : Option Addr) (c : Nat) (w : World), (Instr.field 25 (.agg #[.slice A m c]) 0).run Try.prog w = .ok (.slice A m c) w := fun _ _ _ _ => by kernel_rfl
    go_enter Try.func9, Try.ntmps9
    go_wp2_with fail
    refine HC.out.mono ?_
    rintro e w0 ⟨n, rfl, hn1, hn2, hb0⟩
    have HB0 := Lib.hid hb0
    clear hb0 HC
    obtain ⟨ec, hec⟩ : ∃ ec, ec = emptyC n := ⟨_, rfl⟩
    obtain ⟨m, hm⟩ : ∃ m, m = ec.length := ⟨_, rfl⟩
    have hm16 : m ≤ 16 := by
      cases q : lnB n
      · rw [hm, hec]; unfold emptyC; rw [q]; simp
      · have := emptyC_len q; have := lnB_bd q; rw [hm, hec]; omega
    have HEC := Lib.hid hec
    have HM := Lib.hid hm
    have E1 : ∀ W, Hid (Calls Try.prog 12 #[.int .i64 n] W fun e w' => ∃ A c, e = .returned (.agg #[.slice A m c]) ∧ Own eInt 3 w' W.heap.size (.slice A m c) ec ∧ m ≤ c ∧ Below W.heap.size W w') := fun W => by
      have := callEmptyCache n W
      rw [← hec, ← hm] at this; exact this
    have E2 : ∀ W, Hid (Calls Try.prog 14 #[.int .i64 n] W fun e w' => ∃ A c, e = .returned (.agg #[.slice A m c]) ∧ Own eInt 3 w' W.heap.size (.slice A m c) ec ∧ m ≤ c ∧ Below W.heap.size W w') := fun W => by
      have := callSEmptyCache n W
      rw [← hec, ← hm] at this; exact this
    have E3 : ∀ (A A' : Option Addr) (c c' : Nat) (W : World), Rd eInt W W.heap.size A ec → Rd eInt W W.heap.size A' ec → Hid (Calls Try.prog 13 #[.slice A m c, .slice A' m c'] W fun e w' => e = .returned (.bool true) ∧ Below W.heap.size W w') := fun A A' c c' W h1 h2 => by
      have := callSameInts A A' c c' ec ec W W.heap.size (Nat.le_refl _) (by omega) (by omega) h1 h2
      rw [← hm, show decide (ec = ec) = true from decide_eq_true rfl] at this; exact this
    have E4 : ∀ (A A' : Option Addr) (c c' : Nat) (ps : List Int) (W : World), m ≤ c → ps.length ≤ 1048576 → Rd eInt W W.heap.size A ec → Rd eInt W W.heap.size A' ps → Hid (Calls Try.prog 15 #[.agg #[.slice A m c], .slice A' ps.length c'] W fun e w' => e = .returned (.int .i64 (touchTime ec ps)) ∧ Below W.heap.size W w') := fun A A' c c' ps W h0 hm' h1 h2 => by
      have := callTouchTime A A' c c' ec ps W W.heap.size (Nat.le_refl _) (by omega) (by omega) hm' h1 h2
      rw [← hm] at this; exact this
    have E5 : ∀ (A : Option Addr) (c : Nat) (W : World), Rd eInt W W.heap.size A ec → Hid (Calls Try.prog 25 #[.agg #[.slice A m c]] W fun e w' => e = .returned (.bool (cacheOk ec)) ∧ Below W.heap.size W w') := fun A c W h1 => by
      have := callCacheValid A c ec W W.heap.size (Nat.le_refl _) (by omega) h1
      rw [← hm] at this; exact this
    clear hm hec
    go_wp2_with fail
    refine (E1 _).out.mono ?_
    rintro e w1 ⟨A1, c1, rfl, hown1, hc1, hb1⟩
    have HB1 := Lib.hid (bel_trans HB0.out hb1)
    have HO1 := Lib.hid hown1.rd
    have HX1 : Hid ((w1.alloc (.cells #[.slice A1 m c1] 25)).heap[w1.heap.size]? = some (.cells #[.slice A1 m c1] 25 (0, 0))) := heap_alloc_new w1 _
    clear hb1 hown1 E1
    have hx1 := (cell1 HX1.out).1
    have u1 := World.new_ne _ _ hx1
    go_wp2_with fail
    go_region_held3 (fun w' => w'.cell? ⟨w1.heap.size, 0, none⟩ = some (.slice A1 m c1)) (first | exact hx1 | assumption | go_keep)
      (first
        | (go_at_call 14; (with_reducible refine (E2 _).out.mono ?_); rintro e w3 ⟨A3, c3, rfl, hown3, hc3, hb3⟩; have HB3 : Hid (Below w1.heap.size w1 w3) := bel_trans ((below1 w1 _).drew) hb3; have n1 : w3.cell? ⟨w1.heap.size, 0, none⟩ = some (.slice A1 m c1) := (hb3.cell (by simp)).trans hx1; have HX3 : Hid (w3.heap[w1.heap.size]? = some (.cells #[.slice A1 m c1] 25 (0, 0))) := blkc (w := (w1.alloc (.cells #[.slice A1 m c1] 25)).drew) HX1.out hb3)
        | (go_at_call 13; refine (E3 A1 A3 c1 c3 _ (HO1.out.next HB3.out) hown3.rd).out.mono ?_; rintro e w4 ⟨rfl, hb4⟩; have n2 : w4.cell? ⟨w1.heap.size, 0, none⟩ = some (.slice A1 m c1) := (hb4.cell (by show w1.heap.size < w3.heap.size; exact (cell1 HX3.out).2.2)).trans n1))
    have HX4 := Lib.hid (blkc HX3.out hb4)
    have HB4 := Lib.hid (bel_trans HB3.out hb4)
    have HR4 := Lib.hid ((HO1.out.next HB3.out).next hb4)
    clear hb4 hb3 hown3 n1 n2 hx1 u1 E2 E3
    have hx4 := (cell1 HX4.out).1
    have hs4 : w1.heap.size < w4.heap.size := (cell1 HX4.out).2.2
    cases q : lnB n
    · have hm0 : m = 0 := by rw [HM.out, HEC.out]; unfold emptyC; rw [q]; simp
      subst hm0
      clear q
      go_wp2_with fail
      refine (callAlive _).mono ?_
      rintro e w9 ⟨rfl, hb9⟩
      go_wp2
      go_ret
      exact ⟨rfl, bel_trans HB1.out (bel_trans HB4.out hb9)⟩
    · have hmn : n = (m : Int) := by have := emptyC_len q; rw [HM.out, HEC.out]; omega
      have hbd := lnB_bd q
      have HOK : Hid (cacheOk ec = true) := by show _ = _; rw [HEC.out]; exact emptyC_ok q
      obtain ⟨p, hp⟩ : ∃ p : Nat, p = bs.length % 4096 := ⟨_, rfl⟩
      have hp2 : (bs.length : Int) % 4096 = (p : Int) := by omega
      have hp4 : p < 4096 := by omega
      have TT : Hid (touchTime ec [(p : Int), (p : Int)] = 9) := by
        show _ = _
        unfold touchTime
        rw [HOK.out, plsOk_iff.2 ⟨by simp, fun x hx => by
          simp only [List.mem_cons, List.mem_nil_iff, or_false, or_self] at hx
          subst hx; exact plOk_iff.2 (by omega)⟩, HEC.out]
        exact empty_twice q (by omega)
      have hz : ((m : Int) == 0) = false := by rw [beq_eq_false_iff_ne]; omega
      clear hp q
      subst hmn
      have hmm : ((m : Int) == (m : Int)) = true := by simp
      go_wp2_with fail
      refine (E5 A1 c1 _ HR4.out).out.mono ?_
      rintro e w5 ⟨rfl, hb5⟩
      rw [HOK.out]
      have hx5 : w5.cell? ⟨w1.heap.size, 0, none⟩ = some (.slice A1 m c1) := (hb5.cell hs4).trans hx4
      have HB5 := Lib.hid (bel_trans HB4.out hb5)
      have HR5 := Lib.hid (HR4.out.next hb5)
      have hs5 : w1.heap.size < w5.heap.size := by have := hb5.size; omega
      clear hb5 hx4
      go_wp2_with fail
      refine (E4 A1 _ c1 2 [(p : Int), (p : Int)] _ hc1 (by simp) (HR5.out.next (below1 _ _)) (Rd.new (xs := [(p : Int), (p : Int)]) _ _ _ rfl)).out.mono ?_
      rintro e w6 ⟨rfl, hb6⟩
      rw [TT.out]
      go_wp2
      go_ret
      exact ⟨rfl, bel_trans HB1.out (bel_trans HB5.out (bel_trans (below1 _ _) hb6))⟩
  · have hl' : 1048576 < bs.length := by omega
    clear hr hby hl
    go_enter Try.func9, Try.ntmps9
    go_wp2
    go_ret
    exact ⟨rfl, Below.refl _ _⟩
end Go.Proofs.Ytlkdngjpbohgaaa
