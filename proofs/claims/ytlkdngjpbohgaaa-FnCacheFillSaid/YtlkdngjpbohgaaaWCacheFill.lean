/- The walk of the law FnCacheFill: true for every input, and nothing that was there is written. -/
import Derived.Test.YtlkdngjpbohgaaaCag
import Derived.Test.YtlkdngjpbohgaaaSam
import Derived.Test.YtlkdngjpbohgaaaPick
namespace Go.Proofs.Ytlkdngjpbohgaaa
open Go.RowKit Go.Sort

set_option maxRecDepth 100000 in
set_option maxHeartbeats 1600000 in
theorem walkFnCacheFill (A : Option Addr) (c : Nat) (bs : List Int) (w : World) (hc : bs.length ≤ c) (hr : Rd eU8 w w.heap.size A bs) (hby : ∀ x ∈ bs, 0 ≤ x ∧ x ≤ 255) :
    Calls Try.prog 3 #[.slice A bs.length c] w fun e w' => e = .returned (.bool true) ∧ Below w.heap.size w w' := by
  by_cases hl : bs.length ≤ 1048576
  · clear hr hby
    obtain ⟨r, hr⟩ : ∃ r : Nat, r = bs.length % 5 := ⟨_, rfl⟩
    have hr5 : r < 5 := by omega
    have hr2 : (bs.length : Int) % 5 = (r : Int) := by omega
    have hr3 : Int.tmod (bs.length : Int) 5 = (r : Int) := by rw [Int.tmod_eq_emod_of_nonneg (by omega)]; exact hr2
    clear hr
    have hN : ∃ n : Nat, wrap64 ((2 : Int) ^ r) = (n : Int) ∧ IntKind.i64.wrap ((2 : Int) ^ r) = (n : Int) ∧ lnB (n : Int) = true := by
      have : r = 0 ∨ r = 1 ∨ r = 2 ∨ r = 3 ∨ r = 4 := by omega
      rcases this with rfl | rfl | rfl | rfl | rfl
      · exact ⟨1, by decide +kernel, by decide +kernel, rfl⟩
      · exact ⟨2, by decide +kernel, by decide +kernel, rfl⟩
      · exact ⟨4, by decide +kernel, by decide +kernel, rfl⟩
      · exact ⟨8, by decide +kernel, by decide +kernel, rfl⟩
      · exact ⟨16, by decide +kernel, by decide +kernel, rfl⟩
    obtain ⟨n, hsh, hsh2, hln⟩ := hN
    have hbd := lnB_bd hln
    obtain ⟨ec, hec⟩ : ∃ ec, ec = emptyC (n : Int) := ⟨_, rfl⟩
    have hel : ec.length = n := by have := emptyC_len hln; rw [hec]; omega
    have HEC := Lib.hid hec
    have HEL := Lib.hid hel
    have HOK : Hid (cacheOk ec = true) := by show _ = _; rw [hec]; exact emptyC_ok hln
    have HT := Lib.hid (fill_times hln)
    have HSH := Lib.hid hsh
    have E1 : ∀ W, Hid (Calls Try.prog 12 #[.int .i64 (n : Int)] W fun e w' => ∃ A c, e = .returned (.agg #[.slice A n c]) ∧ Own eInt 3 w' W.heap.size (.slice A n c) ec ∧ n ≤ c ∧ Below W.heap.size W w') := fun W => by
      have := callEmptyCache (n : Int) W
      rw [← hec, hel] at this; exact this
    have E2 : ∀ W, Hid (Calls Try.prog 14 #[.int .i64 (n : Int)] W fun e w' => ∃ A c, e = .returned (.agg #[.slice A n c]) ∧ Own eInt 3 w' W.heap.size (.slice A n c) ec ∧ n ≤ c ∧ Below W.heap.size W w') := fun W => by
      have := callSEmptyCache (n : Int) W
      rw [← hec, hel] at this; exact this
    have E3 : ∀ (A A' : Option Addr) (c c' : Nat) (W : World), Rd eInt W W.heap.size A ec → Rd eInt W W.heap.size A' ec → Hid (Calls Try.prog 13 #[.slice A n c, .slice A' n c'] W fun e w' => e = .returned (.bool true) ∧ Below W.heap.size W w') := fun A A' c c' W h1 h2 => by
      have := callSameInts A A' c c' ec ec W W.heap.size (Nat.le_refl _) (by omega) (by omega) h1 h2
      rw [hel, show decide (ec = ec) = true from decide_eq_true rfl] at this; exact this
    have E4 : ∀ (A A' : Option Addr) (c c' : Nat) (ps : List Int) (W : World), n ≤ c → ps.length ≤ 1048576 → Rd eInt W W.heap.size A ec → Rd eInt W W.heap.size A' ps → Hid (Calls Try.prog 15 #[.agg #[.slice A n c], .slice A' ps.length c'] W fun e w' => e = .returned (.int .i64 (touchTime ec ps)) ∧ Below W.heap.size W w') := fun A A' c c' ps W h0 hm h1 h2 => by
      have := callTouchTime A A' c c' ec ps W W.heap.size (Nat.le_refl _) (by omega) (by omega) hm h1 h2
      rw [hel] at this; exact this
    have TT1 : Hid (touchTime ec (blocks n) = 8 * (n : Int)) := by
      show _ = _
      unfold touchTime
      rw [HOK.out, plsOk_iff.2 ⟨by rw [blocks_len]; omega, blocks_ok (by omega)⟩, hec]; exact HT.out.1
    have TT2 : Hid (touchTime ec (blocks n ++ blocks n) = 9 * (n : Int)) := by
      show _ = _
      unfold touchTime
      rw [HOK.out, plsOk_iff.2 ⟨by rw [List.length_append, blocks_len]; omega, fun p hp => by rcases List.mem_append.1 hp with h | h <;> exact blocks_ok (by omega) p h⟩, hec]; exact HT.out.2
    clear hel hec hln
    have hfd : ∀ (A : Option Addr) (c : Nat) (w : World), (Instr.field 25 (.agg #[.slice A n c]) 0).run Try.prog w = .ok (.slice A n c) w := fun _ _ _ => by kernel_rfl
    go_enter Try.func3, Try.ntmps3
    go_wp2_with fail
    refine (E1 _).out.mono ?_
    rintro e w1 ⟨A1, c1, rfl, hown1, hc1, hb1⟩
    have HB1 := Lib.hid hb1
    have HO1 := Lib.hid hown1.rd
    have HX1 : Hid ((w1.alloc (.cells #[.slice A1 n c1] 25)).heap[w1.heap.size]? = some (.cells #[.slice A1 n c1] 25 (0, 0))) := heap_alloc_new w1 _
    clear hb1 hown1 E1
    have hx1 := (cell1 HX1.out).1
    have u1 := World.new_ne _ _ hx1
    go_wp2_with fail
    go_region_held3 (fun w' => w'.cell? ⟨w1.heap.size, 0, none⟩ = some (.slice A1 n c1)) (first | exact hx1 | assumption | go_keep)
      (first
        | (go_at_call 14; (with_reducible refine (E2 _).out.mono ?_); rintro e w3 ⟨A3, c3, rfl, hown3, hc3, hb3⟩; have HB3 : Hid (Below w1.heap.size w1 w3) := bel_trans ((below1 w1 _).drew) hb3; have n1 : w3.cell? ⟨w1.heap.size, 0, none⟩ = some (.slice A1 n c1) := (hb3.cell (by simp)).trans hx1; have HX3 : Hid (w3.heap[w1.heap.size]? = some (.cells #[.slice A1 n c1] 25 (0, 0))) := blkc (w := (w1.alloc (.cells #[.slice A1 n c1] 25)).drew) HX1.out hb3)
        | (go_at_call 13; refine (E3 A1 A3 c1 c3 _ (HO1.out.next HB3.out) hown3.rd).out.mono ?_; rintro e w4 ⟨rfl, hb4⟩; have n2 : w4.cell? ⟨w1.heap.size, 0, none⟩ = some (.slice A1 n c1) := (hb4.cell (by show w1.heap.size < w3.heap.size; exact (cell1 HX3.out).2.2)).trans n1))
    have HX4 := Lib.hid (blkc HX3.out hb4)
    have HB4 := Lib.hid (bel_trans HB3.out hb4)
    have HR4 := Lib.hid ((HO1.out.next HB3.out).next hb4)
    clear hb4 hb3 hown3 n1 n2 hx1 u1 E2 E3
    have hx4 := (cell1 HX4.out).1
    have hs4 : w1.heap.size < w4.heap.size := (cell1 HX4.out).2.2
    go_wp2
    go_loopw [4, 5] (fun v i wr => ∃ k : Nat, k ≤ n ∧ i = .int .i64 k ∧ Below w4.heap.size w4 wr ∧ wr.cell? ⟨w1.heap.size, 0, none⟩ = some (.slice A1 n c1) ∧ Own eInt 3 wr w4.heap.size v (blocks k)) (fun _ i _ => n - (intOf i).toNat)
    case atStart => exact ⟨0, by omega, rfl, below1 _ _, (below1 w4 _).cell hs4 |>.trans hx4, Own.none_⟩
    case round =>
      obtain ⟨k, hk, rfl, hbl, hxr, hown⟩ := hrel
      have HB := Lib.hid hbl
      have HO := Lib.hid hown
      clear hbl hown hx4
      have hsr := HB.out.size
      by_cases hlt : k < n
      · have hd : decide ((k : Int) < (n : Int)) = true := decide_eq_true (by omega)
        go_wp2_with (at_builtin; refine wpList_app _ eiInt rfl (.tmp 34) (.tmp 37) rfl w4.heap.size (HO.out.alloc _) (Rd.new (xs := [16 * (k : Int)]) _ _ _ rfl) rfl rfl rfl (by rw [blocks_len]; simp; omega) (by simp; omega) ?_; intro v' w5 row hown5' hg5 hrow5; have hown5 : Own eInt 3 w5 w4.heap.size v' (blocks (k + 1)) := (by rw [blocks_succ]; exact hown5'); obtain ⟨A5, c5, hv5, hc5, _⟩ := hown5.form; subst hv5)
        have HB5 := Lib.hid (HB.out.trans (((below1 _ _).mono HB.out.size).trans (below_of_row hg5 (fun k hk => (hrow5 k hk).1) (by simp; omega))))
        have hx5 : w5.cell? ⟨w1.heap.size, 0, none⟩ = some (.slice A1 n c1) := (HB5.out.cell hs4).trans (cell1 HX4.out).1
        go_roundw
        case rel => exact ⟨k + 1, by omega, by go_num, HB5.out, hx5, hown5⟩
        case measure => simp [intOf]; omega
      · have hke : k = n := by omega
        subst hke
        have hd : decide ((k : Int) < (k : Int)) = false := by simp
        obtain ⟨tw, htw⟩ : ∃ tw, tw = blocks k ++ blocks k := ⟨_, rfl⟩
        have htl : tw.length ≤ 32 := by rw [htw, List.length_append, blocks_len]; omega
        have HTW := Lib.hid htw
        rw [← htw] at TT2
        clear htw
        obtain ⟨A5, c5, hv5, hc5, _⟩ := HO.out.form
        subst hv5
        have HBN := Lib.hid (below1 wr (.cells #[] 3))
        have HON := Lib.hid (HO.out.alloc (.cells #[] 3))
        have hlb := blocks_len k
        have HLB := Lib.hid hlb
        clear hlb
        have e8 : ((8 * (k : Int)) == (k : Int) * 8) = true := by rw [beq_iff_eq]; omega
        have e9 : ((9 * (k : Int)) == (k : Int) * 9) = true := by rw [beq_iff_eq]; omega
        have hge : decide ((k : Int) ≥ 1) = true := decide_eq_true (by omega)
        go_wp2_with (first
          | (at_builtin; refine wpList_app _ eiInt rfl (.tmp 39) (.tmp 40) rfl wr.heap.size Own.none_ HON.out.rd rfl rfl rfl (by rw [HLB.out]; simp; omega) (by simp) ?_; intro v' w5 row hown5' hg5 hrow5; have hown5 : Own eInt 3 w5 wr.heap.size v' (blocks k) := (by (have := hown5'; simpa using this)); have HO5 := Lib.hid hown5; have HB5 : Hid (Below wr.heap.size wr w5) := HBN.out.trans (below_of_row hg5 (fun k hk => (hrow5 k hk).1) (by simp)); have HR5 := Lib.hid ((HO.out.next HB5.out).rd); clear hown5 hown5' hg5 hrow5)
          | (at_builtin; refine wpList_app _ eiInt rfl (.tmp 41) (.tmp 42) rfl wr.heap.size HO5.out HR5.out rfl rfl rfl (by rw [HLB.out]; omega) HB5.out.size ?_; intro v6 w6 row6 hown6' hg6 hrow6; have hown6 : Own eInt 3 w6 wr.heap.size v6 tw := (by rw [HTW.out]; exact hown6'); obtain ⟨A6, c6, hv6, _, _⟩ := hown6.form; subst hv6; have HO6 := Lib.hid hown6; have HB6 : Hid (Below wr.heap.size wr w6) := HB5.out.trans (below_of_row hg6 (fun k hk => (hrow6 k hk).1) HB5.out.size); have hx6 : w6.cell? ⟨w1.heap.size, 0, none⟩ = some (.slice A1 k c1) := (HB6.out.cell (by show w1.heap.size < wr.heap.size; omega)).trans hxr; have HBA := Lib.hid (HB.out.trans (HB6.out.mono HB.out.size)); clear hown6 hown6' hg6 hrow6))
        have hz6 := HBA.out.size
        refine (E4 A1 A5 c1 c5 (blocks k) _ hc1 (by rw [HLB.out]; omega) (HR4.out.next HBA.out) (HO.out.next HB6.out).rd).out.mono ?_
        rintro e w7 ⟨rfl, hb7⟩
        rw [TT1.out]
        have HB7 := Lib.hid (HBA.out.trans (hb7.mono hz6))
        have hx7 : w7.cell? ⟨w1.heap.size, 0, none⟩ = some (.slice A1 k c1) := (HB7.out.cell hs4).trans (cell1 HX4.out).1
        have HR7 := Lib.hid ((HO6.out.next hb7).rd)
        clear hb7 hx6
        go_wp2_with fail
        refine (E4 A1 A6 c1 c6 tw _ hc1 (by omega) (HR4.out.next HB7.out) HR7.out).out.mono ?_
        rintro e w8 ⟨rfl, hb8⟩
        rw [TT2.out]
        have HB8 := Lib.hid (HB7.out.trans (hb8.mono HB7.out.size))
        clear hb8 hx7
        go_wp2_with fail
        refine (callAlive _).mono ?_
        rintro e w9 ⟨rfl, hb9⟩
        go_wp2
        go_ret
        exact ⟨rfl, bel_trans HB1.out (bel_trans HB4.out (bel_trans HB8.out hb9))⟩
  · have hl' : 1048576 < bs.length := by omega
    clear hr hby hl
    go_enter Try.func3, Try.ntmps3
    go_wp2
    go_ret
    exact ⟨rfl, Below.refl _ _⟩
end Go.Proofs.Ytlkdngjpbohgaaa
