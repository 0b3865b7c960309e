/- math/bits.TrailingZeros over this seat's own program (the walk after the shelf's, replayed), and the next line, the serving of one line, of all lines. -/
import Derived.Test.YtonhkadbiepedaaDoorLic
import Derived.Test.YtonhkadbiepedaaDoorLib
import Derived.Laws.Bits64b
import Derived.Deep.DeepCutAuto
namespace Go.Proofs.YtonhkadbiepedaaDoor
open Go.RowKit Go.Sort

/-- The table in its variable (block 1). -/
def TabW (w : World) : Prop := 1 < w.heap.size ∧ ∀ j, j < 64 → w.cell? ⟨1, j, none⟩ = some (.int .u8 (Lib.deBruijn64tab.getD j 0))
theorem TabW.below {w w' : World} (h : TabW w) (hb : Below w.heap.size w w') : TabW w' :=
  ⟨Nat.lt_of_lt_of_le h.1 hb.size, fun j hj => ((bcell hb).1 1 j h.1).trans (h.2 j hj)⟩
theorem TabW.drew {w : World} (h : TabW w) : TabW w.drew := h

set_option maxHeartbeats 1000000 in
theorem tz64_core (x k idx : Nat) (w : World) (hx0 : ((x : Int) == 0) = false)
    (key : IntKind.u64.wrap (bits BinOp.and IntKind.u64 (x : Int) (IntKind.u64.wrap (-(x : Int))) * 285870213051353865) / 288230376151711744 = (idx : Int))
    (hi : idx < 64) (hk : k < 64) (hcell : w.cell? ⟨1, idx, none⟩ = some (.int .u8 k)) :
    Calls Tryd.prog 43 #[.int .u64 x] w fun e w' => e = .returned (.int .i64 k) ∧ w = w' := by
  go_enter Tryd.func43, Tryd.ntmps43
  go_wp2_with (simp only [key])
  go_ret
  exact ⟨rfl, rfl⟩
theorem tz64_key (x a : Nat) (hx : x < 18446744073709551616) (hlow : x &&& (18446744073709551616 - x) = a) (hx0 : x ≠ 0) :
    IntKind.u64.wrap (bits BinOp.and IntKind.u64 (x : Int) (IntKind.u64.wrap (-(x : Int))) * 285870213051353865) / 288230376151711744 = ((a * 285870213051353865 % 18446744073709551616 / 288230376151711744 : Nat) : Int) := by
  have e1 : IntKind.u64.wrap (-(x : Int)) = ((18446744073709551616 - x : Nat) : Int) := by rw [IntKind.wrap_u64]; omega
  rw [e1, bits_and_u64_nat x _ hx (by omega), hlow, IntKind.wrap_u64]
  omega
theorem callTz64 (x : Nat) (hx : x < 18446744073709551616) (hx0 : x ≠ 0) (w : World) (hT : TabW w) :
    Calls Tryd.prog 43 #[.int .u64 x] w fun e w' => e = .returned (.int .i64 (Lib.ctz 64 x)) ∧ w = w' := by
  obtain ⟨hlow, hk⟩ := Lib.lowest_bit 64 x hx0 hx
  obtain ⟨hi, htab⟩ := Lib.deBruijn64_at _ hk
  have hcell := hT.2 _ hi
  rw [htab] at hcell
  exact tz64_core x _ _ w (by simp; omega) (tz64_key x _ hx hlow hx0) hi hk hcell
theorem callTz (x : Nat) (hx : x < 18446744073709551616) (hx0 : x ≠ 0) (w : World) (hT : TabW w) :
    Calls Tryd.prog 41 #[.int .u64 x] w fun e w' => e = .returned (.int .i64 (Lib.ctz 64 x)) ∧ w = w' := by
  have c64 := callTz64 x hx hx0 w hT
  have hw : IntKind.u64.wrap (x : Int) = (x : Int) := by rw [IntKind.wrap_u64]; omega
  go_enter Tryd.func41, Tryd.ntmps41
  go_wp2_with (go_at_call 43; refine c64.mono ?_; rintro e w' ⟨rfl, rfl⟩)
  go_ret
  exact ⟨rfl, rfl⟩

set_option maxHeartbeats 800000 in
theorem callNext (l : Lin) (w : World) (hT : TabW w) : Calls Tryd.prog 35 #[l.val] w fun e w' => e = .returned (.int .i64 (nextP l)) ∧ (w.alloc (linBox l)).alloc (linBox l) = w' := by
  cases q : linOk l
  · have E := Lib.hid (next_bad q)
    obtain ⟨r, m⟩ := l
    go_enter Tryd.func35, Tryd.ntmps35
    go_wp2_with (go_at_call 21; refine (callLinesValid ⟨r, m⟩ _).mono ?_; rintro e w' ⟨rfl, rfl⟩)
    go_ret
    exact ⟨by rw [E.out] <;> rfl, rfl⟩
  · obtain ⟨a, b, rfl, ha, hb⟩ := lin_nat q
    have ho := and_i64 a b ha hb
    have hT2 : TabW ((w.alloc (linBox ⟨(a : Int), (b : Int)⟩)).alloc (linBox ⟨(a : Int), (b : Int)⟩)) := hT.below (below2 _ _ _)
    rcases next_cases (b := b) ha with ⟨h0, h1⟩ | ⟨h0, k, hk, h1, h2⟩
    · have E := Lib.hid ((next_ok ha hb).trans h1)
      rw [h0] at ho
      go_enter Tryd.func35, Tryd.ntmps35
      go_wp2_with (go_at_call 21; refine (callLinesValid ⟨(a : Int), (b : Int)⟩ _).mono ?_; rintro e w' ⟨rfl, rfl⟩)
      go_ret
      exact ⟨by rw [E.out] <;> rfl, rfl⟩
    · have E := Lib.hid ((next_ok ha hb).trans h1)
      have hxl := and_lt (b := 255 - b) ha
      obtain ⟨x, hx⟩ : ∃ x, x = a &&& (255 - b) := ⟨_, rfl⟩
      rw [← hx] at ho h0 h2 hxl
      clear hx h1
      subst h2
      have hz : ((x : Int) == 0) = false := by rw [beq_eq_false_iff_ne]; omega
      have hw : IntKind.u64.wrap (x : Int) = (x : Int) := by rw [IntKind.wrap_u64]; omega
      have HC := Lib.hid (callTz x (by omega) h0 _ hT2)
      go_enter Tryd.func35, Tryd.ntmps35
      go_wp2_with (first | (go_at_call 21; refine (callLinesValid ⟨(a : Int), (b : Int)⟩ _).mono ?_; rintro e w' ⟨rfl, rfl⟩) | (go_at_call 41; refine HC.out.mono ?_; rintro e w' ⟨rfl, rfl⟩))
      go_ret
      exact ⟨by rw [E.out] <;> rfl, rfl⟩
theorem callServe (l : Lin) (w : World) (hT : TabW w) : Calls Tryd.prog 26 #[l.val] w fun e w' => e = .returned (.tuple #[(serveP l).1.val, .int .i64 (serveP l).2]) ∧ Below w.heap.size w w' := by
  cases q : linOk l
  · have E := Lib.hid (serve_bad q)
    obtain ⟨r, m⟩ := l
    go_enter Tryd.func26, Tryd.ntmps26
    go_wp2_with (go_at_call 21; refine (callLinesValid ⟨r, m⟩ _).mono ?_; rintro e w' ⟨rfl, rfl⟩)
    refine bodyPost_ret (v := .tuple #[.agg #[.int .i64 0, .int .i64 0], .int .i64 (-1)]) (by simp [results, Tryd.results26, go_sem]) rfl ⟨by rw [E.out], below3 _ _ _ _⟩
  · obtain ⟨a, b, rfl, ha, hb⟩ := lin_nat q
    have HN : ∀ W, Below w.heap.size w W → Hid (Calls Tryd.prog 35 #[(⟨(a : Int), (b : Int)⟩ : Lin).val] W fun e w' => e = .returned (.int .i64 (nextP ⟨(a : Int), (b : Int)⟩)) ∧ (W.alloc (linBox ⟨(a : Int), (b : Int)⟩)).alloc (linBox ⟨(a : Int), (b : Int)⟩) = w') := fun W h => callNext _ W (hT.below h)
    rcases next_cases (b := b) ha with ⟨h0, h1⟩ | ⟨h0, k, hk, h1, h2⟩
    · have EN := (next_ok ha hb).trans h1
      have E := Lib.hid (serve_none ha hb EN)
      rw [EN] at HN
      clear EN h1 h0
      go_enter Tryd.func26, Tryd.ntmps26
      go_wp2_with (first | (go_at_call 21; refine (callLinesValid ⟨(a : Int), (b : Int)⟩ _).mono ?_; rintro e w' ⟨rfl, rfl⟩) | (go_at_call 35; refine (HN _ (below3 w _ _ _)).out.mono ?_; rintro e w' ⟨rfl, rfl⟩))
      refine bodyPost_ret (v := .tuple #[.agg #[.int .i64 (a : Int), .int .i64 (b : Int)], .int .i64 (-1)]) (by simp [results, Tryd.results26, go_sem]) rfl ⟨by rw [E.out], by first | exact below5 _ _ _ _ _ _⟩
    · have EN := (next_ok ha hb).trans h1
      have E := Lib.hid (serve_some ha hb EN)
      rw [EN] at HN
      obtain ⟨s1, s2⟩ := shlw hk
      have hp := pow_lt hk
      clear EN h1 h0 h2
      generalize (2 ^ k : Nat) = p at *
      have ho := and_i64 a p ha hp
      go_enter Tryd.func26, Tryd.ntmps26
      go_wp2_with (first | (go_at_call 21; refine (callLinesValid ⟨(a : Int), (b : Int)⟩ _).mono ?_; rintro e w' ⟨rfl, rfl⟩) | (go_at_call 35; refine (HN _ (below3 w _ _ _)).out.mono ?_; rintro e w' ⟨rfl, rfl⟩))
      go_region
      all_goals go_wp2
      all_goals refine bodyPost_ret (v := .tuple #[.agg #[.int .i64 ((a &&& (255 - p) : Nat) : Int), .int .i64 (b : Int)], .int .i64 (k : Int)]) (by simp [results, Tryd.results26, go_sem]) rfl ⟨by rw [E.out], by first | exact below5 _ _ _ _ _ _ | exact below_drew (below5 _ _ _ _ _ _) | exact below_drew (below_drew (below5 _ _ _ _ _ _))⟩
theorem lin_box {W w4 : World} {row : Option Nat} {X : Nat} {cs : Array Value} {v : Value} {base : Nat} (hx : W.heap[X]? = some (.cells cs 24 (0, 0))) (hg : W.grownBy w4 row) (hrow : ∀ k, row = some k → base ≤ k ∧ v.ownBlock = some k ∧ ∃ cur, W.heap[k]? = some (.cells cur 3 (0, 0))) : w4.heap[X]? = some (.cells cs 24 (0, 0)) := by
  refine gblk hg hx (fun e => ?_)
  obtain ⟨cur, hcur⟩ := (hrow _ e.symm).2.2
  rw [hx] at hcur
  injection hcur with hcur
  injection hcur with _ ht _
  exact absurd ht (by decide)
def sliLen (v : Value) : Nat := match v with | .slice _ n _ => n | _ => 0
set_option maxRecDepth 100000 in
set_option maxHeartbeats 1600000 in
theorem callServeAll (l : Lin) (w : World) (hT : TabW w) : Calls Tryd.prog 11 #[l.val] w fun e w' => ∃ A c, e = .returned (.slice A (allP l).length c) ∧ Own eInt 3 w' w.heap.size (.slice A (allP l).length c) (allP l) ∧ (allP l).length ≤ c ∧ Below w.heap.size w w' := by
  have HL8 := Lib.hid (all_len l)
  have HK := Lib.hid (heap_alloc_new w (linBox l))
  obtain ⟨L, hL⟩ : ∃ L, L = allP l := ⟨_, rfl⟩
  rw [← hL] at HL8 ⊢
  have HLL := Lib.hid hL
  clear hL
  have HB0 := Lib.hid (below1 w (linBox l))
  go_enter Tryd.func11, Tryd.ntmps11
  go_upto_region 2 with (fail)
  go_loopw [3] (fun v wr => ∃ (l' : Lin) (xs : List Int), Hid (xs ++ allP l' = L) ∧ Own eInt 3 wr (w.heap.size + 1) v xs ∧ wr.heap[w.heap.size]? = some (linBox l') ∧ Below w.heap.size w wr) (fun v _ => 9 - sliLen v)
  case atStart => exact ⟨l, [], by show _ = _; rw [HLL.out]; rfl, Own.none_, HK.out, HB0.out⟩
  case round =>
    clear HK HB0
    obtain ⟨⟨r', m'⟩, xs, HS, hown, hbox, hbl⟩ := hrel
    obtain ⟨A, c, rfl, hc, _⟩ := hown.form
    have hx8 : xs.length ≤ 8 := by have h1 := HL8.out; rw [← HS.out, List.length_append] at h1; omega
    have HC := Lib.hid (callServe ⟨r', m'⟩ wr (hT.below hbl))
    have HO := Lib.hid hown
    have HX := Lib.hid hbox
    have HB := Lib.hid hbl
    obtain ⟨x1, x2, _, x4, x5⟩ := cell2 hbox
    have hcase := (serve_all ⟨r', m'⟩).2
    obtain ⟨l2, hl2⟩ : ∃ l2, l2 = (serveP ⟨r', m'⟩).1 := ⟨_, rfl⟩
    rw [← hl2] at HC hcase
    clear hl2 hown hbox hbl
    obtain ⟨r2, m2⟩ := l2
    rcases hcase with ⟨e1, e2⟩ | ⟨k, hk, e1, e2⟩
    · rw [e1] at HC
      have HE : Hid (xs = L) := by have := HS.out; rw [e2, List.append_nil] at this; exact this
      clear HS e2 e1
      go_wp2_with fail
      refine HC.out.mono ?_
      rintro e w1 ⟨rfl, hb1⟩
      have HR1 := Lib.hid ((HO.out.next hb1).alloc (.cells #[.int .i64 r2, .int .i64 m2] 24)).rd
      have HB1 := Lib.hid (bel_trans (bel_trans HB.out hb1) (below1 w1 (.cells #[.int .i64 r2, .int .i64 m2] 24)))
      clear hb1 HC
      go_wp2_with fail
      refine (callCopyInt A c xs _ _ (Nat.le_refl _) hc (by omega) HR1.out).mono ?_
      rintro e w2 ⟨A2, rfl, ho2, hb2⟩
      have HO2 := Lib.hid ho2
      have HB2 := Lib.hid (bel_trans HB1.out hb2)
      have HS1 := Lib.hid HB1.out.size
      clear ho2 hb2
      go_wp2
      go_ret
      refine ⟨A2, xs.length, by rw [← HE.out] <;> rfl, ?_, by rw [← HE.out] <;> exact Nat.le_refl _, HB2.out⟩
      rw [← HE.out]
      exact HO2.out.more HS1.out
    · rw [e1] at HC
      have HE : Hid ((xs ++ [(k : Int)]) ++ allP ⟨r2, m2⟩ = L) := by show _ = _; rw [← HS.out, e2, List.append_assoc]; rfl
      clear HS e2 e1
      obtain ⟨ys, hys⟩ : ∃ ys, ys = xs ++ [(k : Int)] := ⟨_, rfl⟩
      have HY := Lib.hid hys
      have hyl : ys.length = xs.length + 1 := by rw [hys]; simp
      rw [← hys] at HE
      have HYL := Lib.hid hyl
      clear hys hyl
      go_wp2_with fail
      refine HC.out.mono ?_
      rintro e w1 ⟨rfl, hb1⟩
      have hs1 : w.heap.size < w1.heap.size := Nat.lt_of_lt_of_le x5 hb1.size
      have HO1 := Lib.hid ((HO.out.next hb1).alloc (.cells #[.int .i64 r2, .int .i64 m2] 24))
      have HX1 := Lib.hid (blkc (blkc HX.out hb1) (below1 w1 (.cells #[.int .i64 r2, .int .i64 m2] 24)))
      have HN1 := Lib.hid (heap_alloc_new w1 (.cells #[.int .i64 r2, .int .i64 m2] 24))
      have HB1 := Lib.hid (bel_trans (bel_trans HB.out hb1) (below1 w1 (.cells #[.int .i64 r2, .int .i64 m2] 24)))
      clear hb1 HC HO HX HB x1 x2 x4 x5
      go_upto_region 5 with (fail)
      obtain ⟨v1, hv1⟩ : ∃ v1, v1 = w1.alloc (.cells #[.int .i64 r2, .int .i64 m2] 24) := ⟨_, rfl⟩
      rw [← hv1] at HO1 HX1 HN1 HB1 ⊢
      clear hv1
      have hs2 : w.heap.size + 1 ≤ v1.heap.size + 1 := by have := HB1.out.size; omega
      have hroom : xs.length + [(k : Int)].length ≤ 1073741824 := by simp; omega
      go_wp2_with (at_builtin; refine wpList_app _ eiInt rfl (.tmp 15) (.tmp 17) rfl (w.heap.size + 1) (HO1.out.alloc _) (Rd.new (E := eInt) (xs := [(k : Int)]) _ _ _ rfl) rfl rfl rfl hroom (by simpa using hs2) ?_; intro v' w4 row hown4 hg4 hrow4; rw [← HY.out] at hown4; obtain ⟨A4, c4, hv4, hc4, _⟩ := hown4.form; subst hv4; have HX4 := Lib.hid (lin_box (blkc HX1.out (below1 _ (.cells #[.int .i64 (k : Int)] 3))) hg4 hrow4); have HN4 := Lib.hid (lin_box (blkc HN1.out (below1 _ (.cells #[.int .i64 (k : Int)] 3))) hg4 hrow4); have HO4 := Lib.hid hown4; have HB4 : Hid (Below w.heap.size w w4) := (bel_trans HB1.out (below1 _ (.cells #[.int .i64 (k : Int)] 3))).grown hg4 (by have := HB1.out.size; simp; omega) (fun k hk => by have := (hrow4 k hk).1; omega); clear hown4 hg4 hrow4; obtain ⟨x1, x2, _, x4, x5⟩ := cell2 HX4.out; obtain ⟨y1, y2, _, y4, y5⟩ := cell2 HN4.out)
      go_roundw
      case rel => exact ⟨⟨r2, m2⟩, ys, HE, HO4.out.kept (gset2 (g := w.heap.size) _ _) (fun k hk => by cases hk; omega), set2 HX4.out, bset2 HB4.out (Nat.le_refl _) _ _⟩
      case measure => have := HYL.out; simp [sliLen]; omega
end Go.Proofs.YtonhkadbiepedaaDoor
