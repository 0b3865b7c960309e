/- The next line, the serving of one line, of all lines: the reference's; and '==' at lines. -/
import Derived.Test.YtonhkadbiepedaaDoorLit
import Derived.Laws.StructEq
namespace Go.Proofs.YtonhkadbiepedaaDoor
open Go.RowKit Go.Sort

theorem guardLin : Tryd.prog.eqGuardType Tryd.prog.depth 24 = false := by kernel_rfl
theorem eqLin (w : World) (a b c d : Int) : (Op.equalIn 10000 24 (.agg #[.int .i64 a, .int .i64 b]) (.agg #[.int .i64 c, .int .i64 d])).run Tryd.prog w = .ok (a == c && b == d) w := by
  have hS : Tryd.prog.underlying 24 = some (.struct (Tryd.prog.fieldsOf 24)) := by kernel_rfl
  have hp : Tryd.prog.stoodInHeld 24 = false := by kernel_rfl
  have u3 := Tryd.underlying3
  have a3 := Tryd.isAgg3
  have z3 := Tryd.sizeOf3
  rw [show (10000 : Nat) = 9999 + 1 from rfl, run_equalIn_agg w 9999 24 _ _ hS hp]
  simp only [Program.fieldsOf, Tryd.underlying24]
  go_simp
  by_cases h1 : a = c <;> by_cases h2 : b = d <;> simp [h1, h2]
theorem eqlLin (w : World) (a b c d : Int) : (binOp .eql 24 (.agg #[.int .i64 a, .int .i64 b]) (.agg #[.int .i64 c, .int .i64 d])).run Tryd.prog w = .ok (.bool (a == c && b == d)) w := by
  rw [run_eql_struct, eqLin]; rfl
theorem neqLin (w : World) (a b c d : Int) : (binOp .neq 24 (.agg #[.int .i64 a, .int .i64 b]) (.agg #[.int .i64 c, .int .i64 d])).run Tryd.prog w = .ok (.bool (!(a == c && b == d))) w := by
  rw [run_neq_struct, eqLin]; rfl
set_option maxHeartbeats 1600000 in
theorem callSNext (l : Lin) (w : World) : Calls Tryd.prog 28 #[l.val] w fun e w' => e = .returned (.int .i64 (nextP l)) ∧ Below w.heap.size w w' := by
  have HK := Lib.hid (heap_alloc_new w (linBox l))
  have HB0 := Lib.hid (below1 w (linBox l))
  cases q : linOk l
  · have E := Lib.hid (next_bad q)
    obtain ⟨r, m⟩ := l
    go_enter Tryd.func28, Tryd.ntmps28
    go_upto_region 2 with (fail)
    go_loopw [3] (fun i wr => i = .int .i64 0 ∧ wr.heap[w.heap.size]? = some (linBox ⟨r, m⟩) ∧ Below w.heap.size w wr) (fun _ _ => 0)
    case atStart => exact ⟨rfl, HK.out, HB0.out⟩
    case round =>
      obtain ⟨rfl, hbox, hbl⟩ := hrel
      obtain ⟨x1, x2, _, x4, x5⟩ := cell2 hbox
      have HB := Lib.hid hbl
      clear hbox hbl
      go_wp2_with (go_at_call 9; refine (callSLinesValid ⟨r, m⟩ _).mono ?_; rintro e w' ⟨rfl, rfl⟩)
      go_ret
      exact ⟨by rw [E.out] <;> rfl, bel_trans HB.out (below1 _ _)⟩
  · obtain ⟨a, b, rfl, ha, hb⟩ := lin_nat q
    have E := Lib.hid (next_ok ha hb)
    go_enter Tryd.func28, Tryd.ntmps28
    go_upto_region 2 with (fail)
    go_loopw [3] (fun i wr => ∃ k : Nat, k ≤ 8 ∧ i = .int .i64 k ∧ Hid (∀ j, j < k → (openN a b).testBit j = false) ∧ wr.heap[w.heap.size]? = some (linBox ⟨(a : Int), (b : Int)⟩) ∧ Below w.heap.size w wr) (fun i _ => 8 - (intOf i).toNat)
    case atStart => exact ⟨0, by omega, rfl, fun j hj => by omega, HK.out, HB0.out⟩
    case round =>
      obtain ⟨k, hk8, rfl, HF, hbox, hbl⟩ := hrel
      obtain ⟨x1, x2, _, x4, x5⟩ := cell2 hbox
      have HX := Lib.hid hbox
      have HB := Lib.hid hbl
      clear hbox hbl
      by_cases hk : k < 8
      · have hd : decide ((k : Int) ≤ 7) = true := decide_eq_true (by omega)
        have SA := shr_bit ha hk
        have SB := shr_bit hb hk
        have HOP := open_bit (r := a) hb hk
        cases qa : a.testBit k
        · rw [qa] at SA HOP
          simp only [Bool.false_eq_true, if_false] at SA
          have HF2 : Hid (∀ j, j < k + 1 → (openN a b).testBit j = false) := fun j hj => by
            rcases Nat.lt_or_ge j k with h | h
            · exact HF.out j h
            · obtain rfl : j = k := by omega
              rw [HOP]; rfl
          clear HOP SB
          go_wp2_with (go_at_call 9; refine (callSLinesValid ⟨(a : Int), (b : Int)⟩ _).mono ?_; rintro e w' ⟨rfl, rfl⟩; obtain ⟨z1, z2, _, z4, z5⟩ := cell2 (blkc HX.out (below1 wr (linBox ⟨(a : Int), (b : Int)⟩))))
          go_roundw
          case rel => exact ⟨k + 1, by omega, by go_num, HF2, blkc HX.out (below1 _ _), bel_trans HB.out (below1 _ _)⟩
          case measure => simp [intOf]; omega
        · rw [qa] at SA HOP
          simp only [if_true] at SA
          cases qb : b.testBit k
          · rw [qb] at SB HOP
            simp only [Bool.false_eq_true, if_false] at SB
            have hbo : ((0 : Int) == 0) = true := rfl
            have HE : Hid (nextN (openN a b) = (k : Int)) := next_of ⟨openN a b, open_lt ha⟩ ⟨k, hk⟩ HOP (fun j hj => HF.out j.val hj)
            clear HOP
            go_wp2_with (go_at_call 9; refine (callSLinesValid ⟨(a : Int), (b : Int)⟩ _).mono ?_; rintro e w' ⟨rfl, rfl⟩; obtain ⟨z1, z2, _, z4, z5⟩ := cell2 (blkc HX.out (below1 wr (linBox ⟨(a : Int), (b : Int)⟩))))
            go_ret
            exact ⟨by rw [E.out]; exact congrArg (fun x => Ending.returned (.int .i64 x)) HE.out.symm, bel_trans HB.out (below1 _ _)⟩
          · rw [qb] at SB HOP
            simp only [if_true] at SB
            have HF2 : Hid (∀ j, j < k + 1 → (openN a b).testBit j = false) := fun j hj => by
              rcases Nat.lt_or_ge j k with h | h
              · exact HF.out j h
              · obtain rfl : j = k := by omega
                rw [HOP]; rfl
            clear HOP
            go_wp2_with (go_at_call 9; refine (callSLinesValid ⟨(a : Int), (b : Int)⟩ _).mono ?_; rintro e w' ⟨rfl, rfl⟩; obtain ⟨z1, z2, _, z4, z5⟩ := cell2 (blkc HX.out (below1 wr (linBox ⟨(a : Int), (b : Int)⟩))))
            go_roundw
            case rel => exact ⟨k + 1, by omega, by go_num, HF2, blkc HX.out (below1 _ _), bel_trans HB.out (below1 _ _)⟩
            case measure => simp [intOf]; omega
      · obtain rfl : k = 8 := by omega
        have HE : Hid (nextN (openN a b) = -1) := next_none ⟨openN a b, open_lt ha⟩ (fun j => HF.out j.val j.isLt)
        go_wp2
        go_ret
        exact ⟨by rw [E.out]; exact congrArg (fun x => Ending.returned (.int .i64 x)) HE.out.symm, HB.out⟩
theorem callSServe (l : Lin) (w : World) : Calls Tryd.prog 29 #[l.val] w fun e w' => e = .returned (.tuple #[(serveP l).1.val, .int .i64 (serveP l).2]) ∧ Below w.heap.size w w' := by
  have K0 := Lib.hid (blkc (alloc_at0 w (linBox l) (linBox ⟨0, 0⟩)) (below1 _ (linBox l)))
  have K1 := Lib.hid (blkc (alloc_at1 w (linBox l) (linBox ⟨0, 0⟩)) (below1 _ (linBox l)))
  cases q : linOk l
  · have E := Lib.hid (serve_bad q)
    obtain ⟨r, m⟩ := l
    go_enter Tryd.func29, Tryd.ntmps29
    go_wp2_with (go_at_call 9; refine (callSLinesValid ⟨r, m⟩ _).mono ?_; rintro e w' ⟨rfl, rfl⟩)
    refine bodyPost_ret (v := .tuple #[.agg #[.int .i64 0, .int .i64 0], .int .i64 (-1)]) (by simp [results, Tryd.results29, go_sem]) rfl ⟨by rw [E.out], below3 _ _ _ _⟩
  · obtain ⟨a, b, rfl, ha, hb⟩ := lin_nat q
    have HN : ∀ W, Hid (Calls Tryd.prog 28 #[(⟨(a : Int), (b : Int)⟩ : Lin).val] W fun e w' => e = .returned (.int .i64 (nextP ⟨(a : Int), (b : Int)⟩)) ∧ Below W.heap.size W w') := fun W => callSNext _ W
    rcases next_cases (b := b) ha with ⟨h0, h1⟩ | ⟨h0, k, hk, h1, h2⟩
    · have EN := (next_ok ha hb).trans h1
      have E := Lib.hid (serve_none ha hb EN)
      rw [EN] at HN
      clear EN h1 h0
      go_enter Tryd.func29, Tryd.ntmps29
      go_upto_region 3 with (go_at_call 9; refine (callSLinesValid ⟨(a : Int), (b : Int)⟩ _).mono ?_; rintro e w' ⟨rfl, rfl⟩)
      go_wp2_with fail
      refine (HN _).out.mono ?_
      rintro e w1 ⟨rfl, hb1⟩
      have HB1 := Lib.hid (bel_trans (below3 w _ _ _) hb1)
      have M0 := Lib.hid (blkc K0.out hb1)
      have M1 := Lib.hid (blkc K1.out hb1)
      clear hb1 K0 K1
      obtain ⟨x1, x2, _, x4, x5⟩ := cell2 M0.out
      obtain ⟨y1, y2, y3, y4, y5⟩ := cell2 M1.out
      obtain ⟨s0, s1⟩ := res2 M1.out (.int .i64 (a : Int)) (.int .i64 (b : Int))
      go_wp2
      refine bodyPost_ret (v := .tuple #[.agg #[.int .i64 (a : Int), .int .i64 (b : Int)], .int .i64 (-1)]) (by simp [results, Tryd.results29, go_sem, s0, s1]) rfl ⟨by rw [E.out], bset2 HB1.out (by omega) _ _⟩
    · have EN := (next_ok ha hb).trans h1
      have E := Lib.hid (serve_some ha hb EN)
      rw [EN] at HN
      obtain ⟨s1, s2⟩ := shlw hk
      have hp := pow_lt hk
      clear EN h1 h0 h2
      generalize (2 ^ k : Nat) = p at *
      have ho := and_i64 a p ha hp
      go_enter Tryd.func29, Tryd.ntmps29
      go_upto_region 3 with (go_at_call 9; refine (callSLinesValid ⟨(a : Int), (b : Int)⟩ _).mono ?_; rintro e w' ⟨rfl, rfl⟩)
      go_wp2_with fail
      refine (HN _).out.mono ?_
      rintro e w1 ⟨rfl, hb1⟩
      have HB1 := Lib.hid (bel_trans (below3 w _ _ _) hb1)
      have M0 := Lib.hid (blkc K0.out hb1)
      have M1 := Lib.hid (blkc K1.out hb1)
      clear hb1 K0 K1
      obtain ⟨x1, x2, _, x4, x5⟩ := cell2 M0.out
      obtain ⟨y1, y2, y3, y4, y5⟩ := cell2 M1.out
      go_wp2_with fail
      go_region
      all_goals
        have N0 := Lib.hid (set2a (u := .int .i64 ((a &&& (255 - p) : Nat) : Int)) M0.out)
        have N1 := Lib.hid (blko (p := ⟨w.heap.size, 0, none⟩) M1.out (.int .i64 ((a &&& (255 - p) : Nat) : Int)) (by simp))
        obtain ⟨z1, z2, _, z4, z5⟩ := cell2 N0.out
        obtain ⟨u1, u2, u3, u4, u5⟩ := cell2 N1.out
        obtain ⟨v0, v1⟩ := res2 N1.out (.int .i64 ((a &&& (255 - p) : Nat) : Int)) (.int .i64 (b : Int))
        go_wp2
        refine bodyPost_ret (v := .tuple #[.agg #[.int .i64 ((a &&& (255 - p) : Nat) : Int), .int .i64 (b : Int)], .int .i64 (k : Int)]) (by simp [results, Tryd.results29, go_sem, v0, v1]) rfl ⟨by rw [E.out], ?_⟩
        first
          | exact bset2 (HB1.out.setCell (p := ⟨w.heap.size, 0, none⟩) (Nat.le_refl _) _) (by omega) _ _
          | exact bset2 (below_drew (HB1.out.setCell (p := ⟨w.heap.size, 0, none⟩) (Nat.le_refl _) _)) (by omega) _ _
theorem next_serve' (l : Lin) : nextP l = (serveP l).2 := by
  cases h : linOk l
  · rw [next_bad h, serve_bad h]
  · exact next_serve l h
set_option maxRecDepth 100000 in
set_option maxHeartbeats 1600000 in
theorem callSServeAll (l : Lin) (w : World) : Calls Tryd.prog 17 #[l.val] w fun e w' => ∃ A c, e = .returned (.slice A (allP l).length c) ∧ Own eInt 3 w' w.heap.size (.slice A (allP l).length c) (allP l) ∧ (allP l).length ≤ c ∧ Below w.heap.size w w' := by
  have HL8 := Lib.hid (all_len l)
  obtain ⟨L, hL⟩ : ∃ L, L = allP l := ⟨_, rfl⟩
  rw [← hL] at HL8 ⊢
  have HLL := Lib.hid hL
  clear hL
  have HK := Lib.hid (alloc_at0 w (linBox l) (.cells #[] 3))
  have HB0 := Lib.hid (below2 w (linBox l) (.cells #[] 3))
  go_enter Tryd.func17, Tryd.ntmps17
  go_upto_region 2 with (fail)
  go_loopw [3] (fun v wr => ∃ (l' : Lin) (xs : List Int), Hid (xs ++ allP l' = L) ∧ Own eInt 3 wr (w.heap.size + 1) v xs ∧ wr.heap[w.heap.size]? = some (linBox l') ∧ Below w.heap.size w wr) (fun v _ => 9 - sliLen v)
  case atStart => exact ⟨l, [], by show _ = _; rw [HLL.out]; rfl, Or.inl ⟨rfl, _, rfl⟩, HK.out, HB0.out⟩
  case round =>
    clear HK HB0
    obtain ⟨⟨r', m'⟩, xs, HS, hown, hbox, hbl⟩ := hrel
    obtain ⟨A, c, rfl, hc, _⟩ := hown.form
    have hx8 : xs.length ≤ 8 := by have h1 := HL8.out; rw [← HS.out, List.length_append] at h1; omega
    have HN := Lib.hid (callSNext ⟨r', m'⟩ wr)
    have HC : ∀ W, Hid (Calls Tryd.prog 29 #[(⟨r', m'⟩ : Lin).val] W fun e w' => e = .returned (.tuple #[(serveP ⟨r', m'⟩).1.val, .int .i64 (serveP ⟨r', m'⟩).2]) ∧ Below W.heap.size W w') := fun W => callSServe ⟨r', m'⟩ W
    rw [next_serve'] at HN
    have HO := Lib.hid hown
    have HX := Lib.hid hbox
    have HB := Lib.hid hbl
    obtain ⟨x1, x2, _, x4, x5⟩ := cell2 hbox
    have hcase := (serve_all ⟨r', m'⟩).2
    obtain ⟨l2, hl2⟩ : ∃ l2, l2 = (serveP ⟨r', m'⟩).1 := ⟨_, rfl⟩
    rw [← hl2] at HC hcase
    clear hl2 hown hbox hbl
    obtain ⟨r2, m2⟩ := l2
    rcases hcase with ⟨e1, e2⟩ | ⟨k, hk, e1, e2⟩
    · rw [e1] at HN
      have HE : Hid (xs = L) := by have := HS.out; rw [e2, List.append_nil] at this; exact this
      clear HS e2 e1 HC
      go_wp2_with fail
      refine HN.out.mono ?_
      rintro e w1 ⟨rfl, hb1⟩
      have HR1 := Lib.hid (HO.out.next hb1)
      have HB1 := Lib.hid (bel_trans HB.out hb1)
      clear hb1 HN
      go_wp2
      go_ret
      refine ⟨A, c, by rw [← HE.out] <;> rfl, ?_, by rw [← HE.out] <;> exact hc, HB1.out⟩
      rw [← HE.out]
      exact HR1.out.more (by omega)
    · rw [e1] at HC HN
      have HE : Hid ((xs ++ [(k : Int)]) ++ allP ⟨r2, m2⟩ = L) := by show _ = _; rw [← HS.out, e2, List.append_assoc]; rfl
      clear HS e2 e1
      obtain ⟨ys, hys⟩ : ∃ ys, ys = xs ++ [(k : Int)] := ⟨_, rfl⟩
      have HY := Lib.hid hys
      have HYL : Hid (ys.length = xs.length + 1) := by show _ = _; rw [hys]; simp
      rw [← hys] at HE
      clear hys
      go_wp2_with fail
      refine HN.out.mono ?_
      rintro e w0 ⟨rfl, hb0⟩
      have HX0 := Lib.hid (blkc HX.out hb0)
      obtain ⟨y1, y2, _, y4, y5⟩ := cell2 HX0.out
      go_wp2_with fail
      refine (HC _).out.mono ?_
      rintro e w1 ⟨rfl, hb1⟩
      have hs1 : w.heap.size < w1.heap.size := Nat.lt_of_lt_of_le y5 hb1.size
      have HO1 := Lib.hid (((HO.out.next hb0).next hb1).alloc (.cells #[.int .i64 r2, .int .i64 m2] 24))
      have HX1 := Lib.hid (blkc (blkc HX0.out hb1) (below1 w1 (.cells #[.int .i64 r2, .int .i64 m2] 24)))
      have HB1 := Lib.hid (bel_trans (bel_trans (bel_trans HB.out hb0) hb1) (below1 w1 (.cells #[.int .i64 r2, .int .i64 m2] 24)))
      have HN1 := Lib.hid (heap_alloc_new w1 (.cells #[.int .i64 r2, .int .i64 m2] 24))
      clear hb0 hb1 HC HO HX HB x1 x2 x4 x5 HN HX0 y1 y2 y4 y5
      go_upto_region 4 with (fail)
      obtain ⟨v1, hv1⟩ : ∃ v1, v1 = w1.alloc (.cells #[.int .i64 r2, .int .i64 m2] 24) := ⟨_, rfl⟩
      rw [← hv1] at HO1 HX1 HN1 HB1 ⊢
      clear hv1
      obtain ⟨x1, x2, _, x4, x5⟩ := cell2 HX1.out
      obtain ⟨y1, y2, _, y4, y5⟩ := cell2 HN1.out
      have HO2 := Lib.hid (HO1.out.kept (gset2 (g := w.heap.size) (.int .i64 r2) (.int .i64 m2)) (fun k hk => by cases hk; omega))
      have HX2 := Lib.hid (set2 (u := .int .i64 r2) (v := .int .i64 m2) HX1.out)
      have HB2 := Lib.hid (bset2 HB1.out (Nat.le_refl _) (.int .i64 r2) (.int .i64 m2))
      clear HO1 HX1 HB1 HN1
      go_upto_region 5 with (fail)
      obtain ⟨v2, hv2⟩ : ∃ v2, v2 = (v1.setCell ⟨w.heap.size, 0, none⟩ (.int .i64 r2)).setCell ⟨w.heap.size, 1, none⟩ (.int .i64 m2) := ⟨_, rfl⟩
      rw [← hv2] at HO2 HX2 HB2 ⊢
      clear hv2 x1 x2 x4 y1 y2 y4
      have hs2 : w.heap.size + 1 ≤ v2.heap.size + 1 := by have := HB2.out.size; omega
      have hroom : xs.length + [(k : Int)].length ≤ 1073741824 := by simp; omega
      go_wp2_with (at_builtin; refine wpList_app _ eiInt rfl (.tmp 16) (.tmp 18) rfl (w.heap.size + 1) (HO2.out.alloc _) (Rd.new (E := eInt) (xs := [(k : Int)]) _ _ _ rfl) rfl rfl rfl hroom (by simpa using hs2) ?_; intro v' w4 row hown4 hg4 hrow4; rw [← HY.out] at hown4; obtain ⟨A4, c4, hv4, hc4, _⟩ := hown4.form; subst hv4; have HX4 := Lib.hid (lin_box (blkc HX2.out (below1 _ (.cells #[.int .i64 (k : Int)] 3))) hg4 hrow4); have HO4 := Lib.hid hown4; have HB4 : Hid (Below w.heap.size w w4) := (bel_trans HB2.out (below1 _ (.cells #[.int .i64 (k : Int)] 3))).grown hg4 (by have := HB2.out.size; simp; omega) (fun k hk => by have := (hrow4 k hk).1; omega); clear hown4 hg4 hrow4)
      go_roundw
      case rel => exact ⟨⟨r2, m2⟩, ys, HE, HO4.out, HX4.out, HB4.out⟩
      case measure => have := HYL.out; simp [sliLen]; omega
end Go.Proofs.YtonhkadbiepedaaDoor
