/- clash of the program and of the reference, for every input. -/
import Derived.Test.YtaeimnfdedcgkaaApb
namespace Go.Proofs.Ytaeimnfdedcgkaa
open Go.RowKit Go.Sort

set_option maxRecDepth 100000 in
set_option maxHeartbeats 3200000 in
theorem callClash (A A' : Option Addr) (c c' : Nat) (xs ys : List Win) (w : World) (B : Nat) (hB : B ≤ w.heap.size) (hm : xs.length ≤ 1073741824) (hm' : ys.length ≤ 1073741824) (hx : ∀ x ∈ xs, winOk x = true) (hy : ∀ y ∈ ys, winOk y = true) (hr : Rd eWin w B A xs) (hr' : Rd eWin w B A' ys) :
    Calls Try.prog 64 #[.slice A xs.length c, .slice A' ys.length c'] w fun e w' => e = .returned (.bool (clash xs ys)) ∧ Below w.heap.size w w' := by
  have E : Hid (clash xs ys = xs.any fun x => ys.any (clashP x)) := rfl
  have HR := Lib.hid hr
  have HR' := Lib.hid hr'
  have HX := Lib.hid hx
  have HY := Lib.hid hy
  clear hr hr' hx hy
  go_enter Try.func64, Try.ntmps64
  go_wp2
  go_loopw [13] (fun i wr => ∃ k : Nat, k ≤ xs.length ∧ i = .int .i64 k ∧ Below w.heap.size w wr ∧ Hid (∀ i (h : i < xs.length), i < k → ys.any (clashP xs[i]) = false)) (fun i _ => xs.length - (intOf i).toNat)
  case atStart => exact ⟨0, by omega, rfl, Below.refl _ _, fun i _ hi => by omega⟩
  case round =>
    obtain ⟨k, hk, rfl, hbl, hno⟩ := hrel
    rename World => wo
    have HB := Lib.hid hbl
    clear hbl
    by_cases hlt : k < xs.length
    · have hd : decide ((k : Int) < xs.length) = true := decide_eq_true (by omega)
      obtain ⟨b, off, rfl, hbB, h1, h2, h3⟩ := (HR.out.below (HB.out.mono hB)).at3 rfl hlt rfl
      have HOX := Lib.hid (HX.out _ (List.getElem_mem hlt))
      obtain ⟨X, hX⟩ : ∃ X, X = xs[k] := ⟨_, rfl⟩
      rw [← hX] at h1 h2 h3 HOX
      have HEX := Lib.hid hX
      clear hX
      obtain ⟨xb, xz, xw⟩ := X
      simp only at h1 h2 h3
      cases xw
      · have HBX : Hid ((wo.alloc (.cells #[.int .i64 xb, .int .i64 xz, .bool false] 39)).heap[wo.heap.size]? = some (.cells #[.int .i64 xb, .int .i64 xz, .bool false] 39 (0, 0))) := heap_alloc_new wo _
        have HB2 := Lib.hid (bel_trans HB.out (below1 wo (.cells #[.int .i64 xb, .int .i64 xz, .bool false] 39)))
        go_wp2
        clear h1 h2 h3
        go_loopw [19] (fun i w2 => ∃ j : Nat, j ≤ ys.length ∧ i = .int .i64 j ∧ Below w.heap.size w w2 ∧ Hid (w2.heap[wo.heap.size]? = some (.cells #[.int .i64 xb, .int .i64 xz, .bool false] 39 (0, 0))) ∧ Hid (∀ i (h : i < ys.length), i < j → clashP ⟨xb, xz, false⟩ ys[i] = false)) (fun i _ => ys.length - (intOf i).toNat)
        case atStart => exact ⟨0, by omega, rfl, HB2.out, HBX, fun i _ hi => by omega⟩
        case round =>
          obtain ⟨j, hj, rfl, hbl2, HX2, hnj⟩ := hrel
          rename World => w2
          have HB3 := Lib.hid hbl2
          clear hbl2 HB2 HBX
          by_cases hlt2 : j < ys.length
          · have hd2 : decide ((j : Int) < ys.length) = true := decide_eq_true (by omega)
            obtain ⟨b', off', rfl, hbB', h1, h2, h3⟩ := (HR'.out.below (HB3.out.mono hB)).at3 rfl hlt2 rfl
            obtain ⟨a0, a1, a2, _⟩ := box3 HX2.out
            have hbw : wo.heap.size < w2.heap.size := (Array.getElem?_eq_some_iff.1 HX2.out).1
            have HY2 : Hid ((w2.alloc (.cells #[.int .i64 ys[j].base, .int .i64 ys[j].size, .bool ys[j].write] 39)).heap[w2.heap.size]? = some (.cells #[.int .i64 ys[j].base, .int .i64 ys[j].size, .bool ys[j].write] 39 (0, 0))) := heap_alloc_new w2 _
            have HX3 : Hid ((w2.alloc (.cells #[.int .i64 ys[j].base, .int .i64 ys[j].size, .bool ys[j].write] 39)).heap[wo.heap.size]? = some (.cells #[.int .i64 xb, .int .i64 xz, .bool false] 39 (0, 0))) := blk_nx HX2.out (below1 _ _)
            go_wp2_with fail
            clear h1 h2 h3 a0 a1 a2
            refine (callMeet ⟨xb, xz, false⟩ ys[j] HOX.out (HY.out _ (List.getElem_mem hlt2)) _).mono ?_
            rintro e w3 ⟨z, rfl, hb3⟩
            have HX4 : Hid ((w3.alloc (.cells #[.int .i64 z.base, .int .i64 z.size, .bool z.write] 39)).heap[wo.heap.size]? = some (.cells #[.int .i64 xb, .int .i64 xz, .bool false] 39 (0, 0))) := blk_nx (blk_nx HX3.out hb3) (below1 _ _)
            have HY4 : Hid ((w3.alloc (.cells #[.int .i64 z.base, .int .i64 z.size, .bool z.write] 39)).heap[w2.heap.size]? = some (.cells #[.int .i64 ys[j].base, .int .i64 ys[j].size, .bool ys[j].write] 39 (0, 0))) := blk_nx (blk_nx HY2.out hb3) (below1 _ _)
            have HB5 := Lib.hid (bel_trans (bel_trans (bel_trans HB3.out (below1 _ _)) hb3) (below1 w3 (.cells #[.int .i64 z.base, .int .i64 z.size, .bool z.write] 39)))
            clear hb3 HX3 HY2 HB3 HX2
            obtain ⟨a0, a1, a2, _⟩ := box3 HX4.out
            obtain ⟨b0, b1, b2, _⟩ := box3 HY4.out
            have EP : Hid (clashP ⟨xb, xz, false⟩ ys[j] = (meets ⟨xb, xz, false⟩ ys[j] && (false || ys[j].write))) := rfl
            have hno2 : Hid (clashP ⟨xb, xz, false⟩ ys[j] = true → clash xs ys = true) := fun h => by rw [E.out]; exact any_of_get hlt (by rw [← HEX.out]; exact any_of_get hlt2 h)
            have hne2 : Hid (clashP ⟨xb, xz, false⟩ ys[j] = false → ∀ i (h : i < ys.length), i < j + 1 → clashP ⟨xb, xz, false⟩ ys[i] = false) := fun h i hi hij => by
              rcases Nat.lt_or_ge i j with h' | h'
              · exact hnj.out i hi h'
              · have : i = j := by omega
                subst this; exact h
            cases hq1 : meets ⟨xb, xz, false⟩ ys[j]
            · rw [hq1] at EP
              clear hq1 hno2
              go_wp2
              clear a0 a1 a2 b0 b1 b2
              go_roundw
              case rel => exact ⟨j + 1, by omega, by go_num, HB5.out, HX4, hne2.out EP.out⟩
              case measure => simp [intOf]; omega
            · cases hq3 : ys[j].write
              · rw [hq1, hq3] at EP
                go_wp2
                clear a0 a1 a2 b0 b1 b2
                go_roundw
                case rel => exact ⟨j + 1, by omega, by go_num, HB5.out, HX4, hne2.out EP.out⟩
                case measure => simp [intOf]; omega
              · rw [hq1, hq3] at EP
                go_wp2
                go_ret
                exact ⟨by rw [hno2.out EP.out] <;> rfl, HB5.out⟩
          · have hje : j = ys.length := by omega
            subst hje
            have hd2 : decide ((ys.length : Int) < ys.length) = false := by simp
            have hne : Hid (∀ i (h : i < xs.length), i < k + 1 → ys.any (clashP xs[i]) = false) := fun i hi hik => by
              rcases Nat.lt_or_ge i k with h' | h'
              · exact hno.out i hi h'
              · have : i = k := by omega
                subst this
                rw [← HEX.out]
                exact any_none (fun i hi => hnj.out i hi hi)
            go_wp2
            go_roundw
            case rel => exact ⟨k + 1, by omega, by go_num, HB3.out, hne⟩
            case measure => simp [intOf]; omega
      · have HBX : Hid ((wo.alloc (.cells #[.int .i64 xb, .int .i64 xz, .bool true] 39)).heap[wo.heap.size]? = some (.cells #[.int .i64 xb, .int .i64 xz, .bool true] 39 (0, 0))) := heap_alloc_new wo _
        have HB2 := Lib.hid (bel_trans HB.out (below1 wo (.cells #[.int .i64 xb, .int .i64 xz, .bool true] 39)))
        go_wp2
        clear h1 h2 h3
        go_loopw [19] (fun i w2 => ∃ j : Nat, j ≤ ys.length ∧ i = .int .i64 j ∧ Below w.heap.size w w2 ∧ Hid (w2.heap[wo.heap.size]? = some (.cells #[.int .i64 xb, .int .i64 xz, .bool true] 39 (0, 0))) ∧ Hid (∀ i (h : i < ys.length), i < j → clashP ⟨xb, xz, true⟩ ys[i] = false)) (fun i _ => ys.length - (intOf i).toNat)
        case atStart => exact ⟨0, by omega, rfl, HB2.out, HBX, fun i _ hi => by omega⟩
        case round =>
          obtain ⟨j, hj, rfl, hbl2, HX2, hnj⟩ := hrel
          rename World => w2
          have HB3 := Lib.hid hbl2
          clear hbl2 HB2 HBX
          by_cases hlt2 : j < ys.length
          · have hd2 : decide ((j : Int) < ys.length) = true := decide_eq_true (by omega)
            obtain ⟨b', off', rfl, hbB', h1, h2, h3⟩ := (HR'.out.below (HB3.out.mono hB)).at3 rfl hlt2 rfl
            obtain ⟨a0, a1, a2, _⟩ := box3 HX2.out
            have hbw : wo.heap.size < w2.heap.size := (Array.getElem?_eq_some_iff.1 HX2.out).1
            have HY2 : Hid ((w2.alloc (.cells #[.int .i64 ys[j].base, .int .i64 ys[j].size, .bool ys[j].write] 39)).heap[w2.heap.size]? = some (.cells #[.int .i64 ys[j].base, .int .i64 ys[j].size, .bool ys[j].write] 39 (0, 0))) := heap_alloc_new w2 _
            have HX3 : Hid ((w2.alloc (.cells #[.int .i64 ys[j].base, .int .i64 ys[j].size, .bool ys[j].write] 39)).heap[wo.heap.size]? = some (.cells #[.int .i64 xb, .int .i64 xz, .bool true] 39 (0, 0))) := blk_nx HX2.out (below1 _ _)
            go_wp2_with fail
            clear h1 h2 h3 a0 a1 a2
            refine (callMeet ⟨xb, xz, true⟩ ys[j] HOX.out (HY.out _ (List.getElem_mem hlt2)) _).mono ?_
            rintro e w3 ⟨z, rfl, hb3⟩
            have HX4 : Hid ((w3.alloc (.cells #[.int .i64 z.base, .int .i64 z.size, .bool z.write] 39)).heap[wo.heap.size]? = some (.cells #[.int .i64 xb, .int .i64 xz, .bool true] 39 (0, 0))) := blk_nx (blk_nx HX3.out hb3) (below1 _ _)
            have HY4 : Hid ((w3.alloc (.cells #[.int .i64 z.base, .int .i64 z.size, .bool z.write] 39)).heap[w2.heap.size]? = some (.cells #[.int .i64 ys[j].base, .int .i64 ys[j].size, .bool ys[j].write] 39 (0, 0))) := blk_nx (blk_nx HY2.out hb3) (below1 _ _)
            have HB5 := Lib.hid (bel_trans (bel_trans (bel_trans HB3.out (below1 _ _)) hb3) (below1 w3 (.cells #[.int .i64 z.base, .int .i64 z.size, .bool z.write] 39)))
            clear hb3 HX3 HY2 HB3 HX2
            obtain ⟨a0, a1, a2, _⟩ := box3 HX4.out
            obtain ⟨b0, b1, b2, _⟩ := box3 HY4.out
            have EP : Hid (clashP ⟨xb, xz, true⟩ ys[j] = (meets ⟨xb, xz, true⟩ ys[j] && (true || ys[j].write))) := rfl
            have hno2 : Hid (clashP ⟨xb, xz, true⟩ ys[j] = true → clash xs ys = true) := fun h => by rw [E.out]; exact any_of_get hlt (by rw [← HEX.out]; exact any_of_get hlt2 h)
            have hne2 : Hid (clashP ⟨xb, xz, true⟩ ys[j] = false → ∀ i (h : i < ys.length), i < j + 1 → clashP ⟨xb, xz, true⟩ ys[i] = false) := fun h i hi hij => by
              rcases Nat.lt_or_ge i j with h' | h'
              · exact hnj.out i hi h'
              · have : i = j := by omega
                subst this; exact h
            cases hq1 : meets ⟨xb, xz, true⟩ ys[j]
            · rw [hq1] at EP
              clear hq1 hno2
              go_wp2
              clear a0 a1 a2 b0 b1 b2
              go_roundw
              case rel => exact ⟨j + 1, by omega, by go_num, HB5.out, HX4, hne2.out EP.out⟩
              case measure => simp [intOf]; omega
            · rw [hq1, Bool.true_or] at EP
              go_wp2
              go_ret
              exact ⟨by rw [hno2.out EP.out] <;> rfl, HB5.out⟩
          · have hje : j = ys.length := by omega
            subst hje
            have hd2 : decide ((ys.length : Int) < ys.length) = false := by simp
            have hne : Hid (∀ i (h : i < xs.length), i < k + 1 → ys.any (clashP xs[i]) = false) := fun i hi hik => by
              rcases Nat.lt_or_ge i k with h' | h'
              · exact hno.out i hi h'
              · have : i = k := by omega
                subst this
                rw [← HEX.out]
                exact any_none (fun i hi => hnj.out i hi hi)
            go_wp2
            go_roundw
            case rel => exact ⟨k + 1, by omega, by go_num, HB3.out, hne⟩
            case measure => simp [intOf]; omega
    · have hke : k = xs.length := by omega
      subst hke
      have hd : decide ((xs.length : Int) < xs.length) = false := by simp
      go_wp2
      go_ret
      exact ⟨by rw [E.out, any_none (fun i hi => hno.out i hi hi)] <;> rfl, HB.out⟩
end Go.Proofs.Ytaeimnfdedcgkaa
