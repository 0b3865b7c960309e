/- The walk of the law FnHoldTake: true for every input, and nothing that was there is written. -/
import Derived.Test.YtonhkadbiepedaaDrq
import Derived.Test.YtonhkadbiepedaaHos
import Derived.Test.YtonhkadbiepedaaSam
import Derived.Deep.RegionHeldLaw
namespace Go.Proofs.Ytonhkadbiepedaa
open Go.RowKit Go.Sort

/-- What HoldTake returns: nothing, or a message that is not negative. -/
theorem holdTake_neg {h : List Int} {kind size : Int} (e : (holdTake h kind size).2 < 0) : holdTake h kind size = ([], -1) := by
  unfold holdTake at e ⊢
  cases q : holdOk h kind size
  · rfl
  · rw [q] at e
    simp only [if_true] at e ⊢
    cases h with
    | nil => rfl
    | cons x xs =>
      exfalso
      have hx := (holdOk_iff.1 q).2.2 x (List.mem_cons_self ..)
      by_cases hk : kind = 1
      · rw [show hTake (x :: xs) kind = (x :: xs, x) from if_pos hk] at e; simp only at e; omega
      · rw [show hTake (x :: xs) kind = (xs, x) from if_neg hk] at e; simp only at e; omega
theorem holdTake_pos {h : List Int} {kind size : Int} (e : ¬ (holdTake h kind size).2 < 0) : holdOk h kind size = true ∧ ∃ (h0 : 0 < h.length), holdTake h kind size = if kind = 1 then (h, h[0]) else (h.drop 1, h[0]) := by
  unfold holdTake at e ⊢
  cases q : holdOk h kind size
  · rw [q] at e; exact absurd (show (-1 : Int) < 0 by decide) e
  · rw [q] at e
    simp only [if_true] at e ⊢
    cases h with
    | nil => exact absurd (show (-1 : Int) < 0 by decide) e
    | cons x xs => exact ⟨trivial, by simp, rfl⟩

/-- A hold that a call made lies in a box: made behind the call, or ahead of it. -/
theorem hold_after {wr w5 : World} {A : Option Addr} {c : Nat} {xs : List Int} {T : TypeId} (hb : Below wr.drew.heap.size wr.drew w5) (ho : Own eInt 3 w5 wr.drew.heap.size (.slice A xs.length c) xs) (hc : xs.length ≤ c) :
    ∃ z A' c', Value.pointer (some ⟨w5.heap.size, 0, none⟩) = .pointer (some ⟨z, 0, none⟩) ∧ Hid (Below wr.heap.size wr (w5.alloc (.cells #[.slice A xs.length c] T)) ∧ wr.heap.size ≤ z ∧ (w5.alloc (.cells #[.slice A xs.length c] T)).heap[z]? = some (.cells #[.slice A' xs.length c'] T (0, 0)) ∧ Own eInt 3 (w5.alloc (.cells #[.slice A xs.length c] T)) wr.heap.size (.slice A' xs.length c') xs ∧ xs.length ≤ c') := by
  have hb' : Below wr.heap.size wr w5 := Below.trans (Below.refl _ _).drew hb
  exact ⟨_, A, c, rfl, bel_trans hb' (below1 _ _), hb'.size, heap_alloc_new _ _, ho.alloc _, hc⟩
theorem hold_ahead {wr w5 : World} {A : Option Addr} {c : Nat} {xs : List Int} {v0 : Value} {T : TypeId} (hb : Below (wr.alloc (.cells #[v0] T)).drew.heap.size (wr.alloc (.cells #[v0] T)).drew w5) (ho : Own eInt 3 w5 (wr.alloc (.cells #[v0] T)).drew.heap.size (.slice A xs.length c) xs) (hc : xs.length ≤ c) :
    ∃ z A' c', Value.pointer (some ⟨wr.heap.size, 0, none⟩) = .pointer (some ⟨z, 0, none⟩) ∧ Hid (Below wr.heap.size wr (w5.setCell ⟨wr.heap.size, 0, none⟩ (.slice A xs.length c)) ∧ wr.heap.size ≤ z ∧ (w5.setCell ⟨wr.heap.size, 0, none⟩ (.slice A xs.length c)).heap[z]? = some (.cells #[.slice A' xs.length c'] T (0, 0)) ∧ Own eInt 3 (w5.setCell ⟨wr.heap.size, 0, none⟩ (.slice A xs.length c)) wr.heap.size (.slice A' xs.length c') xs ∧ xs.length ≤ c') := by
  have hb' : Below (wr.alloc (.cells #[v0] T)).heap.size (wr.alloc (.cells #[v0] T)) w5 := Below.trans (Below.refl _ _).drew hb
  have ho' : Own eInt 3 w5 (wr.alloc (.cells #[v0] T)).heap.size (.slice A xs.length c) xs := ho
  rw [World.size_alloc] at ho'
  exact ⟨_, A, c, rfl, (bel_trans (below1 wr _) hb').setCell (Nat.le_refl _) _, Nat.le_refl _, set1 (blkc (heap_alloc_new wr _) hb'), (ho'.kept (gset 0 _) (fun k hk => by cases hk; omega)).more (by omega), hc⟩

set_option maxRecDepth 100000 in
set_option maxHeartbeats 3200000 in
theorem walkFnHoldTake (A : Option Addr) (c : Nat) (bs : List Int) (w : World) (hc : bs.length ≤ c) (hr : Rd eU8 w w.heap.size A bs) (hby : ∀ x ∈ bs, 0 ≤ x ∧ x ≤ 255) :
    Calls Try.prog 9 #[.slice A bs.length c] w fun e w' => e = .returned (.bool true) ∧ Below w.heap.size w w' := by
  by_cases hl : bs.length ≤ 1048576
  · have HC := Lib.hid (callDrawHoldTake A c bs w hc hl hr hby)
    clear hr hby
    go_enter Try.func9, Try.ntmps9
    go_wp2_with fail
    refine HC.out.mono ?_
    rintro e w1 ⟨Ah, ch, h, kind, size, rfl, hrd, hch, hlh, hb1⟩
    have HB1 := Lib.hid hb1
    have HH := Lib.hid hrd
    clear hb1 HC hrd
    have HBa := Lib.hid (below1 w1 (.cells #[.slice Ah h.length ch] 25))
    have HXa := Lib.hid (heap_alloc_new w1 (.cells #[.slice Ah h.length ch] 25))
    obtain ⟨r, hr⟩ : ∃ r, r = holdTake h kind size := ⟨_, rfl⟩
    have T1 : ∀ W, Below w1.heap.size w1 W → Hid (Calls Try.prog 15 #[.agg #[.slice Ah h.length ch], .int .i64 kind, .int .i64 size] W fun e w' => ∃ A' c', e = .returned (.tuple #[.agg #[.slice A' r.1.length c'], .int .i64 r.2]) ∧ Own eInt 3 w' W.heap.size (.slice A' r.1.length c') r.1 ∧ r.1.length ≤ c' ∧ Below W.heap.size W w') := fun W hW => by
      have := callHoldTake Ah ch h kind size W w1.heap.size hW.size hch (by omega) (HH.out.below hW)
      rw [← hr] at this; exact this
    have T2 : ∀ W, Below w1.heap.size w1 W → Hid (Calls Try.prog 31 #[.agg #[.slice Ah h.length ch], .int .i64 kind, .int .i64 size] W fun e w' => ∃ A' c', e = .returned (.tuple #[.agg #[.slice A' r.1.length c'], .int .i64 r.2]) ∧ Own eInt 3 w' W.heap.size (.slice A' r.1.length c') r.1 ∧ r.1.length ≤ c' ∧ Below W.heap.size W w') := fun W hW => by
      have := callSHoldTake Ah ch h kind size W w1.heap.size hW.size (by omega) (HH.out.below hW)
      rw [← hr] at this; exact this
    have hrl : r.1.length ≤ 4 := by rw [hr]; exact holdTake_len _ _ _
    have E3 : ∀ (ys : List Int), ys.length ≤ 100 → ∀ (A A' : Option Addr) (c c' : Nat) (W : World), Rd eInt W W.heap.size A ys → Rd eInt W W.heap.size A' ys → Hid (Calls Try.prog 24 #[.slice A ys.length c, .slice A' ys.length c'] W fun e w' => e = .returned (.bool true) ∧ Below W.heap.size W w') := fun ys hy A A' c c' W h1 h2 => by
      have := callSameInts A A' c c' ys ys W W.heap.size (Nat.le_refl _) (by omega) (by omega) h1 h2
      rw [show decide (ys = ys) = true from decide_eq_true rfl] at this; exact this
    have HR := Lib.hid hr
    clear hr
    obtain ⟨xs, m⟩ := r
    simp only at hrl
    have hmm : (m != m) = false := by simp
    obtain ⟨x1, x2, x3⟩ := cell1 HXa.out
    go_wp2_with fail
    refine (T1 _ HBa.out).out.mono ?_
    rintro e w2 ⟨Ax, cx, rfl, hown2, hc2, hb2⟩
    have hb2a := bel_trans hb2 (below1 w2 (.cells #[.slice Ax xs.length cx] 25))
    have HB2 := Lib.hid (bel_trans HBa.out hb2a)
    have HX2 := Lib.hid (blkc HXa.out hb2a)
    have HY2 := Lib.hid (heap_alloc_new w2 (.cells #[.slice Ax xs.length cx] 25))
    have HR2 := Lib.hid (hown2.alloc (.cells #[.slice Ax xs.length cx] 25)).rd
    clear hb2 hb2a hown2 x1 x2 x3 T1
    obtain ⟨x1, x2, x3⟩ := cell1 HX2.out
    go_wp2_with fail
    refine (T2 _ HB2.out).out.mono ?_
    rintro e w3 ⟨Ay, cy, rfl, hown3, hc3, hb3⟩
    have hb3a := bel_trans hb3 (below1 w3 (.cells #[.slice Ay xs.length cy] 25))
    have HB3 := Lib.hid (bel_trans HB2.out hb3a)
    have HX3 := Lib.hid (blkc HX2.out hb3a)
    have HY3 := Lib.hid (blkc HY2.out hb3a)
    have HZ3 := Lib.hid (heap_alloc_new w3 (.cells #[.slice Ay xs.length cy] 25))
    have HR3 := Lib.hid (HR2.out.next hb3a)
    have HS3 := Lib.hid (hown3.alloc (.cells #[.slice Ay xs.length cy] 25)).rd
    clear hb3 hb3a hown3 x1 x2 x3 T2 HX2 HY2 HR2
    obtain ⟨y1, y2, y3⟩ := cell1 HY3.out
    go_wp2_with fail
    refine (E3 xs (by omega) Ax Ay cx cy _ HR3.out HS3.out).out.mono ?_
    rintro e w4 ⟨rfl, hb4⟩
    have HB4 := Lib.hid (bel_trans HB3.out hb4)
    have HX4 := Lib.hid (blkc HX3.out hb4)
    have HY4 := Lib.hid (blkc HY3.out hb4)
    have HR4 := Lib.hid (HR3.out.next hb4)
    have HH4 := Lib.hid (HH.out.below HB4.out)
    have hs4 : w1.heap.size ≤ w4.heap.size := HB4.out.size
    clear hb4 y1 y2 y3 HX3 HY3 HZ3 HR3 HS3
    obtain ⟨x1, x2, x3⟩ := cell1 HX4.out
    obtain ⟨y1, y2, y3⟩ := cell1 HY4.out
    by_cases hm0 : m < 0
    · have e := holdTake_neg (h := h) (kind := kind) (size := size) (by rw [← HR.out]; exact hm0)
      rw [← HR.out] at e
      injection e with e1 e2
      subst e1
      subst e2
      clear hm0
      go_wp2_with fail
      refine (callAlive _).mono ?_
      rintro e w9 ⟨rfl, hb9⟩
      go_wp2
      go_ret
      exact ⟨rfl, bel_trans HB1.out (bel_trans HB4.out hb9)⟩
    · have d0 : decide (m < 0) = false := decide_eq_false hm0
      obtain ⟨hok, hpos, e⟩ := holdTake_pos (h := h) (kind := kind) (size := size) (by rw [← HR.out]; exact hm0)
      rw [← HR.out] at e
      have HOK := Lib.hid hok
      have HE := Lib.hid e
      obtain ⟨b, off, rfl, hbB, h1⟩ := HH4.out.at1 (k := 0) rfl hpos rfl
      simp only [Nat.add_zero] at h1
      have hi0 : (0 : Int) < (h.length : Int) := by omega
      clear e hok hm0
      by_cases k1 : kind = 1
      · have e := HE.out
        rw [if_pos k1] at e
        injection e with e1 e2
        subst e1
        rw [← e2] at h1
        have n1 : (kind == 1) = true := by rw [k1]; rfl
        have hq : (m == m) = true := by simp
        clear k1 e2
        go_wp2_with fail
        refine (E3 xs (by omega) Ax (some ⟨b, off, none⟩) cx ch _ HR4.out (HH4.out.mono hs4)).out.mono ?_
        rintro e w5 ⟨rfl, hb5⟩
        have HB5 := Lib.hid (bel_trans HB4.out hb5)
        have h15 := (hb5.cell (p := ⟨b, off, none⟩) (by show b < w4.heap.size; omega)).trans h1
        obtain ⟨z1, z2, z3⟩ := cell1 (blkc HX4.out hb5)
        clear hb5 h1 x1 x2 x3 y1 y2 y3
        go_wp2
        go_ret
        exact ⟨rfl, bel_trans HB1.out HB5.out⟩
      · have e := HE.out
        rw [if_neg k1] at e
        injection e with e1 e2
        have n1 : (kind == 1) = false := by rw [beq_eq_false_iff_ne]; exact k1
        have HK1 := Lib.hid k1
        have HXS := Lib.hid e1
        have HM := Lib.hid e2
        clear k1 e1 e2 h1
        have hl4 : h.length ≤ 4 := holdOk_len HOK.out
        have HZ5 := Lib.hid (heap_alloc_new w4 (.cells #[.slice none 0 0] 25))
        have HB5 := Lib.hid (bel_trans HB4.out (below1 w4 (.cells #[.slice none 0 0] 25)))
        have HX5 := Lib.hid (blkc HX4.out (below1 w4 (.cells #[.slice none 0 0] 25)))
        have HY5 := Lib.hid (blkc HY4.out (below1 w4 (.cells #[.slice none 0 0] 25)))
        have HR5 := Lib.hid (HR4.out.below (below1 w4 (.cells #[.slice none 0 0] 25)))
        go_wp2_with fail
        obtain ⟨v5, hv5⟩ : ∃ v5, v5 = w4.alloc (.cells #[.slice none 0 0] 25) := ⟨_, rfl⟩
        obtain ⟨Z, hZ⟩ : ∃ Z, Z = w4.heap.size := ⟨_, rfl⟩
        have hZv : Z + 1 ≤ v5.heap.size := by rw [hv5, hZ]; simp
        rw [← hv5] at HZ5 HB5 HX5 HY5 HR5 ⊢
        rw [← hZ] at HZ5 HR5 x3 y3 hs4 ⊢
        have hyz : w2.heap.size < Z := y3
        have hxz : w1.heap.size < Z := x3
        clear hv5 hZ x1 x2 x3 y1 y2 y3 HX4 HY4 HR4 HB4
        go_loopw [11] (fun i wr => ∃ (k : Nat) (A : Option Addr) (c : Nat) (ys : List Int), k ≤ h.length ∧ i = .int .i64 k ∧ Below Z v5 wr ∧ v5.heap.size ≤ wr.heap.size ∧ Hid (ys = h.take k ∧ wr.heap[Z]? = some (.cells #[.slice A ys.length c] 25 (0, 0)) ∧ Rd eInt wr wr.heap.size A ys ∧ ys.length ≤ c ∧ wr.heap[w1.heap.size]? = some (.cells #[.slice (some ⟨b, off, none⟩) h.length ch] 25 (0, 0)))) (fun i _ => h.length - (intOf i).toNat)
        case atStart => exact ⟨0, none, 0, [], by omega, rfl, Below.refl _ _, Nat.le_refl _, rfl, HZ5.out, Rd.nil, Nat.le_refl _, HX5.out⟩
        case round =>
          obtain ⟨k, A, c, ys, hk, rfl, hbl, hsz, HQ⟩ := hrel
          have HB := Lib.hid hbl
          have HBW := Lib.hid (HB5.out.trans (hbl.mono hs4))
          clear hbl
          have hyl : ys.length ≤ 4 := by rw [HQ.out.1, List.length_take]; omega
          obtain ⟨z1, z2, z3⟩ := cell1 HQ.out.2.1
          obtain ⟨x1, x2, x3⟩ := cell1 HQ.out.2.2.2.2
          by_cases hlt : k < h.length
          · have hd : decide ((k : Int) < h.length) = true := decide_eq_true (by omega)
            obtain ⟨b', off', hA, _, h1⟩ := (HH.out.below HBW.out).at1 rfl hlt rfl
            simp only [Option.some.injEq, Addr.mk.injEq, and_true] at hA
            obtain ⟨rfl, rfl⟩ := hA
            have hb1 : b < wr.heap.size := by omega
            obtain ⟨zs, hzs⟩ : ∃ zs, zs = h.take (k + 1) := ⟨_, rfl⟩
            obtain ⟨y, hy⟩ : ∃ y, y = h[k] := ⟨_, rfl⟩
            have HSS : Hid ((holdSend ys kind size y).1 = zs) := by show _ = _; rw [HQ.out.1, hzs, hy]; exact holdSend_step HK1.out HOK.out hlt
            obtain ⟨tl, htl⟩ : ∃ tl, tl = (holdSend ys kind size y).2 := ⟨_, rfl⟩
            have C : ∀ W, Below wr.heap.size wr W → Hid (Calls Try.prog 14 #[.agg #[.slice A ys.length c], .int .i64 kind, .int .i64 size, .int .i64 y] W fun e w' => ∃ A' c', e = .returned (.tuple #[.agg #[.slice A' zs.length c'], .int .i64 tl]) ∧ Own eInt 3 w' W.heap.size (.slice A' zs.length c') zs ∧ zs.length ≤ c' ∧ Below W.heap.size W w') := fun W hW => by
              have := callHoldSend A c ys kind size y W wr.heap.size hW.size HQ.out.2.2.2.1 (by omega) (HQ.out.2.2.1.below hW)
              rw [HSS.out, ← htl] at this; exact this
            rw [← hy] at h1
            have HZS := Lib.hid hzs
            have D0 : Hid (Below wr.heap.size wr wr.drew) := (Below.refl _ _).drew
            have D1 : Hid (Below wr.heap.size wr (wr.alloc (.cells #[.slice none 0 0] 25)).drew) := (below1 wr _).drew
            have hk0 : (0 : Int) ≤ (k : Int) := by omega
            have hk1 : (k : Int) < (h.length : Int) := by omega
            clear hy hzs htl HSS
            go_wp2_with fail
            go_cut [12] from 77 to 96 (fun s12 wx => ∃ z A' c', s12 = .pointer (some ⟨z, 0, none⟩) ∧ Hid (Below wr.heap.size wr wx ∧ wr.heap.size ≤ z ∧ wx.heap[z]? = some (.cells #[.slice A' zs.length c'] 25 (0, 0)) ∧ Own eInt 3 wx wr.heap.size (.slice A' zs.length c') zs ∧ zs.length ≤ c'))
            case first =>
              go_region_with (go_at_call 14; first | ((with_reducible refine (C wr.drew D0.out).out.mono ?_); rintro e w5 ⟨A5, c5, rfl, hown5, hc5, hb5⟩; have hm5 := True.intro) | ((with_reducible refine (C (wr.alloc (.cells #[.slice none 0 0] 25)).drew D1.out).out.mono ?_); rintro e w5 ⟨A5, c5, rfl, hown5, hc5, hb5⟩; have hm5 := blkc (w := (wr.alloc (.cells #[.slice none 0 0] 25)).drew) (heap_alloc_new wr _) hb5; obtain ⟨m1, m2, m3⟩ := cell1 hm5))
              all_goals (go_wp2_with fail; go_meet)
              all_goals first | exact hold_after hb5 hown5 hc5 | exact hold_ahead hb5 hown5 hc5
            case rest =>
              obtain ⟨z, A', c', rfl, HC⟩ := hcut
              clear C D0 D1 z1 z2 x1 x2 x3 h1
              obtain ⟨m1, m2, m3⟩ := cell1 HC.out.2.2.1
              have HZc := Lib.hid (blkc HQ.out.2.1 HC.out.1)
              obtain ⟨z1, z2, z4⟩ := cell1 HZc.out
              have hzZ : w1.heap.size ≠ Z := by omega
              have H7 : Hid ((wc.setCell ⟨Z, 0, none⟩ (.slice A' zs.length c')).heap[Z]? = some (.cells #[.slice A' zs.length c'] 25 (0, 0))) := set1 HZc.out
              have H8 : Hid (Rd eInt (wc.setCell ⟨Z, 0, none⟩ (.slice A' zs.length c')) (wc.setCell ⟨Z, 0, none⟩ (.slice A' zs.length c')).heap.size A' zs) := (HC.out.2.2.2.1.kept (gset 0 _) (fun k hk => by cases hk; exact z3)).rd
              have H9 : Hid ((wc.setCell ⟨Z, 0, none⟩ (.slice A' zs.length c')).heap[w1.heap.size]? = some (.cells #[.slice (some ⟨b, off, none⟩) h.length ch] 25 (0, 0))) := blko (blkc HQ.out.2.2.2.2 HC.out.1) _ hzZ
              have H10 : Hid (Below Z v5 (wc.setCell ⟨Z, 0, none⟩ (.slice A' zs.length c'))) := (HB.out.trans (HC.out.1.mono (by omega))).setCell (Nat.le_refl _) _
              have hsz2 : v5.heap.size ≤ (wc.setCell ⟨Z, 0, none⟩ (.slice A' zs.length c')).heap.size := by have := HC.out.1.size; simp; omega
              have HSZ2 := Lib.hid hsz2
              clear hsz2
              go_wp2_with fail
              go_roundw
              case rel => exact ⟨k + 1, A', c', zs, by omega, by go_num, H10.out, HSZ2.out, HZS.out, H7.out, H8.out, HC.out.2.2.2.2, H9.out⟩
              case measure => simp [intOf]; omega
          · have hke : k = h.length := by omega
            subst hke
            have hd : decide ((h.length : Int) < h.length) = false := by simp
            have hyh : ys = h := by rw [HQ.out.1, List.take_length]
            subst hyh
            have HRY := HQ.out.2.2.1
            have HRX : Hid (Rd eInt wr wr.heap.size Ax xs) := (HR5.out.below HB.out).mono (by omega)
            have HRH : Hid (Rd eInt wr wr.heap.size (some ⟨b, off, none⟩) ys) := (HH.out.below HBW.out).mono HBW.out.size
            have HYB := Lib.hid (blk0 HY5.out HB.out hyz)
            have HEQ : Hid ([m] ++ xs = ys) := by
              show _ = _
              rw [HXS.out, HM.out]
              cases ys with
              | nil => simp at hpos
              | cons a at1 => rfl
            have HOX : Hid (holdOk xs kind size = true) := by
              obtain ⟨p1, p2, p3⟩ := holdOk_iff.1 HOK.out
              exact holdOk_iff.2 ⟨p1, by rw [HXS.out, List.length_drop]; omega, fun x hx => p3 x (List.mem_of_mem_drop (by rw [← HXS.out]; exact hx))⟩
            have HL := Lib.hid (Own.lit (E := eInt) (base := wr.heap.size) (xs := [m]) wr 3 #[.int .i64 m] (Nat.le_refl _) (by simp) rfl)
            have hroom1 : Hid ([m].length + xs.length ≤ 1073741824) := by show 1 + xs.length ≤ _; omega
            have hbase1 : Hid (wr.heap.size ≤ (wr.alloc (.cells #[.int .i64 m] 3)).drew.heap.size) := by show _ ≤ (wr.alloc _).heap.size; simp
            have DB : Hid (Below wr.heap.size wr (wr.alloc (.cells #[.int .i64 m] 3)).drew) := (below1 wr _).drew
            have HRXd : Hid (Rd eInt (wr.alloc (.cells #[.int .i64 m] 3)).drew (wr.alloc (.cells #[.int .i64 m] 3)).drew.heap.size Ax xs) := HRX.out.next DB.out
            obtain ⟨y1, y2, y3⟩ := cell1 HYB.out
            have E3h := E3 ys (by omega)
            have KK1 : Hid (∀ W, Below wr.heap.size wr W → W.cell? ⟨w2.heap.size, 0, none⟩ = some (.slice Ax xs.length cx) ∧ W.cell? ⟨w1.heap.size, 0, none⟩ = some (.slice (some ⟨b, off, none⟩) ys.length ch) ∧ W.cell? ⟨Z, 0, none⟩ = some (.slice A ys.length c)) := fun W hW =>
              ⟨(cell1 (blkc HYB.out hW)).1, (cell1 (blkc HQ.out.2.2.2.2 hW)).1, (cell1 (blkc HQ.out.2.1 hW)).1⟩
            have kk0 := KK1.out wr (Below.refl _ _)
            have VV : Hid (∀ W, Below wr.heap.size wr W → Calls Try.prog 11 #[.agg #[.slice Ax xs.length cx], .int .i64 kind, .int .i64 size] W fun e w' => e = .returned (.bool true) ∧ Below W.heap.size W w') := fun W hW => by
              have := callHoldValid Ax cx xs kind size W wr.heap.size hW.size (by omega) (HRX.out.below hW)
              rw [HOX.out] at this; exact this
            have S1 : Hid (∀ (A7 : Option Addr) (c7 : Nat) W, Below wr.heap.size wr W → Rd eInt W W.heap.size A7 ys → Calls Try.prog 24 #[.slice A7 ys.length c7, .slice (some ⟨b, off, none⟩) ys.length ch] W fun e w' => e = .returned (.bool true) ∧ Below W.heap.size W w') := fun A7 c7 W hW h7 => (E3h A7 (some ⟨b, off, none⟩) c7 ch W h7 (HRH.out.next hW)).out
            clear x1 x2 x3 z1 z2 z3 y1 y2 y3
            go_wp2_with fail
            go_region_held_law (fun w' => w'.cell? ⟨w2.heap.size, 0, none⟩ = some (.slice Ax xs.length cx) ∧ w'.cell? ⟨w1.heap.size, 0, none⟩ = some (.slice (some ⟨b, off, none⟩) ys.length ch) ∧ w'.cell? ⟨Z, 0, none⟩ = some (.slice A ys.length c))
              (first | exact kk0 | exact kk1 | exact kk7 | exact kk8 | exact kk9 | exact kk10 | go_keep)
              (first
                | (refine step_app (n := xs.length) (c := cx) eiInt rfl (.tmp 98) (.tmp 100) rfl wr.heap.size HL.out.drew HRXd.out rfl (by simp [Act.eval, Act.put]) (by simp [Act.eval, Act.put]) hroom1.out hbase1.out ?_; intro v' w7 row hown7' hg7 hrow7; have hown7 : Own eInt 3 w7 wr.heap.size v' ys := (by rw [← HEQ.out]; exact hown7'); obtain ⟨A7, c7, hv7, hc7, _⟩ := hown7.form; subst hv7; have HB7 : Hid (Below wr.heap.size wr w7) := (DB.out.trans (below_of_row hg7 (fun k hk => (hrow7 k hk).1) hbase1.out)); have kk7 := KK1.out w7 HB7.out; have C7 := S1.out A7 c7 w7 HB7.out hown7.rd; clear hown7 hown7' hg7 hrow7)
                | (go_at_call 24; (with_reducible refine C7.mono ?_); rintro e w8 ⟨rfl, hb8⟩; have HB8 := Lib.hid (bel_trans HB7.out hb8); have kk8 := KK1.out w8 HB8.out; have C8 := S1.out A c w8 HB8.out (HQ.out.2.2.1.next HB8.out))
                | (go_at_call 24; (with_reducible refine C8.mono ?_); rintro e w9 ⟨rfl, hb9⟩; have HB9 := Lib.hid (bel_trans HB8.out hb9); have kk9 := KK1.out w9 HB9.out; have C9 := VV.out w9 HB9.out)
                | (go_at_call 11; (with_reducible refine C9.mono ?_); rintro e w10 ⟨rfl, hb10⟩; have HB10 := Lib.hid (bel_trans HB9.out hb10); have kk10 := KK1.out w10 HB10.out))
            all_goals (try go_wp2)
            all_goals
              go_ret
              exact ⟨rfl, bel_trans HB1.out (HBW.out.trans (HB10.out.mono HBW.out.size))⟩
  · have hl' : 1048576 < bs.length := by omega
    clear hr hby hl
    go_enter Try.func9, Try.ntmps9
    go_wp2
    go_ret
    exact ⟨rfl, Below.refl _ _⟩
end Go.Proofs.Ytonhkadbiepedaa
