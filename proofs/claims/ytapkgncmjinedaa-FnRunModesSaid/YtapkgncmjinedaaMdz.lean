/- What the drawing function DrawRunModes leaves. -/
import Derived.Test.YtapkgncmjinedaaMrs
import Derived.Test.YtapkgncmjinedaaMdx
namespace Go.Proofs.Ytapkgncmjinedaa
open Go.RowKit Go.Sort
theorem DM.app {w wx w' : World} {g M X B : Nat} {A : Option Addr} {c : Nat} {ts : List Tab} {now next : Int} {row : Option Nat} {v : Value} (s : DM w g M X B A c ts now next wx) (hg : wx.grownBy w' row)
    (hr : ∀ k, row = some k → B ≤ k ∧ v.ownBlock = some k ∧ ∃ cur, wx.heap[k]? = some (.cells cur 3 (0, 0))) : DM w g M X B A c ts now next w' := by
  have h1 := s.hg
  have h2 := s.hB
  have h3 := s.rdr.lt
  have hne : some X ≠ row := fun e => by
    obtain ⟨_, _, cur, h'⟩ := hr _ e.symm
    rw [s.box] at h'
    injection h' with h'
    injection h' with _ h'
    exact absurd h' (by decide)
  exact ⟨s.rdr.grown hg (fun k hk => by have := (hr k hk).1; omega), s.bel.grown hg (by omega) (fun k hk => by have := (hr k hk).1; omega), gblk hg s.res (fun e => by have := (hr _ e.symm).1; omega), gblk hg s.box hne, s.own.otherI hg (fun k hk => by obtain ⟨_, _, cur, h⟩ := hr k hk; exact ⟨cur, _, h⟩), h1, h2, s.hX⟩
theorem DM.keep {w wx w' : World} {g M X B : Nat} {A : Option Addr} {c : Nat} {ts : List Tab} {now next : Int} (s : DM w g M X B A c ts now next wx) (hb : Below wx.heap.size wx w') : DM w g M X B A c ts now next w' :=
  ⟨s.rdr.next hb, bel_trans s.bel hb, blkc s.res hb, blkc s.box hb, s.own.next hb, s.hg, s.hB, s.hX⟩
theorem DM.more {w wx : World} {g M M' X B : Nat} {A : Option Addr} {c : Nat} {ts : List Tab} {now next : Int} (s : DM w g M X B A c ts now next wx) (hM : M ≤ M') : DM w g M' X B A c ts now next wx :=
  ⟨s.rdr.more hM, s.bel, s.res, s.box, s.own, s.hg, s.hB, s.hX⟩
set_option maxRecDepth 100000 in
set_option maxHeartbeats 3200000 in
theorem callDrawRunModes (A : Option Addr) (c : Nat) (bs : List Int) (w : World) (hc : bs.length ≤ c) (hm : bs.length ≤ 1048576) (hr : Rd eU8 w w.heap.size A bs) (hby : ∀ x ∈ bs, 0 ≤ x ∧ x ≤ 255) :
    Calls Try.prog 15 #[.slice A bs.length c] w fun e w' =>
      ∃ A c ts now next p Aa ca asks, e = .returned (.tuple #[.agg #[.slice A (ts : List Tab).length c, .int .i64 now, .int .i64 next], .int .i64 p, .slice Aa (asks : List Int).length ca]) ∧ RdT w' w'.heap.size A ts ∧ CapT ts ∧ ts.length ≤ c ∧ ts.length ≤ 4 ∧ 1 ≤ p ∧ p ≤ 3 ∧ Rd eInt w' w'.heap.size Aa asks ∧ asks.length ≤ ca ∧ asks.length ≤ 11 ∧ Below w.heap.size w w' := by
  have HZ := Lib.hid (heap_alloc_new w (.cells #[.slice none 0 0, .int .i64 0, .int .i64 0] 25))
  go_enter Try.func15, Try.ntmps15
  go_wp2_with fail
  refine (callOpen A c bs _ hc hm (hr.alloc _) hby).mono ?_
  rintro e w1 ⟨rfl, hr1, hb1⟩
  have hr1' : Rdr w1 (w.heap.size + 1) 0 := by simpa using hr1
  have HB := Lib.hid (bel_trans (below1 _ _) hb1)
  have HZ1 := Lib.hid (blkc HZ.out hb1)
  have HR := Lib.hid hr1'
  have hs0 : w.heap.size + 1 < w1.heap.size := hr1'.lt
  clear hr1 hr1' hb1 hr HZ
  simp only [World.size_alloc]
  go_wp2_with fail
  refine (callDrawModes (w.heap.size + 1) 0 14 w1 HR.out (by omega)).mono ?_
  rintro e w2 ⟨Am, cm, ts, now, next, p, rfl, ho, hl4, hp1, hp2, _, _, _, _, hr2, hg2⟩
  have hs2 : w1.heap.size ≤ w2.heap.size := hg2.size
  have S2 : Hid (DM w (w.heap.size + 1) 200 w2.heap.size w1.heap.size Am cm ts now next (w2.alloc (.cells #[.slice Am ts.length cm, .int .i64 now, .int .i64 next] 25))) :=
    ⟨(hr2.alloc _).more (by omega), (HB.out.grown hg2 (by omega) (fun k hk => by cases hk; omega)).alloc (by omega) _, blkc (gblk hg2 HZ1.out (by simp)) (below1 w2 _), heap_alloc_new w2 _, ho.alloc _, by omega, hs0, by omega⟩
  clear ho hr2 hg2 HR HB HZ1
  go_upto_region 3 with (fail)
  obtain ⟨X, hX⟩ : ∃ X, X = w2.heap.size := ⟨_, rfl⟩
  obtain ⟨u, hu⟩ : ∃ u, u = w2.alloc (.cells #[.slice Am ts.length cm, .int .i64 now, .int .i64 next] 25) := ⟨_, rfl⟩
  have hsu : w1.heap.size ≤ u.heap.size := by rw [hu]; simp; omega
  rw [← hX] at S2 ⊢
  rw [← hu] at S2 ⊢
  clear hu hX hs2
  have S3 := Lib.hid (S2.out.keep (below1 u (.cells #[] 3)))
  obtain ⟨G, hG⟩ : ∃ G, G = w.heap.size + 1 := ⟨_, rfl⟩
  obtain ⟨B, hB⟩ : ∃ B, B = w1.heap.size := ⟨_, rfl⟩
  rw [← hG] at S3 ⊢
  rw [← hB] at S3 hsu
  have hGB : G < B := by omega
  clear S2 hs0 hG hB
  go_wp2_with fail
  refine (callPick _ _ _ _ S3.out.rdr (by omega)).mono ?_
  rintro e w4 ⟨j0, rfl, b1, b2, _, hr4, hg4⟩
  obtain ⟨j0, rfl⟩ := Int.eq_ofNat_of_zero_le b1
  have hj0 : j0 ≤ 5 := by have := b2 (by omega); omega
  have S4 := Lib.hid (S3.out.step hr4 hg4)
  have hs4 : B ≤ w4.heap.size := by have := hg4.size; simp at this; omega
  clear hr4 hg4 S3 b2
  go_wp2_with fail
  go_loopw [8, 9] (fun s8 i wr => ∃ (j : Nat) (Ai : Option Addr) (ci : Nat) (xs : List Int), i = .int .i64 j ∧ s8 = .slice Ai xs.length ci ∧ xs.length + j = j0 ∧ xs.length ≤ ci ∧ B ≤ wr.heap.size ∧ Hid (Own eInt 3 wr B (.slice Ai xs.length ci) xs) ∧ Hid (DM w G (201 + xs.length) X B Am cm ts now next wr)) (fun _ i _ => (intOf i).toNat)
  case atStart => exact ⟨j0, _, 0, [], rfl, rfl, by simp, Nat.le_refl _, hs4, Own.none_, S4.out⟩
  case round =>
    clear S4
    obtain ⟨j, Ai, ci, xs, rfl, rfl, hjl, hci, hBr, HO, SR⟩ := hrel
    by_cases hj : 0 < j
    · obtain ⟨j', rfl⟩ : ∃ j', j = j' + 1 := ⟨j - 1, by omega⟩
      go_wp2_with fail
      refine (callPick _ _ _ _ SR.out.rdr (by omega)).mono ?_
      rintro e w5 ⟨q, rfl, e1, e2, _, hr5, hg5⟩
      have hq : q < 5 := e2 (by omega)
      have hwq : IntKind.i64.wrap (q - 1) = q - 1 := IntWalk.i64_in _ (by omega)
      have S5 := Lib.hid (SR.out.step hr5 hg5)
      have HO5 := Lib.hid (HO.out.kept hg5 (fun k hk => by cases hk; exact hGB))
      have hs5 : B ≤ w5.heap.size := by have := hg5.size; omega
      clear hr5 hg5 e2 SR HO
      go_wp2_with (at_builtin; refine wpList_app _ eiInt rfl (.tmp 24) (.tmp 28) rfl B (HO5.out.alloc _) (Rd.new (E := eInt) (xs := [q - 1]) _ _ _ rfl) rfl rfl rfl (by simp; omega) (by simp; omega) ?_; intro v' w6 row hown6 hg6 hrow6; obtain ⟨A6, c6, hv6, hc6, _⟩ := hown6.form; subst hv6)
      go_roundw
      case rel => exact ⟨j', A6, c6, xs ++ [q - 1], by go_num, by simp, by simp; omega, hc6, by have := hg6.size; simp at this; omega, hown6, ((S5.out.keep (below1 w5 _)).app hg6 hrow6).more (by simp; omega)⟩
      case measure => simp [intOf]
    · have hj0' : j = 0 := by omega
      subst hj0'
      go_wp2_with fail
      refine (callOdd _ _ _ _ SR.out.rdr (by omega)).mono ?_
      rintro e w5 ⟨o1, rfl, hr5, hg5⟩
      have S5 := Lib.hid (SR.out.step hr5 hg5)
      have HO5 := Lib.hid (HO.out.kept hg5 (fun k hk => by cases hk; exact hGB))
      have hs5 : B ≤ w5.heap.size := by have := hg5.size; omega
      clear hr5 hg5 SR HO
      have hwB : w.heap.size < B := by have := S5.out.hg; omega
      cases o1
      · obtain ⟨x0, x1, x2, x3, x4, x5, x6⟩ := cell3 S5.out.box
        obtain ⟨r0, r1, r2, r3, r4, r5, r6⟩ := cell3 S5.out.res
        have HF := Lib.hid S5.out.fin
        have HOF := Lib.hid ((HO5.out.kept (gset3 (g := w.heap.size) (.slice Am ts.length cm) (.int .i64 now) (.int .i64 next)) (fun k hk => by cases hk; exact hwB)).rd)
        obtain ⟨f0, f1, f2⟩ := res3 S5.out.res (.slice Am ts.length cm) (.int .i64 now) (.int .i64 next)
        go_wp2_with fail
        exact bodyPost_ret (v := .tuple #[.agg #[.slice Am ts.length cm, .int .i64 now, .int .i64 next], .int .i64 p, .slice Ai xs.length ci]) (by simp [results, Try.results15, go_sem, f0, f1, f2]) rfl ⟨Am, cm, ts, now, next, p, Ai, ci, xs, rfl, HF.out.1.rd, HF.out.1.cap, HF.out.1.len, hl4, hp1, hp2, HOF.out, hci, by omega, HF.out.2⟩
      · go_wp2_with (at_make; refine wpList_mkE (E := eInt) _ Try.underlying26 (z := .int .i64 0) (m := 8) (by kernel_rfl) (by decide) (0 : Int) rfl rfl _ _ rfl B 11 11 11 rfl rfl rfl rfl (by decide) hs5 ?_; intro w6 hown6 hb6; have S6 := Lib.hid (S5.out.keep hb6); have HO6 := Lib.hid hown6; clear hown6 hb6; obtain ⟨x0, x1, x2, x3, x4, x5, x6⟩ := cell3 S6.out.box; obtain ⟨r0, r1, r2, r3, r4, r5, r6⟩ := cell3 S6.out.res)
        have HF := Lib.hid S6.out.fin
        have HOF := Lib.hid ((HO6.out.kept (gset3 (g := w.heap.size) (.slice Am ts.length cm) (.int .i64 now) (.int .i64 next)) (fun k hk => by cases hk; exact hwB)).rd)
        obtain ⟨f0, f1, f2⟩ := res3 S6.out.res (.slice Am ts.length cm) (.int .i64 now) (.int .i64 next)
        exact bodyPost_ret (v := .tuple #[.agg #[.slice Am ts.length cm, .int .i64 now, .int .i64 next], .int .i64 p, .slice _ 11 11]) (by simp [results, Try.results15, go_sem, f0, f1, f2]) rfl ⟨Am, cm, ts, now, next, p, _, 11, List.replicate 11 0, rfl, HF.out.1.rd, HF.out.1.cap, HF.out.1.len, hl4, hp1, hp2, HOF.out, by simp, by simp, HF.out.2⟩
end Go.Proofs.Ytapkgncmjinedaa
