/- The end of a log, and the sum before it, for every input. -/
import Derived.Test.YtapkgncmjinedaaAux
import Derived.Deep.RegionHeldLaw
namespace Go.Proofs.Ytapkgncmjinedaa
open Go.RowKit Go.Sort

theorem since_bad {key : Int} {es : List Int} {sum n : Int} (h : (auditOk key es sum && inB n 0 es.length) = false) : auditSince key es sum n = ([], -1) := by unfold auditSince; rw [h]; rfl
theorem since_good {key : Int} {es : List Int} {sum : Int} {m : Nat} (h : auditOk key es sum = true) (hn : inB (m : Int) 0 es.length = true) : auditSince key es sum m = (es.drop m, mixF key (es.take m)) := by unfold auditSince; rw [h, hn]; rfl
/-- What AuditSince leaves. -/
def SinOut (w : World) (r : List Int × Int) (e : Ending) (w' : World) : Prop :=
  ∃ A c, e = .returned (.tuple #[.slice A r.1.length c, .int .i64 r.2]) ∧ Own eInt 3 w' w.heap.size (.slice A r.1.length c) r.1 ∧ r.1.length ≤ c ∧ Below w.heap.size w w'
theorem callCopyTail (A : Option Addr) (n c : Nat) (xs : List Int) (w : World) (B : Nat) (hB : B ≤ w.heap.size) (hc : xs.length ≤ c) (hm : xs.length ≤ 1048576) (hn : n ≤ xs.length) (hr : Rd eInt w B A xs) :
    Calls Try.prog 64 #[.slice (if c = n then A else A.map (·.add n)) (xs.length - n) (c - n)] w fun e w' => ∃ A', e = .returned (.slice A' (xs.drop n).length (xs.drop n).length) ∧ Own eInt 3 w' w.heap.size (.slice A' (xs.drop n).length (xs.drop n).length) (xs.drop n) ∧ Below w.heap.size w w' := by
  have e : (xs.drop n).length = xs.length - n := List.length_drop ..
  have hd := hr.drop (m := n) hc
  have hs : (n * eInt.sz) = n := Nat.mul_one n
  rw [hs] at hd
  have := callCopyInt (if c = n then A else A.map (·.add n)) (c - n) (xs.drop n) w B hB (by omega) (by omega) hd
  rw [e] at this ⊢
  exact this
set_option maxRecDepth 100000 in
set_option maxHeartbeats 3200000 in
theorem callAuditSince (A : Option Addr) (c : Nat) (es : List Int) (key sum n : Int) (w : World) (B : Nat) (hB : B ≤ w.heap.size) (hc : es.length ≤ c) (hm : es.length ≤ 1048576) (hr : Rd eInt w B A es) :
    Calls Try.prog 23 #[.agg #[.int .i64 key, .slice A es.length c, .int .i64 sum], .int .i64 n] w (SinOut w (auditSince key es sum n)) := by
  have K := Lib.hid (heap_alloc_new w (.cells #[.int .i64 key, .slice A es.length c, .int .i64 sum] 37))
  have HB := Lib.hid (below1 w (.cells #[.int .i64 key, .slice A es.length c, .int .i64 sum] 37))
  have V := Lib.hid (callAuditValid A c es key sum (w.alloc (.cells #[.int .i64 key, .slice A es.length c, .int .i64 sum] 37)) B (by simp; omega) hm (hr.below ((below1 _ _).mono hB)))
  have HBAD : Hid ((auditOk key es sum && inB n 0 es.length) = false → auditSince key es sum n = ([], -1)) := since_bad
  have HGOOD : Hid (∀ m : Nat, n = m → auditOk key es sum = true → inB n 0 es.length = true → auditSince key es sum n = (es.drop m, mixF key (es.take m))) := fun m e h h' => by
    subst e; exact since_good h h'
  have HRA := Lib.hid hr
  obtain ⟨r, hrr⟩ : ∃ r, r = auditSince key es sum n := ⟨_, rfl⟩
  rw [← hrr] at HBAD HGOOD ⊢
  clear hr hrr
  go_enter Try.func23, Try.ntmps23
  obtain ⟨x0, x1, x2, _, _, _, x6⟩ := cell3 K.out
  go_wp2_with fail
  refine V.out.mono ?_
  rintro e w2 ⟨rfl, hb2⟩
  have HB2 := Lib.hid (bel_trans HB.out hb2)
  have K2 := Lib.hid (blkc K.out hb2)
  clear hb2 x0 x1 x2 x6 V K HB
  obtain ⟨x0, x1, x2, _, _, _, x6⟩ := cell3 K2.out
  cases q1 : auditOk key es sum
  · obtain rfl := HBAD.out (by rw [q1]; rfl)
    go_wp2
    go_ret2
    exact ⟨none, 0, rfl, Own.none_, Nat.le_refl _, HB2.out⟩
  · cases q2 : inB n 0 es.length
    · obtain rfl := HBAD.out (by rw [q1, q2]; rfl)
      clear HBAD HGOOD q1
      go_wp2_with (go_at_call 62; refine (callIn _ _ _ _).mono ?_; rintro e w' ⟨rfl, rfl⟩)
      go_ret2
      exact ⟨none, 0, rfl, Own.none_, Nat.le_refl _, HB2.out⟩
    · have hn := inB_iff.1 q2
      obtain ⟨m, rfl⟩ := Int.eq_ofNat_of_zero_le hn.1
      have hml : m ≤ es.length := by omega
      have HG := Lib.hid (HGOOD.out m rfl q1 q2)
      have hkey := (auditOk_iff.1 q1).2.1
      have CL : Hid (∀ (Ad : Option Addr) (L C : Nat) (W : World), (if c = m then A else A.map (·.add m)) = Ad → es.length - m = L → c - m = C → Below w2.heap.size w2 W → Calls Try.prog 64 #[.slice Ad L C] W fun e w' => ∃ A', e = .returned (.slice A' (es.drop m).length (es.drop m).length) ∧ Own eInt 3 w' W.heap.size (.slice A' (es.drop m).length (es.drop m).length) (es.drop m) ∧ Below W.heap.size W w') := fun Ad L C W h1 h2 h3 hW => by
        rw [← h1, ← h2, ← h3]
        exact callCopyTail A m c es W B (Nat.le_trans hB (Nat.le_trans HB2.out.size hW.size)) hc hm hml ((HRA.out.below (HB2.out.mono hB)).below (hW.mono (Nat.le_trans hB HB2.out.size)))
      have CC : Hid (∀ W, Below w2.heap.size w2 W → Calls Try.prog 65 #[.int .i64 key, .slice A m c] W fun e w' => e = .returned (.int .i64 (mixF key (es.take m))) ∧ Below W.heap.size W w') := fun W hW => by
        have := callChain A c (es.take m) key W B (Nat.le_trans hB (Nat.le_trans HB2.out.size hW.size)) (by rw [List.length_take]; omega) hkey (((HRA.out.take m).below (HB2.out.mono hB)).below (hW.mono (Nat.le_trans hB HB2.out.size)))
        rw [List.length_take, Nat.min_eq_left hml] at this
        exact this
      obtain ⟨ds, hds⟩ : ∃ ds, ds = es.drop m := ⟨_, rfl⟩
      obtain ⟨sm, hsm⟩ : ∃ sm, sm = mixF key (es.take m) := ⟨_, rfl⟩
      rw [← hds] at CL HG
      rw [← hsm] at CC HG
      have i0 : (0 : Int) ≤ (m : Int) := by omega
      have i1 : (m : Int) ≤ (es.length : Int) := by omega
      have i2 : (es.length : Int) ≤ (c : Int) := by omega
      have i3 : (m : Int) ≤ (c : Int) := by omega
      clear hds hsm HBAD HGOOD q1 hkey
      go_upto_region 3 with (go_at_call 62; refine (callIn _ _ _ _).mono ?_; rintro e w' ⟨rfl, rfl⟩)
      by_cases hcm : c = m
      · subst hcm
        go_region_held3 (fun w' => w'.cell? ⟨w.heap.size, 0, none⟩ = some (.int .i64 key) ∧ w'.cell? ⟨w.heap.size, 1, none⟩ = some (.slice A es.length c) ∧ w'.cell? ⟨w.heap.size, 2, none⟩ = some (.int .i64 sum)) (first | exact ⟨x0, x1, x2⟩ | (refine ⟨?_, ?_, ?_⟩ <;> assumption) | assumption | go_keep)
          (first
            | (go_at_call 64; refine (CL.out _ _ _ w2.drew (by first | rw [if_pos rfl] | simp) (by omega) (by omega) (Below.refl _ _).drew).mono ?_; rintro e w4 ⟨A4, rfl, hown4, hb4'⟩; have HB4 : Hid (Below w2.heap.size w2 w4) := ⟨hb4'.os, hb4'.tape, hb4'.output, hb4'.size, hb4'.block⟩; have HO4 := Lib.hid hown4; clear hown4 hb4'; obtain ⟨n0, n1, n2, _, _, _, _⟩ := cell3 (blkc K2.out HB4.out))
            | (go_at_call 65; (with_reducible refine (CC.out w4 HB4.out).mono ?_); rintro e w5 ⟨rfl, hb5⟩; have HB5 := Lib.hid (bel_trans HB4.out hb5); have HO5 := Lib.hid (HO4.out.next hb5); clear hb5; obtain ⟨m0, m1, m2, _, _, _, _⟩ := cell3 (blkc K2.out HB5.out)))
        go_wp2_with fail
        go_ret2
        exact (by rw [HG.out]; exact ⟨A4, ds.length, rfl, HO5.out.more HB2.out.size, Nat.le_refl _, bel_trans HB2.out HB5.out⟩)
      · go_region_held3 (fun w' => w'.cell? ⟨w.heap.size, 0, none⟩ = some (.int .i64 key) ∧ w'.cell? ⟨w.heap.size, 1, none⟩ = some (.slice A es.length c) ∧ w'.cell? ⟨w.heap.size, 2, none⟩ = some (.int .i64 sum)) (first | exact ⟨x0, x1, x2⟩ | (refine ⟨?_, ?_, ?_⟩ <;> assumption) | assumption | go_keep)
          (first
            | (go_at_call 64; refine (CL.out _ _ _ w2.drew (by first | rw [if_neg hcm] | rw [if_pos hcm]) (by omega) (by omega) (Below.refl _ _).drew).mono ?_; rintro e w4 ⟨A4, rfl, hown4, hb4'⟩; have HB4 : Hid (Below w2.heap.size w2 w4) := ⟨hb4'.os, hb4'.tape, hb4'.output, hb4'.size, hb4'.block⟩; have HO4 := Lib.hid hown4; clear hown4 hb4'; obtain ⟨n0, n1, n2, _, _, _, _⟩ := cell3 (blkc K2.out HB4.out))
            | (go_at_call 65; (with_reducible refine (CC.out w4 HB4.out).mono ?_); rintro e w5 ⟨rfl, hb5⟩; have HB5 := Lib.hid (bel_trans HB4.out hb5); have HO5 := Lib.hid (HO4.out.next hb5); clear hb5; obtain ⟨m0, m1, m2, _, _, _, _⟩ := cell3 (blkc K2.out HB5.out)))
        go_wp2_with fail
        go_ret2
        exact (by rw [HG.out]; exact ⟨A4, ds.length, rfl, HO5.out.more HB2.out.size, Nat.le_refl _, bel_trans HB2.out HB5.out⟩)
set_option maxRecDepth 100000 in
set_option maxHeartbeats 3200000 in
theorem callSAuditSince (A : Option Addr) (c : Nat) (es : List Int) (key sum n : Int) (w : World) (B : Nat) (hB : B ≤ w.heap.size) (hc : es.length ≤ c) (hm : es.length ≤ 1000) (hr : Rd eInt w B A es) :
    Calls Try.prog 24 #[.agg #[.int .i64 key, .slice A es.length c, .int .i64 sum], .int .i64 n] w (SinOut w (auditSince key es sum n)) := by
  have K := Lib.hid (heap_alloc_new w (.cells #[.int .i64 key, .slice A es.length c, .int .i64 sum] 37))
  have HB := Lib.hid (below1 w (.cells #[.int .i64 key, .slice A es.length c, .int .i64 sum] 37))
  have V := Lib.hid (callSAuditValid A c es key sum (w.alloc (.cells #[.int .i64 key, .slice A es.length c, .int .i64 sum] 37)) B (by simp; omega) (by omega) (hr.below ((below1 _ _).mono hB)))
  have HBAD : Hid ((auditOk key es sum && inB n 0 es.length) = false → auditSince key es sum n = ([], -1)) := since_bad
  have HGOOD : Hid (∀ m : Nat, n = m → auditOk key es sum = true → inB n 0 es.length = true → auditSince key es sum n = (es.drop m, mixF key (es.take m))) := fun m e h h' => by
    subst e; exact since_good h h'
  have HRA := Lib.hid hr
  obtain ⟨r, hrr⟩ : ∃ r, r = auditSince key es sum n := ⟨_, rfl⟩
  rw [← hrr] at HBAD HGOOD ⊢
  clear hr hrr
  go_enter Try.func24, Try.ntmps24
  obtain ⟨x0, x1, x2, _, _, _, x6⟩ := cell3 K.out
  go_wp2_with fail
  refine V.out.mono ?_
  rintro e w2 ⟨rfl, hb2⟩
  have HB2 := Lib.hid (bel_trans HB.out hb2)
  have K2 := Lib.hid (blkc K.out hb2)
  clear hb2 x0 x1 x2 x6 V K HB
  obtain ⟨x0, x1, x2, _, _, _, x6⟩ := cell3 K2.out
  cases q1 : auditOk key es sum
  · obtain rfl := HBAD.out (by rw [q1]; rfl)
    go_wp2
    go_ret2
    exact ⟨some ⟨w2.heap.size, 0, none⟩, 0, rfl, Own.none_, Nat.le_refl _, bel_trans HB2.out (below1 _ _)⟩
  · cases q2 : inB n 0 es.length
    · obtain rfl := HBAD.out (by rw [q1, q2]; rfl)
      clear HBAD HGOOD q1
      go_wp2_with (go_at_call 67; refine (callL1In _ _ _ _).mono ?_; rintro e w' ⟨rfl, rfl⟩)
      go_ret2
      exact ⟨some ⟨w2.heap.size, 0, none⟩, 0, rfl, Own.none_, Nat.le_refl _, bel_trans HB2.out (below1 _ _)⟩
    · have hn := inB_iff.1 q2
      obtain ⟨m, rfl⟩ := Int.eq_ofNat_of_zero_le hn.1
      have hml : m ≤ es.length := by omega
      have HG := Lib.hid (HGOOD.out m rfl q1 q2)
      have hkey := (auditOk_iff.1 q1).2.1
      have RDs : Hid (∀ W, Below w2.heap.size w2 W → Rd eInt W W.heap.size (if c = m then A else A.map (·.add m)) (es.drop m)) := fun W hW => by
        have hd := (HRA.out.drop (m := m) hc)
        rw [show (m * eInt.sz) = m from Nat.mul_one m] at hd
        exact (((hd.below (HB2.out.mono hB)).below (hW.mono (Nat.le_trans hB HB2.out.size)))).mono (Nat.le_trans hB (Nat.le_trans HB2.out.size hW.size))
      have HDL : Hid (es.length - m = (es.drop m).length) := by show _ = _; rw [List.length_drop]
      have CC : Hid (∀ W, Below w2.heap.size w2 W → Calls Try.prog 68 #[.int .i64 key, .slice A m c] W fun e w' => e = .returned (.int .i64 (mixF key (es.take m))) ∧ Below W.heap.size W w') := fun W hW => by
        have := callL12Sum A c (es.take m) key W B (Nat.le_trans hB (Nat.le_trans HB2.out.size hW.size)) (by rw [List.length_take]; omega) hkey (((HRA.out.take m).below (HB2.out.mono hB)).below (hW.mono (Nat.le_trans hB HB2.out.size)))
        rw [List.length_take, Nat.min_eq_left hml] at this
        exact this
      obtain ⟨ds, hds⟩ : ∃ ds, ds = es.drop m := ⟨_, rfl⟩
      obtain ⟨sm, hsm⟩ : ∃ sm, sm = mixF key (es.take m) := ⟨_, rfl⟩
      rw [← hds] at RDs HDL HG
      rw [← hsm] at CC HG
      have i0 : (0 : Int) ≤ (m : Int) := by omega
      have i1 : (m : Int) ≤ (es.length : Int) := by omega
      have i2 : (es.length : Int) ≤ (c : Int) := by omega
      have i3 : (m : Int) ≤ (c : Int) := by omega
      clear hds hsm HBAD HGOOD q1 hkey
      go_upto_region 3 with (go_at_call 67; refine (callL1In _ _ _ _).mono ?_; rintro e w' ⟨rfl, rfl⟩)
      have hdl : ds.length ≤ 1000 := by have := HDL.out; omega
      have hroom : Hid (([] : List Int).length + ds.length ≤ 1073741824) := by show 0 + _ ≤ _; omega
      have Ba : Hid (Below w2.heap.size w2 (w2.alloc (.cells #[] 3)).drew) := (below1 _ _).drew
      obtain ⟨xa0, xa1, xa2, _, _, _, _⟩ := cell3 (blkc K2.out Ba.out)
      clear hdl
      go_upto_region 3 with (go_at_call 67; refine (callL1In _ _ _ _).mono ?_; rintro e w' ⟨rfl, rfl⟩)
      by_cases hcm : c = m
      · have RD1 : Hid (Rd eInt (w2.alloc (.cells #[] 3)).drew (w2.alloc (.cells #[] 3)).drew.heap.size A ds) := by have := RDs.out _ Ba.out; rw [if_pos hcm] at this; exact this
        subst hcm
        have HD0 : Hid (0 = ds.length) := by have := HDL.out; show 0 = _; omega
        go_region_held3 (fun w' => w'.cell? ⟨w.heap.size, 0, none⟩ = some (.int .i64 key) ∧ w'.cell? ⟨w.heap.size, 1, none⟩ = some (.slice A es.length c) ∧ w'.cell? ⟨w.heap.size, 2, none⟩ = some (.int .i64 sum)) (first | exact ⟨x0, x1, x2⟩ | exact ⟨xa0, xa1, xa2⟩ | (refine ⟨?_, ?_, ?_⟩ <;> assumption) | assumption | go_keep)
          (first
            | (refine step_app (w := (w2.alloc (.cells #[] 3)).drew) (n := 0) (c := 0) eiInt rfl (.tmp 18) (.tmp 22) rfl w2.heap.size (xs := []) (Own.none_ (A := some ⟨w2.heap.size, 0, none⟩)) RD1.out HD0.out (by simp [Act.eval]) (by simp [Act.eval]) hroom.out Ba.out.size ?_; intro v' w4 row hown4' hg4 hrow4; have hown4 : Own eInt 3 w4 w2.heap.size v' ds := hown4'; obtain ⟨A4, c4, hv4, hc4, _⟩ := hown4.form; subst hv4; have HB4 : Hid (Below w2.heap.size w2 w4) := Ba.out.trans (below_of_row hg4 (fun k hk => (hrow4 k hk).1) Ba.out.size); have HO4 := Lib.hid hown4; clear hown4 hown4' hg4 hrow4; obtain ⟨n0, n1, n2, _, _, _, _⟩ := cell3 (blkc K2.out HB4.out))
            | (go_at_call 68; (with_reducible refine (CC.out w4 HB4.out).mono ?_); rintro e w5 ⟨rfl, hb5⟩; have HB5 := Lib.hid (bel_trans HB4.out hb5); have HO5 := Lib.hid (HO4.out.next hb5); clear hb5; obtain ⟨m0, m1, m2, _, _, _, _⟩ := cell3 (blkc K2.out HB5.out)))
        go_wp2_with fail
        go_ret2
        exact (by rw [HG.out]; exact ⟨A4, c4, rfl, HO5.out.more HB2.out.size, hc4, bel_trans HB2.out HB5.out⟩)
      · have RD1 : Hid (Rd eInt (w2.alloc (.cells #[] 3)).drew (w2.alloc (.cells #[] 3)).drew.heap.size (A.map (·.add m)) ds) := by have := RDs.out _ Ba.out; rw [if_neg hcm] at this; exact this
        go_region_held3 (fun w' => w'.cell? ⟨w.heap.size, 0, none⟩ = some (.int .i64 key) ∧ w'.cell? ⟨w.heap.size, 1, none⟩ = some (.slice A es.length c) ∧ w'.cell? ⟨w.heap.size, 2, none⟩ = some (.int .i64 sum)) (first | exact ⟨x0, x1, x2⟩ | exact ⟨xa0, xa1, xa2⟩ | (refine ⟨?_, ?_, ?_⟩ <;> assumption) | assumption | go_keep)
          (first
            | (refine step_app (w := (w2.alloc (.cells #[] 3)).drew) (n := es.length - m) (c := c - m) eiInt rfl (.tmp 18) (.tmp 22) rfl w2.heap.size (xs := []) (Own.none_ (A := some ⟨w2.heap.size, 0, none⟩)) RD1.out HDL.out (by simp [Act.eval]) (by simp [Act.eval]) hroom.out Ba.out.size ?_; intro v' w4 row hown4' hg4 hrow4; have hown4 : Own eInt 3 w4 w2.heap.size v' ds := hown4'; obtain ⟨A4, c4, hv4, hc4, _⟩ := hown4.form; subst hv4; have HB4 : Hid (Below w2.heap.size w2 w4) := Ba.out.trans (below_of_row hg4 (fun k hk => (hrow4 k hk).1) Ba.out.size); have HO4 := Lib.hid hown4; clear hown4 hown4' hg4 hrow4; obtain ⟨n0, n1, n2, _, _, _, _⟩ := cell3 (blkc K2.out HB4.out))
            | (go_at_call 68; (with_reducible refine (CC.out w4 HB4.out).mono ?_); rintro e w5 ⟨rfl, hb5⟩; have HB5 := Lib.hid (bel_trans HB4.out hb5); have HO5 := Lib.hid (HO4.out.next hb5); clear hb5; obtain ⟨m0, m1, m2, _, _, _, _⟩ := cell3 (blkc K2.out HB5.out)))
        go_wp2_with fail
        go_ret2
        exact (by rw [HG.out]; exact ⟨A4, c4, rfl, HO5.out.more HB2.out.size, hc4, bel_trans HB2.out HB5.out⟩)
end Go.Proofs.Ytapkgncmjinedaa
