/- A further entry of a log, for every input. -/
import Derived.Test.YtapkgncmjinedaaAuv
import Derived.Test.YtapkgncmjinedaaStp
import Derived.Test.YtapkgncmjinedaaDrw
import Derived.Deep.RegionHeldLaw
namespace Go.Proofs.Ytapkgncmjinedaa
open Go.RowKit Go.Sort

/-- A log in a box. -/
structure RAS (w : World) (X B0 : Nat) (A : Option Addr) (c : Nat) (key : Int) (es : List Int) (sum : Int) (wx : World) : Prop where
  bel : Below B0 w wx
  box : wx.heap[X]? = some (.cells #[.int .i64 key, .slice A es.length c, .int .i64 sum] 37 (0, 0))
  own : Own eInt 3 wx B0 (.slice A es.length c) es
theorem aud_after {w2 w4 : World} {A : Option Addr} {c : Nat} {es : List Int} {key sum : Int} (hb : Below w2.heap.size w2 w4) (ho : Own eInt 3 w4 w2.heap.size (.slice A es.length c) es) (hc : es.length ≤ c) :
    ∃ X A' c', Value.pointer (some ⟨w4.heap.size, 0, none⟩) = .pointer (some ⟨X, 0, none⟩) ∧ Hid (RAS w2 X w2.heap.size A' c' key es sum (w4.alloc (.cells #[.int .i64 key, .slice A es.length c, .int .i64 sum] 37)) ∧ es.length ≤ c' ∧ w2.heap.size ≤ X) :=
  ⟨_, A, c, rfl, ⟨bel_trans hb (below1 _ _), heap_alloc_new _ _, ho.alloc _⟩, hc, hb.size⟩
theorem aud_ahead {w2 w4 : World} {A : Option Addr} {c X : Nat} {es : List Int} {key sum : Int} {a b d : Value} (hb : Below w2.heap.size w2 w4) (ho : Own eInt 3 w4 w2.heap.size (.slice A es.length c) es) (hc : es.length ≤ c) (hx : w4.heap[X]? = some (.cells #[a, b, d] 37 (0, 0))) (hX : w2.heap.size ≤ X) :
    ∃ X' A' c', Value.pointer (some ⟨X, 0, none⟩) = .pointer (some ⟨X', 0, none⟩) ∧ Hid (RAS w2 X' w2.heap.size A' c' key es sum (((w4.setCell ⟨X, 0, none⟩ (.int .i64 key)).setCell ⟨X, 1, none⟩ (.slice A es.length c)).setCell ⟨X, 2, none⟩ (.int .i64 sum)) ∧ es.length ≤ c' ∧ w2.heap.size ≤ X') :=
  ⟨X, A, c, rfl, ⟨bset3 hb hX _ _ _, set3 hx, ho.keptOther (gset3 _ _ _) (fun k hk => by cases hk; exact .inr ⟨_, _, _, hx, by decide⟩)⟩, hc, hX⟩
theorem aud_box {W w4 : World} {row : Option Nat} {X : Nat} {cs : Array Value} {v : Value} {base : Nat} (hx : W.heap[X]? = some (.cells cs 37 (0, 0))) (hg : W.grownBy w4 row) (hrow : ∀ k, row = some k → base ≤ k ∧ v.ownBlock = some k ∧ ∃ cur, W.heap[k]? = some (.cells cur 3 (0, 0))) : w4.heap[X]? = some (.cells cs 37 (0, 0)) := by
  refine gblk hg hx (fun e => ?_)
  obtain ⟨cur, hcur⟩ := (hrow _ e.symm).2.2
  rw [hx] at hcur
  injection hcur with hcur
  injection hcur with _ ht _
  exact absurd ht (by decide)
theorem RAS.next {w wx w' : World} {X B0 : Nat} {A : Option Addr} {c : Nat} {key : Int} {es : List Int} {sum : Int} (s : RAS w X B0 A c key es sum wx) (hB : B0 ≤ wx.heap.size) (hb : Below wx.heap.size wx w') : RAS w X B0 A c key es sum w' :=
  ⟨s.bel.trans (hb.mono hB), blkc s.box hb, s.own.next hb⟩
theorem RAS.set1 {w wx : World} {X B0 : Nat} {A A' : Option Addr} {c c' : Nat} {key : Int} {es es' : List Int} {sum : Int} (hbel : Below B0 w wx) (hbox : wx.heap[X]? = some (.cells #[.int .i64 key, .slice A es.length c, .int .i64 sum] 37 (0, 0))) (ho : Own eInt 3 wx B0 (.slice A' es'.length c') es') (hX : B0 ≤ X) : RAS w X B0 A' c' key es' sum (wx.setCell ⟨X, 1, none⟩ (.slice A' es'.length c')) :=
  ⟨hbel.setCell (p := ⟨X, 1, none⟩) hX _, set3b hbox, ho.keptOther (gset 1 _) (fun k hk => by cases hk; exact .inr ⟨_, _, _, hbox, by decide⟩)⟩
theorem RAS.set2 {w wx : World} {X B0 : Nat} {A : Option Addr} {c : Nat} {key : Int} {es : List Int} {sum : Int} (s : RAS w X B0 A c key es sum wx) (hX : B0 ≤ X) (sum' : Int) : RAS w X B0 A c key es sum' (wx.setCell ⟨X, 2, none⟩ (.int .i64 sum')) :=
  ⟨s.bel.setCell (p := ⟨X, 2, none⟩) hX _, set3c s.box, s.own.keptOther (gset 2 _) (fun k hk => by cases hk; exact .inr ⟨_, _, _, s.box, by decide⟩)⟩
theorem RAS.set0 {w wx : World} {X B0 : Nat} {A : Option Addr} {c : Nat} {key : Int} {es : List Int} {sum : Int} (s : RAS w X B0 A c key es sum wx) (hX : B0 ≤ X) (key' : Int) : RAS w X B0 A c key' es sum (wx.setCell ⟨X, 0, none⟩ (.int .i64 key')) :=
  ⟨s.bel.setCell (p := ⟨X, 0, none⟩) hX _, set3a s.box, s.own.keptOther (gset 0 _) (fun k hk => by cases hk; exact .inr ⟨_, _, _, s.box, by decide⟩)⟩
/-- What a log's function returns. -/
def AudOut (w : World) (key : Int) (es : List Int) (sum : Int) (e : Ending) (w' : World) : Prop :=
  ∃ A c, e = .returned (.agg #[.int .i64 key, .slice A es.length c, .int .i64 sum]) ∧ Own eInt 3 w' w.heap.size (.slice A es.length c) es ∧ es.length ≤ c ∧ Below w.heap.size w w'
def AppOut (w : World) (r : (Int × List Int × Int) × Bool) (e : Ending) (w' : World) : Prop :=
  ∃ A c, e = .returned (.tuple #[.agg #[.int .i64 r.1.1, .slice A r.1.2.1.length c, .int .i64 r.1.2.2], .bool r.2]) ∧ Own eInt 3 w' w.heap.size (.slice A r.1.2.1.length c) r.1.2.1 ∧ r.1.2.1.length ≤ c ∧ Below w.heap.size w w'
theorem add_bad {key : Int} {es : List Int} {sum e : Int} (h : auditOk key es sum = false) : auditAdd key es sum e = ((0, [], 0), false) := by unfold auditAdd; rw [h]; rfl
theorem add_full {key : Int} {es : List Int} {sum e : Int} (h : auditOk key es sum = true) (hl : es.length = 60) : auditAdd key es sum e = ((key, es, sum), false) := by unfold auditAdd; rw [h, if_pos rfl, if_pos hl]
theorem add_good {key : Int} {es : List Int} {sum e : Int} (h : auditOk key es sum = true) (hl : es.length ≠ 60) : auditAdd key es sum e = ((key, es ++ [e], mixStep sum e), true) := by unfold auditAdd; rw [h, if_pos rfl, if_neg hl]

set_option maxRecDepth 100000 in
set_option maxHeartbeats 3200000 in
theorem callAppendAudit (A : Option Addr) (c : Nat) (es : List Int) (key sum entry : Int) (w : World) (B : Nat) (hB : B ≤ w.heap.size) (hc : es.length ≤ c) (hm : es.length ≤ 1048576) (hr : Rd eInt w B A es) :
    Calls Try.prog 27 #[.agg #[.int .i64 key, .slice A es.length c, .int .i64 sum], .int .i64 entry] w (AppOut w (auditAdd key es sum entry)) := by
  have V := Lib.hid (callAuditValid A c es key sum ((w.alloc (.cells #[.int .i64 key, .slice A es.length c, .int .i64 sum] 37)).alloc (.cells #[.int .i64 0, .slice none 0 0, .int .i64 0] 37)) B (by simp; omega) hm (hr.below ((below2 _ _ _).mono hB)))
  have K0 := Lib.hid (alloc_at0 w (.cells #[.int .i64 key, .slice A es.length c, .int .i64 sum] 37) (.cells #[.int .i64 0, .slice none 0 0, .int .i64 0] 37))
  have K1 := Lib.hid (alloc_at1 w (.cells #[.int .i64 key, .slice A es.length c, .int .i64 sum] 37) (.cells #[.int .i64 0, .slice none 0 0, .int .i64 0] 37))
  have HBAD : Hid (auditOk key es sum = false → auditAdd key es sum entry = ((0, [], 0), false)) := add_bad
  have HFULL : Hid (auditOk key es sum = true → es.length = 60 → auditAdd key es sum entry = ((key, es, sum), false)) := add_full
  have HGOOD : Hid (auditOk key es sum = true → es.length ≠ 60 → auditAdd key es sum entry = ((key, es ++ [entry], mixStep sum entry), true)) := add_good
  have HRA := Lib.hid hr
  obtain ⟨r, hrr⟩ : ∃ r, r = auditAdd key es sum entry := ⟨_, rfl⟩
  rw [← hrr] at HBAD HFULL HGOOD ⊢
  clear hr hrr
  go_enter Try.func27, Try.ntmps27
  go_wp2_with fail
  refine V.out.mono ?_
  rintro e w2 ⟨rfl, hb2⟩
  have HB2 := Lib.hid (bel_trans (below2 w (.cells #[.int .i64 key, .slice A es.length c, .int .i64 sum] 37) (.cells #[.int .i64 0, .slice none 0 0, .int .i64 0] 37)) hb2)
  have KB2 := Lib.hid (blkc K0.out hb2)
  have KR2 := Lib.hid (blkc K1.out hb2)
  have hs2 : w.heap.size + 1 < w2.heap.size := (cell3 KR2.out).2.2.2.2.2.2
  clear hb2 V K0 K1
  cases q1 : auditOk key es sum
  · obtain rfl := HBAD.out q1
    clear HBAD HFULL HGOOD q1
    obtain ⟨a0, a1, a2, a3, a4, a5, a6⟩ := cell3 KR2.out
    obtain ⟨s0, s1, s2⟩ := res3 KR2.out (.int .i64 0) (.slice none 0 0) (.int .i64 0)
    go_wp2_with fail
    exact bodyPost_ret (v := .tuple #[.agg #[.int .i64 0, .slice none 0 0, .int .i64 0], .bool false]) (by simp [results, Try.results27, go_sem, s0, s1, s2]) rfl ⟨none, 0, rfl, Own.none_, Nat.le_refl _, bset3 HB2.out (by omega) _ _ _⟩
  · have HQ := Lib.hid q1
    have hl60 := (auditOk_iff.1 q1).1
    have HS := Lib.hid (auditOk_sum q1)
    have HF1 : Hid (es.length = 60 → r = ((key, es, sum), false)) := HFULL.out q1
    have HG1 : Hid (es.length ≠ 60 → r = ((key, es ++ [entry], mixStep sum entry), true)) := HGOOD.out q1
    clear HBAD HFULL HGOOD q1
    obtain ⟨x0, x1, x2, _, _, _, x6⟩ := cell3 KB2.out
    have RDs : Hid (∀ W, Below w2.heap.size w2 W → Calls Try.prog 64 #[.slice A es.length c] W fun e w' => ∃ A', e = .returned (.slice A' es.length es.length) ∧ Own eInt 3 w' W.heap.size (.slice A' es.length es.length) es ∧ Below W.heap.size W w') := fun W hW => callCopyInt A c es W B (Nat.le_trans hB (Nat.le_trans HB2.out.size hW.size)) hc hm ((HRA.out.below (HB2.out.mono hB)).below (hW.mono (Nat.le_trans hB HB2.out.size)))
    have CLs : Hid (∀ W, Below w2.heap.size w2 W → W.heap[w.heap.size]? = some (.cells #[.int .i64 key, .slice A es.length c, .int .i64 sum] 37 (0, 0))) := fun W hW => blkc KB2.out hW
    have Ba : Hid (Below w2.heap.size w2 (w2.alloc (.cells #[.int .i64 0, .slice none 0 0, .int .i64 0] 37)).drew) := (below1 _ _).drew
    have Xa : Hid ((w2.alloc (.cells #[.int .i64 0, .slice none 0 0, .int .i64 0] 37)).drew.heap[w2.heap.size]? = some (.cells #[.int .i64 0, .slice none 0 0, .int .i64 0] 37 (0, 0))) := heap_alloc_new w2 _
    obtain ⟨xa0, xa1, xa2, _, _, _, _⟩ := cell3 (CLs.out _ Ba.out)
    go_upto_region 3 with (fail)
    go_cut [6] (fun s6 wx => ∃ X A' c', s6 = .pointer (some ⟨X, 0, none⟩) ∧ Hid (RAS w2 X w2.heap.size A' c' key es sum wx ∧ es.length ≤ c' ∧ w2.heap.size ≤ X))
    case first =>
      go_region_held3 (fun w' => w'.cell? ⟨w.heap.size, 0, none⟩ = some (.int .i64 key) ∧ w'.cell? ⟨w.heap.size, 1, none⟩ = some (.slice A es.length c) ∧ w'.cell? ⟨w.heap.size, 2, none⟩ = some (.int .i64 sum)) (first | exact ⟨x0, x1, x2⟩ | exact ⟨xa0, xa1, xa2⟩ | (refine ⟨?_, ?_, ?_⟩ <;> assumption) | (refine ⟨?_, ?_, ?_⟩ <;> (rw [World.cell?_setCell_other _ _ _ _ (fun e => by injection e with e1 _ _; omega), World.cell?_setCell_other _ _ _ _ (fun e => by injection e with e1 _ _; omega), World.cell?_setCell_other _ _ _ _ (fun e => by injection e with e1 _ _; omega)]; assumption)) | go_keep)
        (first
          | (go_at_call 64; (with_reducible refine (RDs.out w2.drew (Below.refl _ _).drew).mono ?_); rintro e w4 ⟨A4, rfl, hown4, hb4'⟩; have hb4 : Below w2.heap.size w2 w4 := ⟨hb4'.os, hb4'.tape, hb4'.output, hb4'.size, hb4'.block⟩; obtain ⟨n0, n1, n2, _, _, _, _⟩ := cell3 (CLs.out _ hb4); obtain ⟨na0, na1, na2, _, _, _, _⟩ := cell3 (CLs.out _ (bel_trans hb4 (below1 w4 (.cells #[.int .i64 0, .slice none 0 0, .int .i64 0] 37)))); obtain ⟨nb0, nb1, nb2, _, _, _, _⟩ := cell3 (CLs.out _ (bel_trans hb4 (below1 w4 (.cells #[.int .i64 key, .slice A4 es.length es.length, .int .i64 sum] 37)))); have hx4 := True.intro)
          | (go_at_call 64; (with_reducible refine (RDs.out (w2.alloc (.cells #[.int .i64 0, .slice none 0 0, .int .i64 0] 37)).drew Ba.out).mono ?_); rintro e w4 ⟨A4, rfl, hown4', hb4'⟩; have hown4 := hown4'.more (base' := w2.heap.size) Ba.out.size; have hb4 := bel_trans Ba.out hb4'; obtain ⟨n0, n1, n2, _, _, _, _⟩ := cell3 (CLs.out _ hb4); have hx4 := blkc Xa.out hb4'; obtain ⟨m0, m1, m2, m3, m4, m5, m6⟩ := cell3 hx4))
      all_goals (go_wp2_with fail; go_meet)
      all_goals first | exact aud_after hb4 hown4 (Nat.le_refl _) | exact aud_ahead hb4 hown4 (Nat.le_refl _) hx4 (Nat.le_refl _)
    case rest =>
      obtain ⟨X, A4, c4, rfl, HC⟩ := hcut
      have hXs := HC.out.2.2
      have hc4 := HC.out.2.1
      have SR := Lib.hid HC.out.1
      have KBc := Lib.hid (blkc KB2.out SR.out.bel)
      have KRc := Lib.hid (blkc KR2.out SR.out.bel)
      have HBc := Lib.hid (bel_trans HB2.out SR.out.bel)
      have KB2' := Lib.hid KB2.out
      have KR2' := Lib.hid KR2.out
      clear HC x0 x1 x2 x6 xa0 xa1 xa2 Ba Xa RDs CLs KB2 KR2
      obtain ⟨x0, x1, x2, x3, x4, x5, x6⟩ := cell3 SR.out.box
      obtain ⟨b0, b1, b2, _, _, _, b6⟩ := cell3 KBc.out
      by_cases h60 : es.length = 60
      · obtain rfl := HF1.out h60
        have hd : ((es.length : Int) == 60) = true := by rw [h60]; rfl
        have HL60 := Lib.hid h60
        clear h60
        obtain ⟨a0, a1, a2, a3, a4, a5, a6⟩ := cell3 KRc.out
        obtain ⟨s0, s1, s2⟩ := res3 KRc.out (.int .i64 key) (.slice A4 es.length c4) (.int .i64 sum)
        go_wp2_with fail
        exact bodyPost_ret (v := .tuple #[.agg #[.int .i64 key, .slice A4 es.length c4, .int .i64 sum], .bool false]) (by simp [results, Try.results27, go_sem, s0, s1, s2]) rfl ⟨A4, c4, rfl, (SR.out.own.kept (gset3 _ _ _) (fun k hk => by cases hk; omega)).more (by omega), hc4, bset3 HBc.out (by omega) _ _ _⟩
      · have hrg := HG1.out h60
        have hd : ((es.length : Int) == 60) = false := by rw [beq_eq_false_iff_ne]; omega
        obtain ⟨es2, hes2⟩ : ∃ es2, es2 = es ++ [entry] := ⟨_, rfl⟩
        have HE2 := Lib.hid hes2
        have hl2 : es2.length ≤ 61 := by rw [hes2]; simp; omega
        rw [← hes2] at hrg
        have HRG := Lib.hid hrg
        clear hes2 HF1 HG1 hrg h60
        go_upto_region 7 with (first
          | (at_builtin; refine wpList_app _ eiInt rfl (.tmp 25) (.tmp 27) rfl w2.heap.size (SR.out.own.alloc _) (Rd.new (E := eInt) (xs := [entry]) _ _ _ rfl) rfl rfl rfl (by simp; omega) (by have := SR.out.bel.size; simp; omega) ?_; intro v' w5 row hown5 hg5 hrow5; rw [← HE2.out] at hown5; obtain ⟨A5, c5, hv5, hc5, _⟩ := hown5.form; subst hv5; have HX5 := Lib.hid (aud_box (blkc SR.out.box (below1 wc (.cells #[.int .i64 entry] 3))) hg5 hrow5); have HB5 : Hid (Below w2.heap.size w2 w5) := (bel_trans SR.out.bel (below1 wc (.cells #[.int .i64 entry] 3))).grown hg5 (by have := SR.out.bel.size; simp; omega) (fun k hk => (hrow5 k hk).1); have HO5 := Lib.hid hown5; clear hown5 hg5 hrow5; have CP := Lib.hid (callCopyInt A5 c5 es2 w5 w5.heap.size (Nat.le_refl _) hc5 (by omega) HO5.out.rd))
          | (go_at_call 64; refine CP.out.mono ?_; rintro e w6 ⟨A6, rfl, hown6, hb6⟩; have HX6 := Lib.hid (blkc HX5.out hb6); have HB6 := Lib.hid (bel_trans HB5.out hb6); have HO6 := Lib.hid (hown6.more (base' := w2.heap.size) HB5.out.size); clear hown6 hb6; obtain ⟨m0, m1, m2, m3, m4, m5, m6⟩ := cell3 HX6.out; obtain ⟨bb0, bb1, bb2, _, _, _, _⟩ := cell3 (blkc KBc.out (Below.refl _ _))))
        have S7 := Lib.hid (RAS.set1 HB6.out HX6.out HO6.out hXs)
        have KR7 := Lib.hid (blkc KRc.out (Below.refl _ _))
        have KB6 : Hid ((w6.setCell ⟨X, 1, none⟩ (.slice A6 es2.length es2.length)).heap[w.heap.size]? = some (.cells #[.int .i64 key, .slice A es.length c, .int .i64 sum] 37 (0, 0))) := (S7.out.bel.block _ (by omega)).trans KB2'.out
        have KR6 : Hid ((w6.setCell ⟨X, 1, none⟩ (.slice A6 es2.length es2.length)).heap[w.heap.size + 1]? = some (.cells #[.int .i64 0, .slice none 0 0, .int .i64 0] 37 (0, 0))) := (S7.out.bel.block _ (by omega)).trans KR2'.out
        obtain ⟨v7, hv7⟩ : ∃ v7, v7 = w6.setCell ⟨X, 1, none⟩ (.slice A6 es2.length es2.length) := ⟨_, rfl⟩
        rw [← hv7] at S7 KB6 KR6 ⊢
        clear hv7 KR7 HX6 HB6 HO6 m0 m1 m2 m3 m4 m5 m6 bb0 bb1 bb2 HX5 HB5 HO5 CP SR KBc KRc HBc x0 x1 x2 x3 x4 x5 x6 b0 b1 b2 b6
        have hX7 : w2.heap.size ≤ v7.heap.size := S7.out.bel.size
        have MX := callMix (some ⟨v7.heap.size, 0, none⟩) 1 [entry] sum (v7.alloc (.cells #[.int .i64 entry] 3)) _ (by simp) (Rd.new (E := eInt) (xs := [entry]) v7 _ _ rfl)
        rw [mixN_in HS.out, mixF_one] at MX
        have HMX := Lib.hid MX
        clear MX
        obtain ⟨ns, hns⟩ : ∃ ns, ns = mixStep sum entry := ⟨_, rfl⟩
        rw [← hns] at HMX HRG
        clear hns
        obtain ⟨b0, b1, b2, _, _, _, b6⟩ := cell3 KB6.out
        obtain ⟨x0, x1, x2, x3, x4, x5, x6⟩ := cell3 S7.out.box
        go_wp2_with fail
        refine HMX.out.mono ?_
        rintro e w8 ⟨rfl, rfl⟩
        have S8 := Lib.hid ((S7.out.set2 hXs ns).next (by simp; omega) (below1 _ (.cells #[.int .i64 entry] 3)))
        have KR8 := Lib.hid (blkc (gblk (gset (w := v7) (g := X) 2 (.int .i64 ns)) KR6.out (by simp; omega)) (below1 _ (.cells #[.int .i64 entry] 3)))
        obtain ⟨y0, y1, y2, y3, y4, y5, y6⟩ := cell3 S8.out.box
        obtain ⟨a0, a1, a2, a3, a4, a5, a6⟩ := cell3 KR8.out
        obtain ⟨s0, s1, s2⟩ := res3 KR8.out (.int .i64 key) (.slice A6 es2.length es2.length) (.int .i64 ns)
        go_upto_region 8 with (fail)
        have HBF := Lib.hid (bset3 (bel_trans HB2.out S8.out.bel) (Nat.le_succ w.heap.size) (.int .i64 key) (.slice A6 es2.length es2.length) (.int .i64 ns))
        have HOF := Lib.hid ((S8.out.own.kept (gset3 (g := w.heap.size + 1) (.int .i64 key) (.slice A6 es2.length es2.length) (.int .i64 ns)) (fun k hk => by cases hk; omega)).more (base' := w.heap.size) (by omega))
        obtain ⟨v8, hv8⟩ : ∃ v8, v8 = (v7.setCell ⟨X, 2, none⟩ (.int .i64 ns)).alloc (.cells #[.int .i64 entry] 3) := ⟨_, rfl⟩
        rw [← hv8] at HBF HOF y0 y1 y2 y3 y4 y5 y6 a0 a1 a2 a3 a4 a5 a6 s0 s1 s2 ⊢
        clear hv8 S8 KR8 HMX b0 b1 b2 b6 x0 x1 x2 x3 x4 x5 x6
        go_wp2_with fail
        exact bodyPost_ret (v := .tuple #[.agg #[.int .i64 key, .slice A6 es2.length es2.length, .int .i64 ns], .bool true]) (by simp [results, Try.results27, go_sem, s0, s1, s2]) rfl (by rw [HRG.out]; exact ⟨A6, es2.length, rfl, HOF.out, Nat.le_refl _, HBF.out⟩)
end Go.Proofs.Ytapkgncmjinedaa
