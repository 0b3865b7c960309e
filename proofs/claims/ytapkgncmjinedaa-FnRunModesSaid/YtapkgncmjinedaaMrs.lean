/- Runs of modes: RunModes of the reference, for every input. -/
import Derived.Test.YtapkgncmjinedaaMru
namespace Go.Proofs.Ytapkgncmjinedaa
open Go.RowKit Go.Sort
theorem RdT.mono {w : World} {B B' : Nat} {A : Option Addr} {ts : List Tab} (h : RdT w B A ts) (hB : B ≤ B') : RdT w B' A ts := ⟨h.1.mono hB, fun p hp => ⟨(h.2 p hp).1.mono hB, (h.2 p hp).2⟩⟩
/-- The frames of the modes in use: those of the argument, or a copy. -/
def MT (w : World) (B : Nat) (wx : World) (A : Option Addr) (c : Nat) (us : List Tab) : Prop :=
  (B ≤ w.heap.size ∧ RdT w B A us ∧ CapT us) ∨ OwnT wx (w.heap.size + 1) (.slice A us.length c) us
section
variable {w wx w' : World} {B : Nat} {A : Option Addr} {c : Nat} {us : List Tab}
theorem MT.rd (s : MT w B wx A c us) (hb : Below w.heap.size w wx) : RdT wx wx.heap.size A us := by
  rcases s with ⟨h1, h2, _⟩ | h
  · exact (h2.below (hb.mono h1)).mono (by have := hb.size; omega)
  · exact h.rd
theorem MT.cap (s : MT w B wx A c us) : CapT us := by
  rcases s with ⟨_, _, h⟩ | h
  · exact h
  · exact h.cap
theorem MT.keep (s : MT w B wx A c us) (hb : Below wx.heap.size wx w') : MT w B w' A c us := by
  rcases s with h | h
  · exact .inl h
  · exact .inr (h.next hb)
theorem OwnT.otherI {w w' : World} {base : Nat} {v : Value} {ts : List Tab} {row : Option Nat} (h : OwnT w base v ts) (hg : w.grownBy w' row) (hr : ∀ k, row = some k → ∃ cur fz, w.heap[k]? = some (.cells cur 3 fz)) : OwnT w' base v ts :=
  ⟨h.1.keptOther hg (fun k hk => by obtain ⟨cur, fz, hb⟩ := hr k hk; exact .inr ⟨cur, _, _, hb, by decide⟩), fun p hp => ⟨(h.2 p hp).1.keptOther hg (fun k hk => by obtain ⟨cur, fz, hb⟩ := hr k hk; exact .inr ⟨cur, _, _, hb, by decide⟩), (h.2 p hp).2⟩⟩
theorem MT.grown {row : Option Nat} (s : MT w B wx A c us) (hg : wx.grownBy w' row) (hr : ∀ k, row = some k → ∃ cur fz, wx.heap[k]? = some (.cells cur 3 fz)) : MT w B w' A c us := by
  rcases s with h | h
  · exact .inl h
  · exact .inr (h.otherI hg hr)
theorem OwnT.low {w w' : World} {base g : Nat} {v : Value} {ts : List Tab} (h : OwnT w base v ts) (hg : w.grownBy w' (some g)) (hlt : g < base) : OwnT w' base v ts := h.pick hg hlt
end
/-- The box of the modes that were asked: made behind the call, or ahead of it. -/
def XBX (w0 : World) (nw nx : Int) (us : List Tab) (s9 : Value) (wx : World) : Prop :=
  ∃ Z A5 c5 vs, s9 = .pointer (some ⟨Z, 0, none⟩) ∧ Hid (Below w0.heap.size w0 wx ∧ w0.heap.size ≤ Z ∧ wx.heap[Z]? = some (.cells #[.slice A5 (vs : List Tab).length c5, .int .i64 nw, .int .i64 nx] 25 (0, 0)) ∧ OwnT wx w0.heap.size (.slice A5 vs.length c5) vs ∧ vs.map Tab.slots = us.map Tab.slots)
theorem xbx_after {w0 w5 : World} {nw nx : Int} {us vs : List Tab} {A5 : Option Addr} {c5 : Nat} (hb : Below w0.heap.size w0.drew w5) (ho : OwnT w5 w0.heap.size (.slice A5 vs.length c5) vs) (hm : vs.map Tab.slots = us.map Tab.slots) :
    XBX w0 nw nx us (.pointer (some ⟨w5.heap.size, 0, none⟩)) (w5.alloc (.cells #[.slice A5 vs.length c5, .int .i64 nw, .int .i64 nx] 25)) := by
  have hb' : Below w0.heap.size w0 w5 := (below_drew (Below.refl _ _)).trans hb
  exact ⟨w5.heap.size, A5, c5, vs, rfl, bel_trans hb' (below1 _ _), hb'.size, heap_alloc_new _ _, ho.alloc _, hm⟩
theorem xbx_ahead {w0 w5 : World} {nw nx : Int} {us vs : List Tab} {A5 : Option Addr} {c5 : Nat} {x y z : Value} (hb : Below (w0.heap.size + 1) (w0.alloc (.cells #[x, y, z] 25)).drew w5) (ho : OwnT w5 (w0.heap.size + 1) (.slice A5 vs.length c5) vs) (hm : vs.map Tab.slots = us.map Tab.slots) :
    XBX w0 nw nx us (.pointer (some ⟨w0.heap.size, 0, none⟩)) (((w5.setCell ⟨w0.heap.size, 0, none⟩ (.slice A5 vs.length c5)).setCell ⟨w0.heap.size, 1, none⟩ (.int .i64 nw)).setCell ⟨w0.heap.size, 2, none⟩ (.int .i64 nx)) := by
  have h0 : w5.heap[w0.heap.size]? = some (.cells #[x, y, z] 25 (0, 0)) := (hb.block w0.heap.size (by omega)).trans (heap_alloc_new w0 _)
  have hb' : Below w0.heap.size w0 w5 := (below_drew (below1 w0 _)).trans (hb.mono (by omega))
  exact ⟨w0.heap.size, A5, c5, vs, rfl, bset3 hb' (Nat.le_refl _) _ _ _, Nat.le_refl _, set3 h0, (ho.low (gset3 _ _ _) (by omega)).more (by omega), hm⟩
theorem modeTick_fr {us : List Tab} {nw nx parts : Int} {n t : Nat} {hn : n < us.length} (q : modOk us nw nx parts = true) (hcur : tabAt us nw = us[n]) (ht : t < (fr us[n].slots).length) : modeTick us nw nx parts t = (fr us[n].slots)[t] := by
  rw [modeTick_in q (inB_iff.2 (by rw [hcur]; omega)), hcur, Int.toNat_natCast, whoAt_lt ht]
set_option maxRecDepth 100000 in
set_option maxHeartbeats 6400000 in
theorem callSRunModes (A : Option Addr) (c : Nat) (ts : List Tab) (now next parts : Int) (Aa : Option Addr) (ca : Nat) (asks : List Int) (w : World) (B : Nat) (hB : B ≤ w.heap.size) (hm : ts.length ≤ 1048576) (hma : asks.length ≤ 1048576) (hp1 : -10 ≤ parts) (hp2 : parts ≤ 10) (hcap : CapT ts) (hr : RdT w B A ts) (hra : Rd eInt w B Aa asks) :
    Calls Try.prog 18 #[.agg #[.slice A ts.length c, .int .i64 now, .int .i64 next], .int .i64 parts, .slice Aa asks.length ca] w fun e w' =>
      ∃ Ao co, e = .returned (.slice Ao (runModes ts now next parts asks).length co) ∧ Own eInt 3 w' w.heap.size (.slice Ao (runModes ts now next parts asks).length co) (runModes ts now next parts asks) ∧ Below w.heap.size w w' := by
  obtain ⟨R, hR⟩ : ∃ R, R = runModes ts now next parts asks := ⟨_, rfl⟩
  rw [← hR]
  have E : Hid (R = if modOk ts now next parts && decide (asks.length ≤ 10) then runFrames ts now next asks else []) := hR
  clear hR
  have HV := Lib.hid (below2 w (.cells #[.slice A ts.length c, .int .i64 now, .int .i64 next] 25) (.cells #[] 3))
  have K0 := Lib.hid (alloc_at0 w (.cells #[.slice A ts.length c, .int .i64 now, .int .i64 next] 25) (.cells #[] 3))
  have hsz : ((w.alloc (.cells #[.slice A ts.length c, .int .i64 now, .int .i64 next] 25)).alloc (.cells #[] 3)).heap.size = w.heap.size + 2 := by simp
  have HR := Lib.hid (hr.below (HV.out.mono hB))
  have HR0 := Lib.hid hr
  have HA0 := Lib.hid hra
  have HCAP := Lib.hid hcap
  clear hr hra hcap
  go_enter Try.func18, Try.ntmps18
  go_upto_region 2 with (fail)
  obtain ⟨u, hu⟩ : ∃ u, u = (w.alloc (.cells #[.slice A ts.length c, .int .i64 now, .int .i64 next] 25)).alloc (.cells #[] 3) := ⟨_, rfl⟩
  rw [← hu] at HV K0 HR hsz ⊢
  clear hu
  obtain ⟨x0, x1, x2, x3, x4, x5, x6⟩ := cell3 K0.out
  go_wp2_with fail
  refine (callSModesValid A c ts now next parts u B (by omega) hm hp1 hp2 HR.out).mono ?_
  rintro e w1 ⟨rfl, hb1⟩
  have HB1 := Lib.hid (bel_trans HV.out hb1)
  have KP := Lib.hid (blkc K0.out hb1)
  clear hb1 K0 HR HV hsz x0 x1 x2 x3 x4 x5 x6
  cases q : modOk ts now next parts
  · rw [q] at E
    obtain rfl : R = [] := E.out
    clear q E
    go_wp2
    go_ret
    exact ⟨_, 0, rfl, Own.none_, HB1.out⟩
  · rw [q] at E
    by_cases h10 : asks.length ≤ 10
    · have hR : R = runFrames ts now next asks := by rw [E.out, decide_eq_true h10]; rfl
      have hd : decide ((asks.length : Int) > 10) = false := decide_eq_false (by omega)
      have S1 : Hid (RM w A ts.length c now next (some ⟨w.heap.size + 1, 0, none⟩) 0 [] w1) := ⟨HB1.out, KP.out, Own.none_⟩
      have HQ := Lib.hid q
      have HREQ := Lib.hid hR
      have T1 : Hid (MT w B w1 A c ts) := .inl ⟨hB, HR0.out, HCAP.out⟩
      clear q E hR KP
      go_wp2_with fail
      go_loopw [7, 8, 9, 10, 11] (fun s7 i _ _ _ wr => ∃ (k : Nat) (Ao : Option Addr) (co : Nat) (out : List Int) (A : Option Addr) (c : Nat) (us : List Tab) (nw nx : Int), i = .int .i64 k ∧ k ≤ asks.length ∧ s7 = .slice Ao out.length co ∧ out.length ≤ 240 * k ∧ Hid (RM w A us.length c nw nx Ao co out wr) ∧ Hid (MT w B wr A c us) ∧ Hid (us.map Tab.slots = ts.map Tab.slots) ∧ Hid (modOk us nw nx parts = true) ∧ Hid (out ++ runFrames us nw nx (asks.drop k) = R)) (fun _ i _ _ _ _ => asks.length - (intOf i).toNat)
      case atStart => exact ⟨0, _, 0, [], A, c, ts, now, next, rfl, by omega, rfl, by simp, S1.out, T1.out, rfl, HQ.out, HREQ.out.symm⟩
      case round =>
        clear S1 HQ HREQ T1 HR0 HCAP
        obtain ⟨k, Ao, co, out, A, c, us, nw, nx, rfl, hk, rfl, hol, SR, TR, HMP, HQ, HREQ⟩ := hrel
        by_cases hlt : k < asks.length
        · have hd1 : decide ((k : Int) < (asks.length : Int)) = true := decide_eq_true (by omega)
          obtain ⟨n, hn, rfl, hcur, hs, hu4⟩ := mod_cur HQ.out
          have HAr := Lib.hid (HA0.out.below (SR.out.bel.mono hB))
          have hwr := SR.out.size
          obtain ⟨ba, oa, rfl, hbA, h1⟩ := HAr.out.at1 rfl hlt rfl
          have hbA' : ba < wr.heap.size := by omega
          obtain ⟨an, han⟩ : ∃ an, an = askNext us.length nx asks[k] := ⟨_, rfl⟩
          obtain ⟨okk, hokk⟩ : ∃ okk, okk = inB asks[k] 0 ((us.length : Int) - 1) := ⟨_, rfl⟩
          have CS : Hid (∀ (W : World), Below wr.heap.size wr W → Calls Try.prog 49 #[.agg #[.slice A us.length c, .int .i64 n, .int .i64 nx], .int .i64 parts, .int .i64 asks[k]] W fun e w' =>
              ∃ A5 c5 vs, e = .returned (.tuple #[.agg #[.slice A5 (vs : List Tab).length c5, .int .i64 n, .int .i64 an], .bool okk]) ∧ OwnT w' W.heap.size (.slice A5 vs.length c5) vs ∧ vs.map Tab.slots = us.map Tab.slots ∧ Below W.heap.size W w') := fun W hW => by
            have h := callSAskMode A c us n nx parts asks[k] W wr.heap.size hW.size (by omega) hp1 hp2 TR.out.cap ((TR.out.rd SR.out.bel).below hW)
            rw [askMode_ok HQ.out, ← han, ← hokk] at h
            refine h.mono ?_
            rintro e w' ⟨A5, c5, vs, n5, m5, o5, rfl, ho, hr, hb⟩
            injection hr with e1 e2
            injection e2 with e2 e3
            injection e3 with e3 e4
            subst e2; subst e3; subst e4
            exact ⟨A5, c5, vs, rfl, ho, e1.symm, hb⟩
          have hfl := (fr_bd hs).2.1
          obtain ⟨f, hf⟩ : ∃ f, f = fr us[n].slots := ⟨_, rfl⟩
          have HSTEP : Hid (runFrames us n nx (asks.drop k) = f ++ runFrames us (endNow n an) (-1) (asks.drop (k + 1))) := by
            show _ = _
            rw [runFrames_drop hlt, hcur, hf, han]; rfl
          have HQ2 : Hid (modOk us (endNow n an) (-1) parts = true) := by rw [han]; exact modOk_step (a := asks[k]) HQ.out
          have HQA : Hid (modOk us n an parts = true) := by rw [han]; exact modOk_ask (a := asks[k]) HQ.out
          have HTK : Hid (∀ t (ht : t < f.length), modeTick us n nx parts t = f[t]) := fun t ht => by subst hf; exact modeTick_fr HQ.out hcur ht
          have HFT : Hid (∀ W, RdT W W.heap.size A us → Calls Try.prog 59 #[.slice us[n].A us[n].slots.length us[n].c, .int .i64 parts] W fun e w' => e = .returned (.int .i64 (f.length : Int)) ∧ Below W.heap.size W w') := fun W hR => by
            rw [hf]
            exact callSFrameTicksY us[n].A us[n].c us[n].slots parts hs W W.heap.size (Nat.le_refl _) (hR.slots hn).2 hp1 hp2 (hR.slots hn).1
          rw [← hf] at hfl
          clear han hokk hf hcur hs HAr
          obtain ⟨x0, x1, x2, x3, x4, x5, x6⟩ := cell3 SR.out.box
          go_upto_region 7 with (fail)
          go_cut [9, 10] (fun s9 s10 wx => s10 = .bool okk ∧ XBX wr n an us s9 wx)
          case first =>
            have B0 : Hid (Below wr.heap.size wr wr.drew) := (Below.refl _ _).drew
            have B1 : Hid (Below wr.heap.size wr (wr.alloc (.cells #[.slice none 0 0, .int .i64 0, .int .i64 0] 25)).drew) := (below1 _ _).drew
            go_region_law (first
              | (go_simp; go_at_call 49; (with_reducible refine (CS.out (wr.alloc (.cells #[.slice none 0 0, .int .i64 0, .int .i64 0] 25)).drew B1.out).mono ?_); rintro e w5 ⟨A5, c5, vs, rfl, ho5, hm5, hb5⟩; have hszA : (wr.alloc (.cells #[.slice none 0 0, .int .i64 0, .int .i64 0] 25)).drew.heap.size = wr.heap.size + 1 := World.size_alloc _ _; have ho5' : OwnT w5 (wr.heap.size + 1) (.slice A5 vs.length c5) vs := (by rw [hszA] at ho5; exact ho5); have hb5' : Below (wr.heap.size + 1) (wr.alloc (.cells #[.slice none 0 0, .int .i64 0, .int .i64 0] 25)).drew w5 := (by rw [hszA] at hb5; exact hb5); clear hszA; have HH := Lib.hid (xbx_ahead (w0 := wr) (nw := n) (nx := an) hb5' ho5' hm5); obtain ⟨z0, z1, z2, z3, z4, z5, z6⟩ := cell3 (blkc (w := (wr.alloc (.cells #[.slice none 0 0, .int .i64 0, .int .i64 0] 25)).drew) (heap_alloc_new wr (.cells #[.slice none 0 0, .int .i64 0, .int .i64 0] 25)) hb5); clear ho5 ho5' hm5 hb5 hb5')
              | (go_simp; go_at_call 49; (with_reducible refine (CS.out wr.drew B0.out).mono ?_); rintro e w5 ⟨A5, c5, vs, rfl, ho5, hm5, hb5⟩; have HH := Lib.hid (xbx_after (w0 := wr) (nw := n) (nx := an) hb5 ho5 hm5); clear ho5 hm5 hb5))
            all_goals (go_wp2_with fail; go_meet)
            all_goals exact ⟨rfl, HH.out⟩
          case rest =>
            obtain ⟨rfl, Z, A5, c5, vs, rfl, HC⟩ := hcut
            clear CS x0 x1 x2 x3 x4 x5 x6 h1
            have hZ := HC.out.2.1
            have SC := Lib.hid (SR.out.keep HC.out.1)
            have TC := Lib.hid (TR.out.keep HC.out.1)
            have HZ := Lib.hid HC.out.2.2.1
            have HOV := Lib.hid (HC.out.2.2.2.1.more (base' := w.heap.size + 1) hwr)
            have HVM := Lib.hid HC.out.2.2.2.2
            have HBC := Lib.hid HC.out.1
            clear HC SR TR
            go_wp2_with fail
            go_loopw [7, 11] (fun s7 i wi => ∃ (t : Nat) (Ai : Option Addr) (ci : Nat) (oi : List Int), i = .int .i64 t ∧ t ≤ f.length ∧ s7 = .slice Ai oi.length ci ∧ Hid (oi = out ++ f.take t) ∧ Hid (RM w A us.length c n nx Ai ci oi wi) ∧ Hid (MT w B wi A c us) ∧ Hid (wi.heap[Z]? = some (.cells #[.slice A5 vs.length c5, .int .i64 n, .int .i64 an] 25 (0, 0))) ∧ Hid (OwnT wi (w.heap.size + 1) (.slice A5 vs.length c5) vs)) (fun _ i _ => f.length - (intOf i).toNat)
            case atStart => exact ⟨0, Ao, co, out, rfl, by omega, rfl, by show _ = _; simp, SC.out, TC.out, HZ.out, HOV.out⟩
            case round =>
              clear SC TC HZ HOV HBC
              obtain ⟨t, Ai, ci, oi, rfl, ht, rfl, HOI, SI, TI, HZI, HVI⟩ := hrel
              rename World => wi
              have HTR := Lib.hid (TI.out.rd SI.out.bel)
              obtain ⟨bt, ot, rfl, hbT, h2⟩ := HTR.out.1.at1 rfl hn rfl
              have hd2 : decide ((n : Int) < (us.length : Int)) = true := decide_eq_true (by omega)
              obtain ⟨x0, x1, x2, x3, x4, x5, x6⟩ := cell3 SI.out.box
              go_wp2_with fail
              refine (HFT.out wi HTR.out).mono ?_
              rintro e w2 ⟨rfl, hb2⟩
              have S2 := Lib.hid (SI.out.keep hb2)
              have T2 := Lib.hid (TI.out.keep hb2)
              have Z2 := Lib.hid (blkc HZI.out hb2)
              have V2 := Lib.hid (HVI.out.next hb2)
              clear hb2 h2 hbT HTR SI TI HZI HVI x0 x1 x2 x3 x4 x5 x6
              by_cases htl : t < f.length
              · have hd3 : decide ((t : Int) < (f.length : Int)) = true := decide_eq_true (by omega)
                obtain ⟨x0, x1, x2, x3, x4, x5, x6⟩ := cell3 S2.out.box
                obtain ⟨x, hx⟩ : ∃ x, x = f[t] := ⟨_, rfl⟩
                have CM := callSModeTick (some ⟨bt, ot, none⟩) c us n nx parts t w2 w2.heap.size (Nat.le_refl _) (by omega) hp1 hp2 (T2.out.rd S2.out.bel)
                rw [HTK.out t htl, ← hx] at CM
                have HCM := Lib.hid CM
                have HX := Lib.hid hx
                have hol2 : oi.length ≤ 2640 := by rw [HOI.out, List.length_append, List.length_take]; omega
                clear CM hx
                go_wp2_with fail
                refine HCM.out.mono ?_
                rintro e w3 ⟨rfl, hb3⟩
                have S3 := Lib.hid (S2.out.keep hb3)
                have T3 := Lib.hid (T2.out.keep hb3)
                have Z3 := Lib.hid (blkc Z2.out hb3)
                have V3 := Lib.hid (V2.out.next hb3)
                clear hb3 HCM S2 T2 Z2 V2 x0 x1 x2 x3 x4 x5 x6
                go_wp2_with (at_builtin; refine wpList_app _ eiInt rfl (.tmp 51) (.tmp 56) rfl (w.heap.size + 1) (S3.out.own.alloc _) (Rd.new (E := eInt) (xs := [x]) _ _ _ rfl) rfl rfl rfl (by simp; omega) (by have := S3.out.size; simp; omega) ?_; intro v' w4 row hown4 hg4 hrow4; obtain ⟨A4, c4, hv4, hc4, _⟩ := hown4.form; subst hv4)
                go_roundw
                case rel =>
                  have hb := below1 w3 (.cells #[.int .i64 x] 3)
                  have hrI : ∀ j, row = some j → ∃ cur fz, (w3.alloc (.cells #[.int .i64 x] 3)).heap[j]? = some (.cells cur 3 fz) := fun j hj => by
                    obtain ⟨_, _, cur, h⟩ := hrow4 j hj
                    exact ⟨cur, _, h⟩
                  have hne : ∀ {z : Nat} {o : Array Value} {fz : Nat × Nat}, (w3.alloc (.cells #[.int .i64 x] 3)).heap[z]? = some (.cells o 25 fz) → some z ≠ row := fun h e => by
                    obtain ⟨cur, fz, h'⟩ := hrI _ e.symm
                    rw [h] at h'
                    injection h' with h'
                    injection h' with _ h'
                    exact absurd h' (by decide)
                  have z3 := blkc Z3.out hb
                  exact ⟨t + 1, A4, c4, oi ++ [x], by go_num, by omega, by simp, by show _ = _; rw [HOI.out, HX.out, List.append_assoc, List.take_succ_eq_append_getElem htl], (S3.out.keep hb).app hg4 hrow4 hown4, (T3.out.keep hb).grown hg4 hrI, gblk hg4 z3 (hne z3), (V3.out.next hb).otherI hg4 hrI⟩
                case measure => simp [intOf]; omega
              · have hd3 : decide ((t : Int) < (f.length : Int)) = false := decide_eq_false (by omega)
                have hte : t = f.length := by omega
                have HOE : Hid (oi = out ++ f) := by have := HOI.out; rw [hte, List.take_length] at this; exact this
                have hvq : modOk vs n an parts = true := by rw [modOk_map HVM.out]; exact HQA.out
                have CE := callSEndFrame A5 c5 vs n an parts w2 w2.heap.size (Nat.le_refl _) (by have := map_len HVM.out; omega) hp1 hp2 V2.out.cap V2.out.rd
                rw [endFrame_ok hvq] at CE
                have HCE := Lib.hid CE
                have hwz := S2.out.size
                clear CE hvq hte HOI
                obtain ⟨y0, y1, y2, y3, y4, y5, y6⟩ := cell3 Z2.out
                go_wp2_with fail
                refine HCE.out.mono ?_
                rintro e w3 ⟨A6, c6, us6, n6, m6, rfl, ho6, hr6, hb6⟩
                injection hr6 with e1 e2
                injection e2 with e2 e3
                subst e2; subst e3
                have S3 := Lib.hid (S2.out.keep hb6)
                have S4 := Lib.hid (S3.out.put (n' := us6.length) (A' := A6) (c' := c6) (now' := endNow n an) (next' := -1))
                have T4 : Hid (MT w B (((w3.setCell ⟨w.heap.size, 0, none⟩ (.slice A6 us6.length c6)).setCell ⟨w.heap.size, 1, none⟩ (.int .i64 (endNow n an))).setCell ⟨w.heap.size, 2, none⟩ (.int .i64 (-1))) A6 c6 us6) := .inr ((ho6.more hwz).low (gset3 _ _ _) (by omega))
                have H6 : Hid (us6.map Tab.slots = us.map Tab.slots) := e1.symm.trans HVM.out
                have Q6 : Hid (modOk us6 (endNow n an) (-1) parts = true) := by show _ = _; rw [modOk_map H6.out]; exact HQ2.out
                have R6 : Hid (oi ++ runFrames us6 (endNow n an) (-1) (asks.drop (k + 1)) = R) := by
                  show _ = _
                  rw [runFrames_map H6.out, HOE.out, List.append_assoc, ← HSTEP.out]; exact HREQ.out
                have hl6 : oi.length ≤ 240 * (k + 1) := by rw [HOE.out, List.length_append]; omega
                obtain ⟨en, hen⟩ : ∃ en, en = endNow n an := ⟨_, rfl⟩
                rw [← hen] at S4 T4 Q6 R6 ⊢
                clear hen ho6 hb6 e1 HCE S2 T2 Z2 V2 y0 y1 y2 y3 y4 y5 y6 HOE HQ2 HSTEP
                obtain ⟨y0, y1, y2, y3, y4, y5, y6⟩ := cell3 S3.out.box
                clear S3
                go_wp2_with fail
                go_roundw
                case rel => exact ⟨k + 1, Ai, ci, oi, A6, c6, us6, en, -1, by go_num, by omega, rfl, hl6, S4.out, T4.out, H6.out.trans HMP.out, Q6.out, R6.out⟩
                case measure => simp [intOf]; omega
        · have hke : k = asks.length := by omega
          have hd1 : decide ((k : Int) < (asks.length : Int)) = false := decide_eq_false (by omega)
          have HF : Hid (R = out) := by
            have := HREQ.out
            rw [hke, List.drop_length] at this
            show R = out
            rw [← this]; simp [runFrames]
          clear hke
          have HOC := Lib.hid ((SR.out.own).more (Nat.le_succ w.heap.size))
          go_wp2
          go_ret
          rw [HF.out]
          exact ⟨Ao, co, rfl, HOC.out, SR.out.bel⟩
    · have hR : R = [] := by rw [E.out, decide_eq_false h10]; rfl
      subst hR
      have hd : decide ((asks.length : Int) > 10) = true := decide_eq_true (by omega)
      clear q E
      go_wp2
      go_ret
      exact ⟨_, 0, rfl, Own.none_, HB1.out⟩
end Go.Proofs.Ytapkgncmjinedaa
