/- Runs of modes: plain words, and RunModes of the program, for every input. -/
import Derived.Test.YtapkgncmjinedaaMpl
namespace Go.Proofs.Ytapkgncmjinedaa
open Go.RowKit Go.Sort
/-- The table in use one frame later, when a was asked for. -/
def stepNow (m : Nat) (now next a : Int) : Int := endNow now (askNext m next a)
def runFrames (ts : List Tab) : Int → Int → List Int → List Int
  | _, _, [] => []
  | now, next, a :: qs => fr (tabAt ts now).slots ++ runFrames ts (stepNow ts.length now next a) (-1) qs
def runModes (ts : List Tab) (now next parts : Int) (asks : List Int) : List Int :=
  if modOk ts now next parts && decide (asks.length ≤ 10) then runFrames ts now next asks else []
theorem RdT.mono' {w : World} {B B' : Nat} {A : Option Addr} {ts : List Tab} (h : RdT w B A ts) (hB : B ≤ B') : RdT w B' A ts := ⟨h.1.mono hB, fun p hp => ⟨(h.2 p hp).1.mono hB, (h.2 p hp).2⟩⟩
theorem modOk_ask {ts : List Tab} {now next parts a : Int} (h : modOk ts now next parts = true) : modOk ts now (askNext ts.length next a) parts = true := by
  have hb := modOk_next h
  unfold askNext
  split
  · next h1 => have := inB_iff.1 h1; exact modOk_mk h hb.2.2.1 hb.2.2.2.1 (by omega) this.2
  · exact h
theorem modOk_step {ts : List Tab} {now next parts a : Int} (h : modOk ts now next parts = true) : modOk ts (stepNow ts.length now next a) (-1) parts = true := modOk_end (modOk_ask h)
theorem runFrames_len {ts : List Tab} {parts : Int} : ∀ (qs : List Int) {now next : Int}, modOk ts now next parts = true → (runFrames ts now next qs).length ≤ 240 * qs.length
  | [], _, _, _ => Nat.zero_le _
  | a :: qs, now, next, h => by
    obtain ⟨n, hn, _, hcur, hs, _⟩ := mod_cur h
    have := (fr_bd hs).2.1
    have := runFrames_len qs (modOk_step (a := a) h)
    show (fr (tabAt ts now).slots ++ _).length ≤ _
    rw [List.length_append, hcur]
    simp only [List.length_cons]
    omega
theorem runFrames_app {ts : List Tab} : ∀ (qs bs : List Int) (now next : Int), ∃ zs, runFrames ts now next (qs ++ bs) = runFrames ts now next qs ++ zs
  | [], bs, now, next => ⟨runFrames ts now next bs, rfl⟩
  | a :: qs, bs, now, next => by
    obtain ⟨zs, h⟩ := runFrames_app qs bs (stepNow ts.length now next a) (-1)
    refine ⟨zs, ?_⟩
    show fr _ ++ runFrames _ _ _ (qs ++ bs) = (fr _ ++ runFrames _ _ _ qs) ++ zs
    rw [h, List.append_assoc]
theorem runFrames_map {ts us : List Tab} (h : us.map Tab.slots = ts.map Tab.slots) : ∀ (qs : List Int) (now next : Int), runFrames us now next qs = runFrames ts now next qs
  | [], _, _ => rfl
  | a :: qs, now, next => by
    show fr _ ++ runFrames _ _ _ qs = fr _ ++ runFrames _ _ _ qs
    rw [tabAt_map h, map_len h, runFrames_map h qs]
theorem runFrames_drop {ts : List Tab} {now next : Int} {asks : List Int} {k : Nat} (hk : k < asks.length) :
    runFrames ts now next (asks.drop k) = fr (tabAt ts now).slots ++ runFrames ts (stepNow ts.length now next asks[k]) (-1) (asks.drop (k + 1)) := by
  rw [List.drop_eq_getElem_cons hk]; rfl

/-- The box of the modes at the end of the old memory, and the list that grows. -/
structure RM (w : World) (A : Option Addr) (n c : Nat) (now next : Int) (Ao : Option Addr) (co : Nat) (out : List Int) (wx : World) : Prop where
  bel : Below w.heap.size w wx
  box : wx.heap[w.heap.size]? = some (.cells #[.slice A n c, .int .i64 now, .int .i64 next] 25 (0, 0))
  own : Own eInt 3 wx (w.heap.size + 1) (.slice Ao out.length co) out
section
variable {w wx w' : World} {A A' Ao Ao' : Option Addr} {n c c' co co' : Nat} {now next now' next' : Int} {out out' : List Int}
theorem RM.size (s : RM w A n c now next Ao co out wx) : w.heap.size + 1 ≤ wx.heap.size := (Array.getElem?_eq_some_iff.1 s.box).1
theorem RM.keep (s : RM w A n c now next Ao co out wx) (hb : Below wx.heap.size wx w') : RM w A n c now next Ao co out w' :=
  ⟨bel_trans s.bel hb, blkc s.box hb, s.own.next hb⟩
theorem RM.put {n' : Nat} (s : RM w A n c now next Ao co out wx) : RM w A' n' c' now' next' Ao co out (((wx.setCell ⟨w.heap.size, 0, none⟩ (.slice A' n' c')).setCell ⟨w.heap.size, 1, none⟩ (.int .i64 now')).setCell ⟨w.heap.size, 2, none⟩ (.int .i64 next')) :=
  ⟨bset3 s.bel (Nat.le_refl _) _ _ _, set3 s.box, s.own.kept (gset3 _ _ _) (fun k hk => by cases hk; omega)⟩
theorem RM.app {row : Option Nat} {v : Value} (s : RM w A n c now next Ao co out wx) (hg : wx.grownBy w' row)
    (hr : ∀ k, row = some k → w.heap.size + 1 ≤ k ∧ v.ownBlock = some k ∧ ∃ cur, wx.heap[k]? = some (.cells cur 3 (0, 0)))
    (ho : Own eInt 3 w' (w.heap.size + 1) (.slice Ao' out'.length co') out') : RM w A n c now next Ao' co' out' w' :=
  ⟨s.bel.grown hg s.bel.size (fun k hk => by have := (hr k hk).1; omega), gblk hg s.box (fun e => by have := (hr _ e.symm).1; omega), ho⟩
end
set_option maxRecDepth 100000 in
set_option maxHeartbeats 3200000 in
theorem callRunModes (A : Option Addr) (c : Nat) (ts : List Tab) (now next parts : Int) (Aa : Option Addr) (ca : Nat) (asks : List Int) (w : World) (B : Nat) (hB : B ≤ w.heap.size) (hm : ts.length ≤ 1048576) (hma : asks.length ≤ 1048576) (hp1 : -10 ≤ parts) (hp2 : parts ≤ 10) (hr : RdT w B A ts) (hra : Rd eInt w B Aa asks) :
    Calls Try.prog 16 #[.agg #[.slice A ts.length c, .int .i64 now, .int .i64 next], .int .i64 parts, .slice Aa asks.length ca] w fun e w' =>
      ∃ Ao co, e = .returned (.slice Ao (runModes ts now next parts asks).length co) ∧ (runModes ts now next parts asks).length ≤ co ∧ Own eInt 3 w' w.heap.size (.slice Ao (runModes ts now next parts asks).length co) (runModes ts now next parts asks) ∧ Below w.heap.size w w' := by
  obtain ⟨R, hR⟩ : ∃ R, R = runModes ts now next parts asks := ⟨_, rfl⟩
  rw [← hR]
  have E : Hid (R = if modOk ts now next parts && decide (asks.length ≤ 10) then runFrames ts now next asks else []) := hR
  clear hR
  have K0 := Lib.hid (heap_alloc_new w (.cells #[.slice A ts.length c, .int .i64 now, .int .i64 next] 25))
  have HV := Lib.hid (below1 w (.cells #[.slice A ts.length c, .int .i64 now, .int .i64 next] 25))
  have HR := Lib.hid (hr.below (HV.out.mono hB))
  have HR0 := Lib.hid hr
  have HA0 := Lib.hid hra
  clear hr hra
  go_enter Try.func16, Try.ntmps16
  go_upto_region 1 with (fail)
  obtain ⟨u, hu⟩ : ∃ u, u = w.alloc (.cells #[.slice A ts.length c, .int .i64 now, .int .i64 next] 25) := ⟨_, rfl⟩
  rw [← hu] at HV K0 HR ⊢
  clear hu
  obtain ⟨x0, x1, x2, x3, x4, x5, x6⟩ := cell3 K0.out
  go_wp2_with fail
  refine (callModesValid A c ts now next parts u B (by omega) hm hp1 hp2 HR.out).mono ?_
  rintro e w1 ⟨rfl, hb1⟩
  have HB1 := Lib.hid (bel_trans HV.out hb1)
  have KP := Lib.hid (blkc K0.out hb1)
  clear hb1 K0 HR HV x0 x1 x2 x3 x4 x5 x6
  cases q : modOk ts now next parts
  · rw [q] at E
    obtain rfl : R = [] := E.out
    clear q E
    go_wp2
    go_ret
    exact ⟨none, 0, rfl, Nat.le_refl _, Own.none_, HB1.out⟩
  · rw [q] at E
    by_cases h10 : asks.length ≤ 10
    · have hR : R = runFrames ts now next asks := by rw [E.out, decide_eq_true h10]; rfl
      have hd : decide ((asks.length : Int) > 10) = false := decide_eq_false (by omega)
      have S1 : Hid (RM w A ts.length c now next none 0 [] w1) := ⟨HB1.out, KP.out, Own.none_⟩
      have HQ := Lib.hid q
      have HREQ := Lib.hid hR
      clear q E hR KP
      have hts : ts.length ≤ 4 := (modOk_next HQ.out).2.2.2.2.1
      go_wp2_with fail
      go_loopw [7, 9, 21] (fun s7 _ i wr => ∃ (k : Nat) (Ao : Option Addr) (co : Nat) (out : List Int) (nw nx : Int), i = .int .i64 k ∧ k ≤ asks.length ∧ s7 = .slice Ao out.length co ∧ out.length ≤ 240 * k ∧ Hid (RM w A ts.length c nw nx Ao co out wr) ∧ Hid (modOk ts nw nx parts = true) ∧ Hid (out ++ runFrames ts nw nx (asks.drop k) = R)) (fun _ _ i _ => asks.length - (intOf i).toNat)
      case atStart => exact ⟨0, none, 0, [], now, next, rfl, by omega, rfl, by simp, S1.out, HQ.out, HREQ.out.symm⟩
      case round =>
        clear S1 HQ HREQ
        obtain ⟨k, Ao, co, out, nw, nx, rfl, hk, rfl, hol, SR, HQ, HREQ⟩ := hrel
        by_cases hlt : k < asks.length
        · have hd1 : decide ((k : Int) < (asks.length : Int)) = true := decide_eq_true (by omega)
          obtain ⟨n, hn, rfl, hcur, hs, _⟩ := mod_cur HQ.out
          have HRr := Lib.hid (HR0.out.below (SR.out.bel.mono hB))
          have HAr := Lib.hid (HA0.out.below (SR.out.bel.mono hB))
          have hwr := SR.out.size
          obtain ⟨ba, oa, rfl, hbA, h1⟩ := HAr.out.at1 rfl hlt rfl
          obtain ⟨bt, ot, rfl, hbT, h2⟩ := HRr.out.1.at1 rfl hn rfl
          have hd2 : decide ((n : Int) < (ts.length : Int)) = true := decide_eq_true (by omega)
          have FC := Lib.hid (callFrame ts[n].A ts[n].c ts[n].slots parts wr B (by omega) hs (HRr.out.slots hn).1)
          have hfl := (fr_bd hs).2.1
          obtain ⟨f, hf⟩ : ∃ f, f = fr ts[n].slots := ⟨_, rfl⟩
          have HSTEP : Hid (runFrames ts n nx (asks.drop k) = f ++ runFrames ts (stepNow ts.length n nx asks[k]) (-1) (asks.drop (k + 1))) := by
            show _ = _
            rw [runFrames_drop hlt, hcur, hf]
          have HQ2 := Lib.hid (modOk_step (a := asks[k]) HQ.out)
          have HNX := Lib.hid (endNext_ok (modOk_next (modOk_ask (a := asks[k]) HQ.out)).1)
          rw [← hf] at FC hfl
          clear hf hcur hs HAr HRr HQ
          obtain ⟨x0, x1, x2, x3, x4, x5, x6⟩ := cell3 SR.out.box
          go_wp2_with fail
          refine FC.out.mono ?_
          rintro e w2 ⟨v, rfl, hown, hb2⟩
          obtain ⟨A2, c2, hv, hc2, _⟩ := hown.form
          subst hv
          have S2 := Lib.hid (SR.out.keep hb2)
          have HF2 := Lib.hid hown.rd
          have hroom : out.length + f.length ≤ 1073741824 := by omega
          have hsz2 := S2.out.size
          obtain ⟨out2, ho2⟩ : ∃ out2, out2 = out ++ f := ⟨_, rfl⟩
          have HO2 := Lib.hid ho2
          have hl2 : out2.length ≤ 240 * (k + 1) := by rw [ho2, List.length_append]; omega
          clear hown hb2 FC ho2 x0 x1 x2 x3 x4 x5 x6 h1 h2 SR
          go_wp2_with (at_builtin; refine wpList_app _ eiInt rfl (.tmp 25) (.tmp 32) rfl (w.heap.size + 1) S2.out.own HF2.out rfl rfl rfl hroom hsz2 ?_; intro v' w4 row hown4 hg4 hrow4; rw [← HO2.out] at hown4; obtain ⟨A4, c4, hv4, hc4, _⟩ := hown4.form; subst hv4; have S4 := Lib.hid (S2.out.app hg4 hrow4 hown4); clear hown4 hg4 hrow4; obtain ⟨y0, y1, y2, y3, y4, y5, y6⟩ := cell3 S4.out.box)
          refine (callAsk (some ⟨bt, ot, none⟩) ts.length c n nx asks[k] w4 (by omega)).mono ?_
          rintro e w5 ⟨rfl, hb5⟩
          have S5 := Lib.hid (S4.out.keep hb5)
          obtain ⟨an, han⟩ : ∃ an, an = askNext ts.length nx asks[k] := ⟨_, rfl⟩
          have HST : Hid (stepNow ts.length n nx asks[k] = endNow n an) := by show stepNow _ _ _ _ = _; rw [han]; rfl
          rw [← han] at HNX ⊢
          have S6 := Lib.hid (S5.out.put (n' := ts.length) (A' := some ⟨bt, ot, none⟩) (c' := c) (now' := n) (next' := an))
          clear han hb5 S4 S2 HF2 y0 y1 y2 y3 y4 y5 y6
          obtain ⟨y0, y1, y2, y3, y4, y5, y6⟩ := cell3 S5.out.box
          obtain ⟨z0, z1, z2, z3, z4, z5, z6⟩ := cell3 S6.out.box
          clear S5
          go_upto_region 9 with (fail)
          obtain ⟨w6, hw6⟩ : ∃ w6, w6 = (((w5.setCell ⟨w.heap.size, 0, none⟩ (.slice (some ⟨bt, ot, none⟩) ts.length c)).setCell ⟨w.heap.size, 1, none⟩ (.int .i64 n)).setCell ⟨w.heap.size, 2, none⟩ (.int .i64 an)) := ⟨_, rfl⟩
          rw [← hw6] at S6 z0 z1 z2 z3 z4 z5 z6 ⊢
          clear hw6 y0 y1 y2 y3 y4 y5 y6
          go_wp2_with fail
          refine (callEnd (some ⟨bt, ot, none⟩) ts.length c n an w6).mono ?_
          rintro e w7 ⟨rfl, hb7⟩
          rw [HNX.out]
          have S7 := Lib.hid (S6.out.keep hb7)
          obtain ⟨en, hen⟩ : ∃ en, en = endNow n an := ⟨_, rfl⟩
          rw [← hen] at HST ⊢
          have S8 := Lib.hid (S7.out.put (n' := ts.length) (A' := some ⟨bt, ot, none⟩) (c' := c) (now' := en) (next' := -1))
          clear hen hb7 S6 z0 z1 z2 z3 z4 z5 z6
          obtain ⟨y0, y1, y2, y3, y4, y5, y6⟩ := cell3 S7.out.box
          clear S7
          go_wp2_with fail
          go_roundw
          case rel => exact ⟨k + 1, A4, c4, out2, en, -1, by go_num, by omega, rfl, hl2, S8.out, by rw [← HST.out]; exact HQ2, by show _ = _; rw [HO2.out, List.append_assoc, ← HST.out, ← HSTEP.out]; exact HREQ.out⟩
          case measure => simp [intOf]; omega
        · have hke : k = asks.length := by omega
          have hd1 : decide ((k : Int) < (asks.length : Int)) = false := decide_eq_false (by omega)
          have HF : Hid (R = out) := by
            have := HREQ.out
            rw [hke, List.drop_length] at this
            show R = out
            rw [← this]; simp [runFrames]
          clear hke
          have HOC := Lib.hid ((SR.out.own.clip).more (Nat.le_succ w.heap.size))
          have hco : out.length ≤ co := by
            obtain ⟨A9, c9, hv9, hc9, _⟩ := SR.out.own.form
            injection hv9 with _ _ h9
            omega
          go_wp2_with fail
          refine (callClipInt Ao out.length co hco wr).mono ?_
          rintro e w9 ⟨rfl, rfl⟩
          go_wp2
          go_ret
          rw [HF.out]
          exact ⟨Ao, out.length, rfl, Nat.le_refl _, HOC.out, SR.out.bel⟩
    · have hR : R = [] := by rw [E.out, decide_eq_false h10]; rfl
      subst hR
      have hd : decide ((asks.length : Int) > 10) = true := decide_eq_true (by omega)
      clear q E
      go_wp2
      go_ret
      exact ⟨none, 0, rfl, Nat.le_refl _, Own.none_, HB1.out⟩
end Go.Proofs.Ytapkgncmjinedaa
