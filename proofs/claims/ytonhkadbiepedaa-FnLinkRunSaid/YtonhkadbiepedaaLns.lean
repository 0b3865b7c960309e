/- LinkRun of the program and of the reference, for every input. -/
import Derived.Test.YtonhkadbiepedaaLnr
import Derived.Test.YtonhkadbiepedaaLkv
import Derived.Test.YtonhkadbiepedaaDlk
namespace Go.Proofs.Ytonhkadbiepedaa
open Go.RowKit Go.Sort

/-- The loop of LinkRun: the link in its box, and what has arrived. -/
structure LRS (w : World) (X : Nat) (d : Int) (ps : List Pkt) (A : Option Addr) (c : Nat) (v : Value) (out : List Int) (wx : World) : Prop where
  bel : Below w.heap.size w wx
  box : wx.heap[X]? = some (.cells #[.int .i64 d, .slice A ps.length c] 36 (0, 0))
  own : Own ePkt 46 wx (X + 1) (.slice A ps.length c) ps
  hc : ps.length ≤ c
  out : Own eInt 3 wx (X + 1) v out
  hX : w.heap.size ≤ X
section
variable {w wx w' : World} {X : Nat} {d : Int} {ps q : List Pkt} {A A' : Option Addr} {c c' : Nat} {v : Value} {out : List Int}
theorem LRS.next (s : LRS w X d ps A c v out wx) (hb : Below wx.heap.size wx w') : LRS w X d ps A c v out w' :=
  ⟨bel_trans s.bel hb, blkc s.box hb, s.own.next hb, s.hc, s.out.next hb, s.hX⟩
theorem LRS.drew (s : LRS w X d ps A c v out wx) : LRS w X d ps A c v out wx.drew := s.next (Below.refl _ _).drew
theorem LRS.set (s : LRS w X d ps A c v out wx) (hb : Below wx.heap.size wx w') (ho : Own ePkt 46 w' wx.heap.size (.slice A' q.length c') q) (hc' : q.length ≤ c') :
    LRS w X d q A' c' v out ((w'.setCell ⟨X, 0, none⟩ (.int .i64 d)).setCell ⟨X, 1, none⟩ (.slice A' q.length c')) := by
  have hx := (cell2 s.box).2.2.2.2
  have t := s.next hb
  exact ⟨bset2 t.bel s.hX _ _, set2 t.box, (ho.more (base' := X + 1) hx).kept (gset2 _ _) (fun k hk => by cases hk; omega), hc', t.out.kept (gset2 _ _) (fun k hk => by cases hk; omega), s.hX⟩
theorem LRS.app {v' : Value} {out' : List Int} {row : Option Nat} (s : LRS w X d ps A c v out wx) (ho : Own eInt 3 w' (X + 1) v' out') (hg : wx.grownBy w' row) (hrow : ∀ k, row = some k → X + 1 ≤ k ∧ v.ownBlock = some k ∧ ∃ cur, wx.heap[k]? = some (.cells cur 3 (0, 0))) : LRS w X d ps A c v' out' w' := by
  have hx := (cell2 s.box).2.2.2.2
  have hX := s.hX
  exact ⟨s.bel.trans ((below_of_row hg (fun k hk => (hrow k hk).1) (by omega)).mono (by omega)), gblk hg s.box (fun e => by have := (hrow _ e.symm).1; omega), s.own.keptOther hg (fun k hk => .inr ((hrow k hk).2.2.elim fun cur hcur => ⟨cur, _, _, hcur, by decide⟩)), s.hc, ho, s.hX⟩
end

theorem callRunBad (n : Int) (w : World) : Calls Try.prog 50 #[.int .i64 n] w fun e w' => e = .returned (.bool (!vB n)) ∧ Below w.heap.size w w' := by
  go_enter Try.func50, Try.ntmps50
  go_wp2_with (go_at_call 37; refine (callIsValue _ _).mono ?_; rintro e w' ⟨rfl, rfl⟩)
  go_ret
  exact ⟨rfl, Below.refl _ _⟩
theorem egRunBad : ∀ (args : Array Value) (w : World), (callFunc 50 args).run Try.prog w = .ok (.enter 50 args) w := enters_fn Try.func50 (by kernel_rfl) rfl
theorem linkRun_bad {d : Int} {vs : List Int} (h : ((inB d 0 50 && decide (vs.length ≤ 40)) && vs.all vB) = false) : linkRun d vs = [] := by
  unfold linkRun; rw [h]; rfl
/-- What a call to LinkRun leaves: a list of the call's own. -/
def RunRes (w : World) (r : List Int) (e : Ending) (w' : World) : Prop :=
  ∃ A c, e = .returned (.slice A r.length c) ∧ Own eInt 3 w' w.heap.size (.slice A r.length c) r ∧ r.length ≤ c ∧ Below w.heap.size w w'
set_option maxRecDepth 100000 in
set_option maxHeartbeats 3200000 in
theorem callLinkRun (A : Option Addr) (c : Nat) (d : Int) (vs : List Int) (w : World) (B : Nat) (hB : B ≤ w.heap.size) (hm : vs.length ≤ 1000) (hr : Rd eInt w B A vs) :
    Calls Try.prog 27 #[.int .i64 d, .slice A vs.length c] w (RunRes w (linkRun d vs)) := by
  have hmf := run_makeFunc Try.prog
  have HC := Lib.hid (callContainsInt A c vs 50 #[] (fun x => !vB x) w B hB (by omega) hr egRunBad (fun x _ w' _ => callRunBad x w'))
  have hqq : (vs.any fun x => !vB x) = !vs.all vB := by rw [← not_any_not, Bool.not_not]
  obtain ⟨q, hq⟩ : ∃ q, q = vs.any fun x => !vB x := ⟨_, rfl⟩
  rw [← hq] at HC hqq
  clear hq
  have hbad := linkRun_bad (d := d) (vs := vs)
  have HR := Lib.hid hr
  clear hr
  cases q1 : inB d 0 50
  · rw [q1] at hbad
    rw [hbad rfl]
    clear hbad hqq HC
    go_enter Try.func27, Try.ntmps27
    go_wp2_with (go_at_call 44; refine (callIn _ _ _ _).mono ?_; rintro e w' ⟨rfl, rfl⟩)
    go_ret
    exact ⟨none, 0, rfl, Own.none_, Nat.le_refl _, Below.refl _ _⟩
  · by_cases hl : vs.length ≤ 40
    · have hd : decide (40 < (vs.length : Int)) = false := decide_eq_false (by omega)
      have hd2 : decide (40 < vs.length) = false := decide_eq_false (by omega)
      rw [q1, decide_eq_true hl] at hbad
      cases q
      · have hall : vs.all vB = true := by
          cases h : vs.all vB
          · rw [h] at hqq; cases hqq
          · rfl
        have hb := inB_iff.1 q1
        obtain ⟨dn, hdn⟩ := Int.eq_ofNat_of_zero_le hb.1
        have hE : Hid (linkRun d vs = (runL d vs (vs.length + dn)).2) := by
          show _ = _
          unfold linkRun
          rw [q1, decide_eq_true hl, hall]
          simp [hdn]
        have HI : Hid (∀ t, t ≤ 1000 → RunI d vs t (runL d vs t).1 (runL d vs t).2) := fun t ht => runL_ok hb.1 hb.2 hl t ht (fun i h _ => by rw [List.all_eq_true] at hall; exact hall _ (List.getElem_mem h))
        have HM : Hid (∀ t, t ≤ 1000 → MidI d vs t (midL d vs (runL d vs t).1 t) (runL d vs t).2) := fun t ht => (HI.out t ht).mid hb.1 hb.2 ht (fun h => by rw [List.all_eq_true] at hall; exact hall _ (List.getElem_mem h))
        have HS : Hid (∀ t (h : t < vs.length), midL d vs (runL d vs t).1 t = if linkFull d (runL d vs t).1 t then (runL d vs t).1 else (runL d vs t).1 ++ [⟨(t : Int) + d, vs[t]⟩]) := fun t h => by
          unfold midL; rw [List.getElem?_eq_getElem h]; rfl
        have HN : Hid (∀ t, vs.length ≤ t → midL d vs (runL d vs t).1 t = (runL d vs t).1) := fun t h => by
          unfold midL; rw [List.getElem?_eq_none h]
        have HT : Hid (∀ t, (runL d vs (t + 1)).1 = (midL d vs (runL d vs t).1 t).drop (cutN (midL d vs (runL d vs t).1 t) t) ∧ (runL d vs (t + 1)).2 = (runL d vs t).2 ++ ((midL d vs (runL d vs t).1 t).take (cutN (midL d vs (runL d vs t).1 t) t)).map Pkt.value) := fun t => ⟨rfl, rfl⟩
        have hsum : (vs.length : Int) + d = ((vs.length + dn : Nat) : Int) := by omega
        have HSUM := Lib.hid hsum
        have hdn50 : dn ≤ 50 := by omega
        obtain ⟨hd0, hd50⟩ := hb
        obtain ⟨r, hr⟩ : ∃ r, r = linkRun d vs := ⟨_, rfl⟩
        rw [← hr] at hE ⊢
        have HDN := Lib.hid hdn
        clear hbad hqq hall hdn hr hsum
        go_enter Try.func27, Try.ntmps27
        go_wp2_with (first | (go_at_call 44; refine (callIn _ _ _ _).mono ?_; rintro e w' ⟨rfl, rfl⟩) | (go_at_call 35; refine HC.out.mono ?_; rintro e w1 ⟨rfl, hb1⟩))
        have HB1 := Lib.hid hb1
        clear hb1
        have S0 : Hid (LRS w w1.heap.size d (runL d vs 0).1 none 0 (.slice none 0 0) (runL d vs 0).2 (w1.alloc (.cells #[.int .i64 d, .slice none 0 0] 36))) :=
          ⟨bel_trans HB1.out (below1 _ _), heap_alloc_new w1 _, Own.none_, Nat.le_refl _, Own.none_, HB1.out.size⟩
        obtain ⟨X, hX⟩ : ∃ X, X = w1.heap.size := ⟨_, rfl⟩
        rw [← hX] at S0 ⊢
        clear hX
        go_loopw [6, 28] (fun v i wr => ∃ (t : Nat) (A9 : Option Addr) (c9 : Nat), t ≤ vs.length + dn ∧ i = .int .i64 t ∧ Hid (LRS w X d (runL d vs t).1 A9 c9 v (runL d vs t).2 wr)) (fun _ i _ => vs.length + dn - (intOf i).toNat)
        case atStart => exact ⟨0, none, 0, by omega, rfl, S0.out⟩
        case round =>
          clear S0
          obtain ⟨t, A9, c9, ht, rfl, SR⟩ := hrel
          have hXw := SR.out.hX
          by_cases hlt : t < vs.length + dn
          · have hd3 : decide ((t : Int) < (vs.length : Int) + d) = true := decide_eq_true (by have := HDN.out; omega)
            have HIt := Lib.hid (HI.out t (by omega))
            have HMt := Lib.hid (HM.out t (by omega))
            have HTt := Lib.hid (HT.out t)
            have HSt := Lib.hid (HS.out t)
            have HNt := Lib.hid (HN.out t)
            obtain ⟨P, hP⟩ : ∃ P, P = (runL d vs t).1 := ⟨_, rfl⟩
            obtain ⟨O, hO⟩ : ∃ O, O = (runL d vs t).2 := ⟨_, rfl⟩
            obtain ⟨Q, hQ⟩ : ∃ Q, Q = midL d vs P t := ⟨_, rfl⟩
            rw [← hP, ← hO] at SR HIt
            rw [← hP, ← hO, ← hQ] at HMt HTt
            rw [← hP, ← hQ] at HSt HNt
            have hPl : P.length ≤ 20 := (linkOk_iff.1 HIt.out.ok).2.2
            have hQl : Q.length ≤ 20 := (linkOk_iff.1 HMt.out.ok).2.2
            have HQC := Lib.hid (linkOk_iff.1 HMt.out.ok).1
            have HOl : O.length ≤ 40 := by
              have := HIt.out.sub.length_le
              rw [List.length_append, List.length_take] at this; omega
            clear hP hO hQ
            obtain ⟨x0, x1, x2, x3, x4⟩ := cell2 SR.out.box
            go_upto_if 34 with (fail)
            go_cut [7] (fun s7 wx => ∃ (A1 : Option Addr) (c1 : Nat), s7 = .int .i64 t ∧ Hid (LRS w X d Q A1 c1 u6 O wx))
            case first =>
              by_cases hlv : t < vs.length
              · have hd4 : decide ((t : Int) < (vs.length : Int)) = true := decide_eq_true (by omega)
                have hd5 : decide (t < vs.length) = true := decide_eq_true hlv
                obtain ⟨b, off, rfl, hbB, h1⟩ := (HR.out.below (SR.out.bel.mono hB)).at1 rfl hlv rfl
                have HQE := Lib.hid (HSt.out hlv)
                obtain ⟨v, hv⟩ : ∃ v, v = vs[t] := ⟨_, rfl⟩
                rw [← hv] at h1 HQE
                clear hv
                have CS : Hid (∀ W, LRS w X d P A9 c9 u6 O W → Calls Try.prog 45 #[.agg #[.int .i64 d, .slice A9 P.length c9], .int .i64 t, .int .i64 v] W fun e w' => ∃ A1, e = .returned (.tuple #[.agg #[.int .i64 d, .slice A1 Q.length Q.length], .bool (!linkFull d P t)]) ∧ Own ePkt 46 w' W.heap.size (.slice A1 Q.length Q.length) Q ∧ Below W.heap.size W w') := fun W s => by
                  rw [HQE.out]
                  exact callLSend A9 c9 d P t v W W.heap.size (Nat.le_refl _) s.hc (by omega) hd0 hd50 (by omega) (by omega) s.own.rd
                obtain ⟨ff, hff⟩ : ∃ ff, ff = !linkFull d P t := ⟨_, rfl⟩
                rw [← hff] at CS
                clear hff
                go_wp2_with fail
                go_region_law (go_simp; go_at_call 45; (with_reducible refine (CS.out _ SR.out.drew).mono ?_); rintro e w5 ⟨A5, rfl, ho5, hb5⟩; obtain ⟨n0, n1, n2, n3, n4⟩ := cell2 (blkc SR.out.drew.box hb5); have S5 := Lib.hid (SR.out.drew.set hb5 ho5 (Nat.le_refl _)))
                all_goals
                  go_wp2_with fail
                  go_meet
                  case rel => exact ⟨A5, Q.length, rfl, S5.out⟩
              · have hd4 : decide ((t : Int) < (vs.length : Int)) = false := decide_eq_false (by omega)
                have hd5 : decide (t < vs.length) = false := decide_eq_false hlv
                have HQE := Lib.hid (HNt.out (by omega))
                go_wp2_with fail
                go_meet
                case rel => exact ⟨A9, c9, rfl, by rw [HQE.out]; exact SR.out⟩
            case rest =>
              clear x0 x1 x2 x3 x4 SR
              obtain ⟨A1, c1, rfl, SM⟩ := hcut
              obtain ⟨x0, x1, x2, x3, x4⟩ := cell2 SM.out.box
              have CT := Lib.hid (callLTake A1 c1 d Q t wc wc.heap.size (Nat.le_refl _) SM.out.hc (by omega) HQC.out SM.out.own.rd)
              obtain ⟨D, hD⟩ : ∃ D, D = Q.drop (cutN Q t) := ⟨_, rfl⟩
              obtain ⟨G, hG⟩ : ∃ G, G = (Q.take (cutN Q t)).map Pkt.value := ⟨_, rfl⟩
              have hGl : G.length ≤ 20 := by rw [hG, List.length_map, List.length_take]; omega
              rw [← hD, ← hG] at CT HTt
              clear hD hG
              go_wp2_with fail
              refine CT.out.mono ?_
              rintro e w5 ⟨B1, B2, rfl, ho5, hg5, hb5⟩
              have S5 := Lib.hid ((SM.out.set hb5 ho5 (Nat.le_refl _)).next (below1 _ (.cells #[.int .i64 d, .slice B1 D.length D.length] 36)))
              have HG5 := Lib.hid ((hg5.kept (gset2 (g := X) (.int .i64 d) (.slice B1 D.length D.length)) (fun k hk => by cases hk; omega)).alloc (.cells #[.int .i64 d, .slice B1 D.length D.length] 36)).rd
              obtain ⟨n0, n1, n2, n3, n4⟩ := cell2 (blkc SM.out.box hb5)
              have hsz : X + 1 ≤ (((w5.setCell ⟨X, 0, none⟩ (.int .i64 d)).setCell ⟨X, 1, none⟩ (.slice B1 D.length D.length)).alloc (.cells #[.int .i64 d, .slice B1 D.length D.length] 36)).heap.size := by simp; omega
              have HSZ := Lib.hid hsz
              clear ho5 hg5 x0 x1 x2 x3 x4 CT hsz
              go_wp2_with (at_builtin; refine wpList_app _ eiInt rfl (.tmp 52) (.tmp 53) rfl (X + 1) S5.out.out HG5.out rfl rfl rfl (by omega) HSZ.out ?_; intro v' w7 row hown7 hg7 hrow7)
              go_roundw
              case rel =>
                refine ⟨t + 1, B1, D.length, by omega, by go_num, ?_⟩
                have := S5.out.app hown7 hg7 hrow7
                rw [HTt.out.1, HTt.out.2]; exact this
              case measure => simp [intOf]; omega
          · have hd3 : decide ((t : Int) < (vs.length : Int) + d) = false := decide_eq_false (by have := HDN.out; omega)
            have hte : vs.length + dn = t := by omega
            rw [hte] at hE
            clear hte
            have HOW := Lib.hid SR.out.out
            have HBW := Lib.hid SR.out.bel
            obtain ⟨O, hO⟩ : ∃ O, O = (runL d vs t).2 := ⟨_, rfl⟩
            rw [← hO] at HOW hE
            clear hO HI HM HS HN HT
            obtain ⟨A2, c2, hv2, hc2, _⟩ := HOW.out.form
            subst hv2
            go_wp2_with fail
            refine (callClipInt A2 O.length c2 hc2 _).mono ?_
            rintro e w' ⟨rfl, rfl⟩
            go_wp2
            go_ret
            rw [hE.out]
            exact ⟨A2, O.length, rfl, HOW.out.clip.more (by omega), Nat.le_refl _, HBW.out⟩
      · have hall : vs.all vB = false := by
          cases h : vs.all vB
          · rfl
          · rw [h] at hqq; cases hqq
        rw [hall] at hbad
        rw [hbad rfl]
        clear hbad hqq hall
        go_enter Try.func27, Try.ntmps27
        go_wp2_with (first | (go_at_call 44; refine (callIn _ _ _ _).mono ?_; rintro e w' ⟨rfl, rfl⟩) | (go_at_call 35; refine HC.out.mono ?_; rintro e w1 ⟨rfl, hb1⟩))
        go_ret
        exact ⟨none, 0, rfl, Own.none_, Nat.le_refl _, hb1⟩
    · have hd : decide (40 < (vs.length : Int)) = true := decide_eq_true (by omega)
      have hd2 : decide (40 < vs.length) = true := decide_eq_true (by omega)
      rw [q1, decide_eq_false hl] at hbad
      rw [hbad rfl]
      clear hbad hqq HC
      go_enter Try.func27, Try.ntmps27
      go_wp2_with (go_at_call 44; refine (callIn _ _ _ _).mono ?_; rintro e w' ⟨rfl, rfl⟩)
      go_ret
      exact ⟨none, 0, rfl, Own.none_, Nat.le_refl _, Below.refl _ _⟩
end Go.Proofs.Ytonhkadbiepedaa
