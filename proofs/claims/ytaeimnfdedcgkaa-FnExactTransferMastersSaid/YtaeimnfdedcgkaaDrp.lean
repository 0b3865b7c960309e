/- What the drawing functions of partitions leave: partitions of the right shape, whatever the bytes. -/
import Derived.Test.YtaeimnfdedcgkaaDrw
import Derived.Test.YtaeimnfdedcgkaaPrt
namespace Go.Proofs.Ytaeimnfdedcgkaa
open Go.RowKit Go.Sort

/-- The windows of a partition are the call's own. -/
def OwnW (w : World) (base : Nat) (p : Prt) : Prop := Own eWin 39 w base (.slice p.A p.wins.length p.c) p.wins ∧ p.wins.length ≤ 1048576

theorem OwnW.grown {w w' : World} {base : Nat} {row : Option Nat} {p : Prt} (h : OwnW w base p) (hg : w.grownBy w' row) (hr : ∀ k, row = some k → k < base ∨ ∃ cur t fr, w.heap[k]? = some (.cells cur t fr) ∧ t ≠ 39) : OwnW w' base p := ⟨h.1.keptOther hg hr, h.2⟩
theorem OwnW.alloc {w : World} {base : Nat} {p : Prt} (h : OwnW w base p) (o : Obj) : OwnW (w.alloc o) base p := ⟨h.1.alloc o, h.2⟩

/-- Partitions that are the call's own. -/
def OwnP (w : World) (base : Nat) (v : Value) (ps : List Prt) : Prop := Own ePrt 37 w base v ps ∧ ∀ p, p ∈ ps → OwnW w base p

theorem OwnP.pick {w w' : World} {base g : Nat} {v : Value} {ps : List Prt} (h : OwnP w base v ps) (hg : w.grownBy w' (some g)) (hlt : g < base) : OwnP w' base v ps :=
  ⟨h.1.kept hg (fun k hk => by cases hk; exact hlt), fun p hp => (h.2 p hp).grown hg (fun k hk => by cases hk; exact .inl hlt)⟩
theorem OwnP.alloc {w : World} {base : Nat} {v : Value} {ps : List Prt} (h : OwnP w base v ps) (o : Obj) : OwnP (w.alloc o) base v ps := ⟨h.1.alloc o, fun p hp => (h.2 p hp).alloc o⟩

/-- Behind an append of one partition. -/
theorem OwnP.app {w w' : World} {base : Nat} {v v' : Value} {ps : List Prt} {p : Prt} {row : Option Nat} (h : OwnP w base v ps) (hp : OwnW w base p) (hown : Own ePrt 37 w' base v' (ps ++ [p])) (hg : w.grownBy w' row)
    (hr : ∀ k, row = some k → base ≤ k ∧ v.ownBlock = some k ∧ ∃ cur, w.heap[k]? = some (.cells cur 37 (0, 0))) : OwnP w' base v' (ps ++ [p]) := by
  have hr' : ∀ k, row = some k → k < base ∨ ∃ cur t fr, w.heap[k]? = some (.cells cur t fr) ∧ t ≠ 39 := fun k hk => by
    obtain ⟨_, _, cur, h⟩ := hr k hk
    exact .inr ⟨cur, _, _, h, by decide⟩
  refine ⟨hown, fun q hq => ?_⟩
  rcases List.mem_append.1 hq with hq | hq
  · exact (h.2 q hq).grown hg hr'
  · rw [List.mem_singleton] at hq
    subst hq
    exact hp.grown hg hr'

/-- Behind a store into one partition. -/
theorem OwnP.store {w : World} {base g n cap : Nat} {ps : List Prt} {i j : Nat} {x y : Prt} {u : Value} (h : OwnP w base (.slice (some ⟨g, 0, none⟩) n cap) ps) (hi : ps[i]? = some x) (hj : j < 2) (he : y.enc = x.enc.set j u) (hy : OwnW w base y) :
    OwnP (w.setCell ⟨g, i * 2 + j, none⟩ u) base (.slice (some ⟨g, 0, none⟩) n cap) (ps.set i y) := by
  have hne : ps ≠ [] := by intro e; simp [e] at hi
  obtain ⟨_, cur, hb⟩ := h.1.blk hne
  have hr' : ∀ k, some g = some k → k < base ∨ ∃ cur t fr, w.heap[k]? = some (.cells cur t fr) ∧ t ≠ 39 := fun k hk => by
    cases hk; exact .inr ⟨cur, _, _, hb, by decide⟩
  refine ⟨h.1.set (E := ePrt) hi hj he, fun q hq => ?_⟩
  rcases List.mem_or_eq_of_mem_set hq with hq | rfl
  · exact (h.2 q hq).grown (grown_set _ _) hr'
  · exact hy.grown (grown_set _ _) hr'

theorem OwnP.more' {w : World} {base base' : Nat} {v : Value} {ps : List Prt} (h : OwnP w base v ps) (_hb : base' < base) : OwnP w base v ps := h
theorem OwnP.rd {w : World} {base : Nat} {A : Option Addr} {n c : Nat} {ps : List Prt} (h : OwnP w base (.slice A n c) ps) : RdP w w.heap.size A ps :=
  ⟨h.1.rd, fun p hp => ⟨(h.2 p hp).1.rd, (h.2 p hp).2⟩⟩

set_option maxRecDepth 100000 in
set_option maxHeartbeats 3200000 in
theorem callDrawParts (g M : Nat) (n : Int) (w : World) (hr : Rdr w g M) (hM : M ≤ 600000) :
    Calls Try.prog 52 #[.pointer (some ⟨g, 0, none⟩), .int .i64 n] w fun e w' =>
      ∃ A c ps, e = .returned (.slice A (ps : List Prt).length c) ∧ OwnP w' w.heap.size (.slice A ps.length c) ps ∧ 0 < ps.length ∧ ps.length ≤ 10 ∧ Rdr w' g (M + 2000) ∧ w.grownBy w' (some g) := by
  have hgw := hr.lt
  have HR := Lib.hid hr
  clear hr
  go_enter Try.func52, Try.ntmps52
  go_wp2_with fail
  refine (callPick g M _ _ (HR.out.alloc _) (by omega)).mono ?_
  rintro e w1 ⟨k1, rfl, a1, a2, _, hr1, hg1⟩
  obtain ⟨j0, rfl⟩ := Int.eq_ofNat_of_zero_le a1
  have hj0 : j0 ≤ 3 := by omega
  clear a1 a2
  have G1 : w.grownBy w1 (some g) := grown_trans' (grown_alloc (World.grownBy.refl w _) _) hg1
  have H1 := Lib.hid (And.intro hr1 G1)
  clear hr1 hg1 G1
  go_wp2_with fail
  go_loopw [5, 6] (fun v i wr => ∃ (j : Nat) (ps : List Prt), i = .int .i64 j ∧ OwnP wr w.heap.size v ps ∧ ps.length + j = 1 + j0 ∧ Rdr wr g (M + 1 + 180 * ps.length) ∧ w.grownBy wr (some g)) (fun _ i _ => (intOf i).toNat)
  case atStart => exact ⟨1 + j0, [], by go_num, ⟨Own.none_, fun p hp => by cases hp⟩, by simp, H1.out.1, H1.out.2⟩
  case round =>
    obtain ⟨j, ps, rfl, hown, hlen, hrd, hgr⟩ := hrel
    have HH := Lib.hid (And.intro hown (And.intro hrd hgr))
    have hl1 : ps.length + j ≤ 1 + j0 := by omega
    have hl2 : 1 + j0 ≤ ps.length + j := by omega
    clear hown hrd hgr H1 hlen
    by_cases hj : 0 < j
    · obtain ⟨j', rfl⟩ : ∃ j', j = j' + 1 := ⟨j - 1, by omega⟩
      go_wp2_with fail
      refine (callDrawWindows g _ 2 0 _ HH.out.2.1 (by omega) (by omega) (by omega)).mono ?_
      rintro e w2 ⟨A, c, xs, rfl, hown2, hlen2, hr2, hg2⟩
      have H2 : Hid (OwnP w2 w.heap.size _ ps ∧ Own eWin 39 w2 w.heap.size (.slice A xs.length c) xs ∧ Rdr w2 g _ ∧ w.grownBy w2 (some g)) := ⟨HH.out.1.pick hg2 hgw, hown2.more HH.out.2.2.size, hr2, grown_trans' HH.out.2.2 hg2⟩
      clear hr2 hg2 HH hown2
      go_wp2_with fail
      refine (callPick g _ _ _ H2.out.2.2.1 (by omega)).mono ?_
      rintro e w3 ⟨k, rfl, b1, b2, _, hr3, hg3⟩
      have H3 : Hid (OwnP w3 w.heap.size _ ps ∧ OwnW w3 w.heap.size ⟨A, c, xs, 1 + k⟩ ∧ Rdr w3 g _ ∧ w.grownBy w3 (some g)) := ⟨H2.out.1.pick hg3 hgw, ⟨H2.out.2.1.kept hg3 (fun k hk => by cases hk; exact hgw), by simp only; omega⟩, hr3, grown_trans' H2.out.2.2.2 hg3⟩
      clear hr3 hg3 H2
      go_wp2_with (at_builtin; refine wpList_app _ eiPrt rfl (.tmp 15) (.tmp 22) rfl w.heap.size (H3.out.1.1.alloc _) (Rd.new (xs := [(⟨A, c, xs, 1 + k⟩ : Prt)]) _ _ _ rfl) rfl rfl rfl (by simp; omega) (by have := H3.out.2.2.2.size; simp; omega) ?_; intro v' w4 row hown4 hg4 hrow4)
      go_roundw
      case rel =>
        refine ⟨j', ps ++ [⟨A, c, xs, 1 + k⟩], rfl, (H3.out.1.alloc _).app (H3.out.2.1.alloc _) hown4 hg4 hrow4, by simp; omega, ?_, grown_new (grown_alloc H3.out.2.2.2 _) hg4 (fun k hk => (hrow4 k hk).1)⟩
        exact ((H3.out.2.2.1.alloc _).grown hg4 (fun k hk => by have := (hrow4 k hk).1; omega)).more (by simp; omega)
      case measure => simp [intOf]
    · have hj0' : j = 0 := by omega
      subst hj0'
      have hps : 0 < ps.length := by omega
      go_wp2_with fail
      refine (callOdd g _ _ _ HH.out.2.1 (by omega)).mono ?_
      rintro e w2 ⟨o1, rfl, hr2, hg2⟩
      have H2 := Lib.hid (And.intro (HH.out.1.pick hg2 hgw) (And.intro hr2 (grown_trans' HH.out.2.2 hg2)))
      clear hr2 hg2 HH
      obtain ⟨A0, c0, hv, hc0, hA0⟩ := H2.out.1.1.form
      subst hv
      cases o1
      · go_wp2_with fail
        go_ret
        exact ⟨A0, c0, ps, rfl, H2.out.1, hps, by omega, H2.out.2.1.more (by omega), H2.out.2.2⟩
      · obtain ⟨g0, rfl, hg0, hg0'⟩ := hA0 (by intro e; simp [e] at hps)
        go_wp2_with fail
        refine (callPick g _ _ _ H2.out.2.1 (by omega)).mono ?_
        rintro e w3 ⟨k, rfl, d1, d2, _, hr3, hg3⟩
        have H3 := Lib.hid (And.intro (H2.out.1.pick hg3 hgw) (And.intro hr3 (grown_trans' H2.out.2.2 hg3)))
        clear hr3 hg3 H2
        by_cases hk0 : k = 0
        · subst hk0
          go_wp2_with fail
          refine (callPick g _ _ _ (H3.out.2.1.alloc _) (by omega)).mono ?_
          rintro e w4 ⟨q, rfl, d3, d4, _, hr4, hg4⟩
          have hs4 : g < w3.heap.size := H3.out.2.1.lt
          have hc0' : w4.cell? ⟨w3.heap.size, 0, none⟩ = some (.int .i64 0) := hg4.cell (by rw [World.cell?_alloc_new]; rfl) (by simp; omega)
          have hc1' : w4.cell? ⟨w3.heap.size, 1, none⟩ = some (.int .i64 9) := hg4.cell (by rw [World.cell?_alloc_new]; rfl) (by simp; omega)
          have H4 := Lib.hid (And.intro ((H3.out.1.alloc _).pick hg4 hgw) (And.intro hr4 (grown_trans' (grown_alloc H3.out.2.2 _) hg4)))
          clear hr4 hg4 H3
          have hq : q = 0 ∨ q = 1 := by omega
          have hne : ps ≠ [] := by intro e; simp [e] at hps
          have hfz : w4.frozen? ⟨g0, 1, none⟩ = false := H4.out.1.1.frozen hne
          obtain ⟨bb, oo, hAA, _, e0, e1⟩ := H4.out.1.1.rd.at2 rfl hps rfl
          simp only [Option.some.injEq, Addr.mk.injEq, and_true] at hAA
          obtain ⟨rfl, rfl⟩ := hAA
          simp only [Nat.zero_mul, Nat.add_zero, Nat.zero_add] at e0 e1
          have fin : ∀ x : Int, OwnP (w4.setCell ⟨g0, 1, none⟩ (.int .i64 x)) w.heap.size (.slice (some ⟨g0, 0, none⟩) ps.length c0) (ps.set 0 { ps[0] with cells := x }) := fun x =>
            H4.out.1.store (i := 0) (j := 1) (x := ps[0]) (y := { ps[0] with cells := x }) (u := .int .i64 x) (List.getElem?_eq_getElem hps) (by decide) rfl (H4.out.1.2 ps[0] (List.getElem_mem hps))
          have FIN := Lib.hid fin
          clear fin
          rcases hq with rfl | rfl
          all_goals
            go_wp2_with fail
            go_ret
            have fin2 : ∀ (x : Int), (ps.set 0 { ps[0] with cells := x }).length = ps.length := fun x => List.length_set
            first
              | refine ⟨_, c0, ps.set 0 { ps[0] with cells := 0 }, by rw [fin2] <;> rfl, by rw [fin2]; exact FIN.out 0, by rw [fin2]; exact hps, by rw [fin2]; omega, ?_, ?_⟩
              | refine ⟨_, c0, ps.set 0 { ps[0] with cells := 9 }, by rw [fin2] <;> rfl, by rw [fin2]; exact FIN.out 9, by rw [fin2]; exact hps, by rw [fin2]; omega, ?_, ?_⟩
            · exact (H4.out.2.1.setNew (by show g < g0; omega) _).more (by omega)
            · exact grown_setNew H4.out.2.2 hg0 _
        · have hk0' : (k == 0) = false := by rw [beq_eq_false_iff_ne]; exact hk0
          by_cases hk1 : k = 1
          · subst hk1
            go_wp2_with fail
            refine (callDrawWindows g _ 1 1 _ H3.out.2.1 (by omega) (by omega) (by omega)).mono ?_
            rintro e w4 ⟨A, c, xs, rfl, hown4, hlen4, hr4, hg4⟩
            have H4 := Lib.hid (And.intro (H3.out.1.pick hg4 hgw) (And.intro hr4 (grown_trans' H3.out.2.2 hg4)))
            have hown4' : OwnW w4 w.heap.size ⟨A, c, xs, ps[0].cells⟩ := ⟨hown4.more H3.out.2.2.size, by simp only; omega⟩
            clear hr4 hg4 hown4 H3
            have hne : ps ≠ [] := by intro e; simp [e] at hps
            have hfz : w4.frozen? ⟨g0, 0, none⟩ = false := H4.out.1.1.frozen hne
            obtain ⟨bb, oo, hAA, _, e0, e1⟩ := H4.out.1.1.rd.at2 rfl hps rfl
            simp only [Option.some.injEq, Addr.mk.injEq, and_true] at hAA
            obtain ⟨rfl, rfl⟩ := hAA
            simp only [Nat.zero_mul, Nat.add_zero, Nat.zero_add] at e0 e1
            have FIN := Lib.hid (H4.out.1.store (i := 0) (j := 0) (x := ps[0]) (y := ⟨A, c, xs, ps[0].cells⟩) (u := .slice A xs.length c) (List.getElem?_eq_getElem hps) (by decide) rfl hown4')
            clear hown4'
            go_wp2_with fail
            go_ret
            have fin2 : (ps.set 0 ⟨A, c, xs, ps[0].cells⟩).length = ps.length := List.length_set
            refine ⟨_, c0, ps.set 0 ⟨A, c, xs, ps[0].cells⟩, by rw [fin2] <;> rfl, by rw [fin2]; exact FIN.out, by rw [fin2]; exact hps, by rw [fin2]; omega, ?_, ?_⟩
            · exact (H4.out.2.1.setNew (by show g < g0; omega) _).more (by omega)
            · exact grown_setNew H4.out.2.2 hg0 _
          · have hk1' : (k == 1) = false := by rw [beq_eq_false_iff_ne]; exact hk1
            have H3' : Hid (∃ m, m ≤ M + 1500 ∧ Rdr w3 g m) := ⟨_, by omega, H3.out.2.1⟩
            obtain ⟨m, hm, hrm⟩ := H3'.out
            have H4 := Lib.hid (And.intro H3.out.1 (And.intro hrm H3.out.2.2))
            clear hrm H3' H3
            go_wp2_with fail
            go_loopw [5] (fun v wr => ∃ (qs : List Prt), OwnP wr w.heap.size v qs ∧ 0 < qs.length ∧ qs.length ≤ 9 ∧ Rdr wr g m ∧ w.grownBy wr (some g)) (fun v _ => 10 - (match v with | .slice _ n _ => n | _ => 0))
            case atStart => exact ⟨ps, H4.out.1, hps, by omega, H4.out.2.1, H4.out.2.2⟩
            case round =>
              obtain ⟨qs, hown, hq0, hq1, hrd, hgr⟩ := hrel
              have H5 := Lib.hid (And.intro hown (And.intro hrd hgr))
              clear hown hrd hgr H4
              obtain ⟨A1, c1, hv, hc1, _⟩ := H5.out.1.1.form
              subst hv
              by_cases hl5 : qs.length ≤ 5
              · go_wp2_with (at_builtin; refine wpList_app _ eiPrt rfl (.tmp 32) (.tmp 34) rfl w.heap.size (H5.out.1.1.alloc _) (Rd.new (xs := [(⟨none, 0, [], 1⟩ : Prt)]) _ _ _ rfl) rfl rfl rfl (by simp; omega) (by have := H5.out.2.2.size; simp; omega) ?_; intro v' w4 row hown4 hg4 hrow4)
                obtain ⟨A2, c2, hv2, hc2, _⟩ := hown4.form
                subst hv2
                have hown5 : OwnP w4 w.heap.size _ (qs ++ [⟨none, 0, [], 1⟩]) := (H5.out.1.alloc _).app ⟨Own.nil, by simp⟩ hown4 hg4 hrow4
                go_roundw
                case rel => exact ⟨qs ++ [⟨none, 0, [], 1⟩], hown5, by simp, by simp; omega, (H5.out.2.1.alloc _).grown hg4 (fun k hk => by have := (hrow4 k hk).1; omega), grown_new (grown_alloc H5.out.2.2 _) hg4 (fun k hk => (hrow4 k hk).1)⟩
                case measure => simp; omega
              · go_wp2_with fail
                go_ret
                exact ⟨A1, c1, qs, rfl, H5.out.1, hq0, by omega, H5.out.2.1.more (by omega), H5.out.2.2⟩

theorem tdiv13 {q : Int} (h0 : 0 ≤ q) (h1 : q < 14) : 0 ≤ q / 13 ∧ q / 13 ≤ 1 := by omega

set_option maxHeartbeats 800000 in
theorem callDrawPartReach (A : Option Addr) (c : Nat) (bs : List Int) (w : World) (hc : bs.length ≤ c) (hm : bs.length ≤ 1048576) (hr : Rd eU8 w w.heap.size A bs) (hby : ∀ x ∈ bs, 0 ≤ x ∧ x ≤ 255) :
    Calls Try.prog 17 #[.slice A bs.length c] w fun e w' =>
      ∃ A c ps n, e = .returned (.tuple #[.slice A (ps : List Prt).length c, .int .i64 n]) ∧ RdP w' w'.heap.size A ps ∧ ps.length ≤ 10 ∧ Below w.heap.size w w' := by
  go_enter Try.func17, Try.ntmps17
  go_wp2_with fail
  refine (callOpen A c bs _ hc hm hr hby).mono ?_
  rintro e w1 ⟨rfl, hr1, hb1⟩
  have HB := Lib.hid hb1
  have HR := Lib.hid hr1
  have hs1 : w.heap.size < w1.heap.size := hr1.lt
  clear hr1 hb1
  go_wp2_with fail
  refine (callDrawParts w.heap.size 0 12 _ HR.out (by omega)).mono ?_
  rintro e w2 ⟨A, c, ps, rfl, hown, hp0, hp1, hr2, hg2⟩
  have H2 := Lib.hid (And.intro (hown.more' hs1) (And.intro hr2 (HB.out.trans ((Below.refl _ _).grown hg2 (by omega) (fun k hk => by cases hk; omega)))))
  clear hown hr2 hg2
  go_wp2_with fail
  refine (callPick w.heap.size _ _ _ H2.out.2.1 (by omega)).mono ?_
  rintro e w3 ⟨k, rfl, d1, d2, _, hr3, hg3⟩
  have H3 := Lib.hid (And.intro (H2.out.1.pick hg3 (by omega)) (And.intro hr3 (H2.out.2.2.trans ((Below.refl _ _).grown hg3 (by have := H2.out.2.2.size; omega) (fun k hk => by cases hk; omega)))))
  have dk : k < 11 := by omega
  clear hr3 hg3 H2 d2
  go_wp2_with fail
  refine (callPick w.heap.size _ _ _ H3.out.2.1 (by omega)).mono ?_
  rintro e w4 ⟨q, rfl, d3, d4, _, hr4, hg4⟩
  have H4 := Lib.hid (And.intro (H3.out.1.pick hg4 (by omega)) (And.intro hr4 (H3.out.2.2.trans ((Below.refl _ _).grown hg4 (by have := H3.out.2.2.size; omega) (fun k hk => by cases hk; omega)))))
  have dq : q < 14 := by omega
  clear hr4 hg4 H3 d4
  go_wp2
  go_ret2
  exact ⟨A, c, ps, _, rfl, H4.out.1.rd, hp1, H4.out.2.2⟩

set_option maxHeartbeats 800000 in
theorem callDrawSharedPlaces (A : Option Addr) (c : Nat) (bs : List Int) (w : World) (hc : bs.length ≤ c) (hm : bs.length ≤ 1048576) (hr : Rd eU8 w w.heap.size A bs) (hby : ∀ x ∈ bs, 0 ≤ x ∧ x ≤ 255) :
    Calls Try.prog 20 #[.slice A bs.length c] w fun e w' =>
      ∃ A c ps n m, e = .returned (.tuple #[.slice A (ps : List Prt).length c, .int .i64 n, .int .i64 m]) ∧ RdP w' w'.heap.size A ps ∧ ps.length ≤ 10 ∧ Below w.heap.size w w' := by
  go_enter Try.func20, Try.ntmps20
  go_wp2_with fail
  refine (callOpen A c bs _ hc hm hr hby).mono ?_
  rintro e w1 ⟨rfl, hr1, hb1⟩
  have HB := Lib.hid hb1
  have HR := Lib.hid hr1
  have hs1 : w.heap.size < w1.heap.size := hr1.lt
  clear hr1 hb1
  go_wp2_with fail
  refine (callDrawParts w.heap.size 0 12 _ HR.out (by omega)).mono ?_
  rintro e w2 ⟨A, c, ps, rfl, hown, hp0, hp1, hr2, hg2⟩
  have H2 := Lib.hid (And.intro (hown.more' hs1) (And.intro hr2 (HB.out.trans ((Below.refl _ _).grown hg2 (by omega) (fun k hk => by cases hk; omega)))))
  clear hown hr2 hg2
  go_wp2_with fail
  refine (callPick w.heap.size _ _ _ H2.out.2.1 (by omega)).mono ?_
  rintro e w3 ⟨k, rfl, d1, d2, _, hr3, hg3⟩
  have H3 := Lib.hid (And.intro (H2.out.1.pick hg3 (by omega)) (And.intro hr3 (H2.out.2.2.trans ((Below.refl _ _).grown hg3 (by have := H2.out.2.2.size; omega) (fun k hk => by cases hk; omega)))))
  have dk : k < 11 := by omega
  clear hr3 hg3 H2 d2
  go_wp2_with fail
  refine (callPick w.heap.size _ _ _ H3.out.2.1 (by omega)).mono ?_
  rintro e w4 ⟨q, rfl, d3, d4, _, hr4, hg4⟩
  have H4 := Lib.hid (And.intro (H3.out.1.pick hg4 (by omega)) (And.intro hr4 (H3.out.2.2.trans ((Below.refl _ _).grown hg4 (by have := H3.out.2.2.size; omega) (fun k hk => by cases hk; omega)))))
  have dq : q < 14 := by omega
  clear hr4 hg4 H3 d4
  go_wp2_with fail
  refine (callPick w.heap.size _ _ _ H4.out.2.1 (by omega)).mono ?_
  rintro e w5 ⟨m, rfl, d5, d6, _, hr5, hg5⟩
  have H5 := Lib.hid (And.intro (H4.out.1.pick hg5 (by omega)) (H4.out.2.2.trans ((Below.refl _ _).grown hg5 (by have := H4.out.2.2.size; omega) (fun k hk => by cases hk; omega))))
  clear hr5 hg5 H4 d6
  go_wp2
  go_ret3
  exact ⟨A, c, ps, _, _, rfl, H5.out.1.rd, hp1, H5.out.2⟩

set_option maxHeartbeats 800000 in
theorem callDrawPartsApart (A : Option Addr) (c : Nat) (bs : List Int) (w : World) (hc : bs.length ≤ c) (hm : bs.length ≤ 1048576) (hr : Rd eU8 w w.heap.size A bs) (hby : ∀ x ∈ bs, 0 ≤ x ∧ x ≤ 255) :
    Calls Try.prog 29 #[.slice A bs.length c] w fun e w' =>
      ∃ A c ps, e = .returned (.slice A (ps : List Prt).length c) ∧ RdP w' w'.heap.size A ps ∧ ps.length ≤ 10 ∧ ps.length ≤ c ∧ Below w.heap.size w w' := by
  go_enter Try.func29, Try.ntmps29
  go_wp2_with fail
  refine (callOpen A c bs _ hc hm hr hby).mono ?_
  rintro e w1 ⟨rfl, hr1, hb1⟩
  have HB := Lib.hid hb1
  have HR := Lib.hid hr1
  have hs1 : w.heap.size < w1.heap.size := hr1.lt
  clear hr1 hb1
  go_wp2_with fail
  refine (callDrawParts w.heap.size 0 9 _ HR.out (by omega)).mono ?_
  rintro e w2 ⟨A, c, ps, rfl, hown, hp0, hp1, hr2, hg2⟩
  obtain ⟨A', c', hv, hlc, _⟩ := hown.1.form
  injection hv with hA _ hcc
  subst hA; subst hcc
  have H2 := Lib.hid (And.intro hown (HB.out.trans ((Below.refl _ _).grown hg2 (by omega) (fun k hk => by cases hk; omega))))
  clear hown hr2 hg2
  go_wp2
  go_ret
  exact ⟨A, c, ps, rfl, H2.out.1.rd, hp1, hlc, H2.out.2⟩
end Go.Proofs.Ytaeimnfdedcgkaa
