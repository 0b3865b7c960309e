/- What the drawing functions of slots leave: slots of the right shape, whatever the bytes. -/
import Derived.Test.YtapkgncmjinedaaDrw
import Derived.Test.YtapkgncmjinedaaFra
namespace Go.Proofs.Ytapkgncmjinedaa
open Go.RowKit Go.Sort

/-- A cell of a row of numbers that is known whole. -/
theorem lit_cell {w : World} {g : Nat} {T : TypeId} (l : List Int) (hb : w.heap[g]? = some (.cells (l.map (Value.int .i64)).toArray T (0, 0))) {lo hi : Int} (hl : ∀ x ∈ l, lo ≤ x ∧ x ≤ hi) {q : Int} (h0 : 0 ≤ q) (hq : q < l.length) :
    ∃ (k : Nat) (j : Int), q = (k : Int) ∧ w.cell? ⟨g, k, none⟩ = some (.int .i64 j) ∧ lo ≤ j ∧ j ≤ hi := by
  obtain ⟨k, rfl⟩ := Int.eq_ofNat_of_zero_le h0
  have hk : k < l.length := by omega
  refine ⟨k, l[k], rfl, ?_, hl _ (List.getElem_mem hk)⟩
  rw [cell_of_row w g k _ _ _ hb]
  simp [hk]

theorem grown_heap {a b : World} {row : Option Nat} {k : Nat} {o : Obj} (h : a.grownBy b row) (hk : a.heap[k]? = some o) (hne : some k ≠ row) : b.heap[k]? = some o :=
  (h.block k (Array.getElem?_eq_some_iff.1 hk).1 hne).trans hk

def valLen (v : Value) : Nat := match v with | .slice _ n _ => n | _ => 0

set_option maxRecDepth 100000 in
set_option maxHeartbeats 3200000 in
theorem callDrawSlots (g M : Nat) (parts n : Int) (w : World) (hr : Rdr w g M) (hM : M ≤ 800000) (hp0 : -10 ≤ parts) (hp1 : parts ≤ 20) :
    Calls Try.prog 86 #[.pointer (some ⟨g, 0, none⟩), .int .i64 parts, .int .i64 n] w fun e w' =>
      ∃ A c xs, e = .returned (.slice A (xs : List Slt).length c) ∧ Own eSlt 96 w' w.heap.size (.slice A xs.length c) xs ∧ xs.length ≤ 20 ∧ Rdr w' g (M + 20) ∧ w.grownBy w' (some g) := by
  have hgw := hr.lt
  have HR := Lib.hid hr
  clear hr
  go_enter Try.func86, Try.ntmps86
  go_wp2_with fail
  refine (callPick g M _ _ (HR.out.alloc _) (by omega)).mono ?_
  rintro e w1 ⟨k1, rfl, a1, a2, _, hr1, hg1⟩
  obtain ⟨j0, rfl⟩ := Int.eq_ofNat_of_zero_le a1
  have hj0 : j0 ≤ 5 := by omega
  clear a1 a2
  have G1 : w.grownBy w1 (some g) := grown_trans' (grown_alloc (World.grownBy.refl w _) _) hg1
  have H1 := Lib.hid (And.intro hr1 G1)
  clear hr1 hg1 G1
  go_wp2_with fail
  go_loopw [7, 8] (fun v i wr => ∃ (j : Nat) (xs : List Slt), i = .int .i64 j ∧ Own eSlt 96 wr w.heap.size v xs ∧ xs.length + j = 1 + j0 ∧ Rdr wr g (M + 1 + 2 * xs.length) ∧ w.grownBy wr (some g)) (fun _ i _ => (intOf i).toNat)
  case atStart => exact ⟨1 + j0, [], by go_num, Own.none_, by simp, H1.out.1, H1.out.2⟩
  case round =>
    obtain ⟨j, xs, rfl, hown, hlen, hrd, hgr⟩ := hrel
    have HH := Lib.hid (And.intro hown (And.intro hrd hgr))
    have hl1 : xs.length + j ≤ 1 + j0 := by omega
    have hl2 : 1 + j0 ≤ xs.length + j := by omega
    clear hown hrd hgr H1 hlen
    by_cases hj : 0 < j
    · obtain ⟨j', rfl⟩ : ∃ j', j = j' + 1 := ⟨j - 1, by omega⟩
      go_wp2_with fail
      refine (callPick g _ _ _ HH.out.2.1 (by omega)).mono ?_
      rintro e w2 ⟨k, rfl, b1, b2, b3, hr2, hg2⟩
      have hk20 : k ≤ 20 := by
        by_cases h : 1 ≤ parts + 1
        · have := b2 h; omega
        · have := b3 (by omega); omega
      have H2 := Lib.hid (And.intro (HH.out.1.kept hg2 (fun k hk => by cases hk; exact hgw)) (And.intro hr2 (grown_trans' HH.out.2.2 hg2)))
      clear hr2 hg2 HH b2 b3
      go_wp2_with fail
      refine (callPick g _ _ _ H2.out.2.1 (by omega)).mono ?_
      rintro e w3 ⟨q, rfl, d1, d2, _, hr3, hg3⟩
      have hq5 : q < 5 := by omega
      have H3 := Lib.hid (And.intro (H2.out.1.kept hg3 (fun k hk => by cases hk; exact hgw)) (And.intro hr3 (grown_trans' H2.out.2.2 hg3)))
      clear hr3 hg3 H2 d2
      go_wp2_with (at_builtin; refine wpList_app _ eiSlt rfl (.tmp 17) (.tmp 27) rfl w.heap.size (H3.out.1.alloc _) (Rd.new (xs := [(⟨k - 1, 1 + q⟩ : Slt)]) _ _ _ rfl) rfl rfl rfl (by simp; omega) (by have := H3.out.2.2.size; simp; omega) ?_; intro v' w4 row hown4 hg4 hrow4)
      go_roundw
      case rel =>
        refine ⟨j', xs ++ [⟨k - 1, 1 + q⟩], rfl, hown4, by simp; omega, ?_, grown_new (grown_alloc H3.out.2.2 _) hg4 (fun k hk => (hrow4 k hk).1)⟩
        exact ((H3.out.2.1.alloc _).grown hg4 (fun k hk => by have := (hrow4 k hk).1; omega)).more (by simp; omega)
      case measure => simp [intOf]
    · have hj0' : j = 0 := by omega
      subst hj0'
      have hps : 0 < xs.length := by omega
      go_wp2_with fail
      refine (callOdd g _ _ _ HH.out.2.1 (by omega)).mono ?_
      rintro e w2 ⟨o1, rfl, hr2, hg2⟩
      have H2 := Lib.hid (And.intro (HH.out.1.kept hg2 (fun k hk => by cases hk; exact hgw)) (And.intro hr2 (grown_trans' HH.out.2.2 hg2)))
      clear hr2 hg2 HH
      obtain ⟨A0, c0, hv, hc0, hA0⟩ := H2.out.1.form
      subst hv
      cases o1
      · go_wp2_with fail
        go_ret
        exact ⟨A0, c0, xs, rfl, H2.out.1, by omega, H2.out.2.1.more (by omega), H2.out.2.2⟩
      · obtain ⟨g0, rfl, hg0, hg0'⟩ := hA0 (by intro e; simp [e] at hps)
        go_wp2_with fail
        refine (callPick g _ _ _ H2.out.2.1 (by omega)).mono ?_
        rintro e w3 ⟨k, rfl, d1, d2, _, hr3, hg3⟩
        have H3 := Lib.hid (And.intro (H2.out.1.kept hg3 (fun k hk => by cases hk; exact hgw)) (And.intro hr3 (grown_trans' H2.out.2.2 hg3)))
        clear hr3 hg3 H2
        have hne : xs ≠ [] := by intro e; simp [e] at hps
        by_cases hk0 : k = 0
        · subst hk0
          go_wp2_with fail
          refine (callPick g _ _ _ (H3.out.2.1.alloc _) (by omega)).mono ?_
          rintro e w4 ⟨q, rfl, d3, d4, _, hr4, hg4⟩
          have hq2 : q < 2 := by omega
          have hs4 : g < w3.heap.size := H3.out.2.1.lt
          obtain ⟨kk, x, rfl, hx, _, _⟩ := lit_cell (w := w4) (g := w3.heap.size) [-2, parts] (grown_heap hg4 (heap_alloc_new w3 _) (by simp; omega)) (lo := -10) (hi := 20) (by simp; omega) d3 (by simpa using hq2)
          have H4 := Lib.hid (And.intro ((H3.out.1.alloc _).kept hg4 (fun k hk => by cases hk; exact hgw)) (And.intro hr4 (grown_trans' (grown_alloc H3.out.2.2 _) hg4)))
          clear hr4 hg4 H3 d4
          have hfz : w4.frozen? ⟨g0, 0, none⟩ = false := H4.out.1.frozen hne
          obtain ⟨bb, oo, hAA, _, e0, e1⟩ := H4.out.1.rd.at2 rfl hps rfl
          simp only [Option.some.injEq, Addr.mk.injEq, and_true] at hAA
          obtain ⟨rfl, rfl⟩ := hAA
          simp only [Nat.zero_mul, Nat.add_zero, Nat.zero_add] at e0 e1
          have FIN := Lib.hid (H4.out.1.set (i := 0) (j := 0) (x := xs[0]) (y := { xs[0] with who := x }) (u := .int .i64 x) (List.getElem?_eq_getElem hps) (by decide) rfl)
          go_wp2_with fail
          go_ret
          have fin2 : (xs.set 0 { xs[0] with who := x }).length = xs.length := List.length_set
          refine ⟨_, c0, xs.set 0 { xs[0] with who := x }, by rw [fin2] <;> rfl, by rw [fin2]; have := FIN.out; simpa using this, by rw [fin2]; omega, ?_, ?_⟩
          · exact (H4.out.2.1.setNew (by show g < g0; omega) _).more (by omega)
          · exact grown_setNew H4.out.2.2 hg0 _
        · have hk0' : (k == 0) = false := by rw [beq_eq_false_iff_ne]; exact hk0
          by_cases hk1 : k = 1
          · subst hk1
            go_wp2_with fail
            refine (callPick g _ _ _ (H3.out.2.1.alloc _) (by omega)).mono ?_
            rintro e w4 ⟨q, rfl, d3, d4, _, hr4, hg4⟩
            have hq2 : q < 2 := by omega
            have hs4 : g < w3.heap.size := H3.out.2.1.lt
            obtain ⟨kk, x, rfl, hx, _, _⟩ := lit_cell (w := w4) (g := w3.heap.size) [0, 21] (grown_heap hg4 (heap_alloc_new w3 _) (by simp; omega)) (lo := -10) (hi := 21) (by simp) d3 (by simpa using hq2)
            have H4 := Lib.hid (And.intro ((H3.out.1.alloc _).kept hg4 (fun k hk => by cases hk; exact hgw)) (And.intro hr4 (grown_trans' (grown_alloc H3.out.2.2 _) hg4)))
            clear hr4 hg4 H3 d4
            have hfz : w4.frozen? ⟨g0, 1, none⟩ = false := H4.out.1.frozen hne
            obtain ⟨bb, oo, hAA, _, e0, e1⟩ := H4.out.1.rd.at2 rfl hps rfl
            simp only [Option.some.injEq, Addr.mk.injEq, and_true] at hAA
            obtain ⟨rfl, rfl⟩ := hAA
            simp only [Nat.zero_mul, Nat.add_zero, Nat.zero_add] at e0 e1
            have FIN := Lib.hid (H4.out.1.set (i := 0) (j := 1) (x := xs[0]) (y := { xs[0] with ticks := x }) (u := .int .i64 x) (List.getElem?_eq_getElem hps) (by decide) rfl)
            go_wp2_with fail
            go_ret
            have fin2 : (xs.set 0 { xs[0] with ticks := x }).length = xs.length := List.length_set
            refine ⟨_, c0, xs.set 0 { xs[0] with ticks := x }, by rw [fin2] <;> rfl, by rw [fin2]; have := FIN.out; simpa using this, by rw [fin2]; omega, ?_, ?_⟩
            · exact (H4.out.2.1.setNew (by show g < g0; omega) _).more (by omega)
            · exact grown_setNew H4.out.2.2 hg0 _
          · have hk1' : (k == 1) = false := by rw [beq_eq_false_iff_ne]; exact hk1
            by_cases hk2 : k = 2
            · subst hk2
              go_wp2_with fail
              go_ret
              exact ⟨_, 0, [], rfl, Own.none_, by simp, (H3.out.2.1.alloc _).more (by omega), grown_alloc H3.out.2.2 _⟩
            · have hk2' : (k == 2) = false := by rw [beq_eq_false_iff_ne]; exact hk2
              have H3' : Hid (∃ m, m ≤ M + 20 ∧ Rdr w3 g m) := ⟨_, by omega, H3.out.2.1⟩
              obtain ⟨m, hm, hrm⟩ := H3'.out
              have H4 := Lib.hid (And.intro H3.out.1 (And.intro hrm H3.out.2.2))
              clear hrm H3' H3
              go_wp2_with fail
              go_loopw [7] (fun v wr => ∃ (ys : List Slt), Own eSlt 96 wr w.heap.size v ys ∧ 0 < ys.length ∧ ys.length ≤ 13 ∧ Rdr wr g m ∧ w.grownBy wr (some g)) (fun v _ => 14 - (match v with | .slice _ n _ => n | _ => 0))
              case atStart => exact ⟨xs, H4.out.1, hps, by omega, H4.out.2.1, H4.out.2.2⟩
              case round =>
                obtain ⟨ys, hown, hq0, hq1, hrd, hgr⟩ := hrel
                have H5 := Lib.hid (And.intro hown (And.intro hrd hgr))
                clear hown hrd hgr H4
                obtain ⟨A1, c1, hv, hc1, _⟩ := H5.out.1.form
                subst hv
                by_cases hl5 : ys.length ≤ 12
                · go_wp2_with (at_builtin; refine wpList_app _ eiSlt rfl (.tmp 37) (.tmp 39) rfl w.heap.size (H5.out.1.alloc _) (Rd.new (xs := [(⟨-1, 1⟩ : Slt)]) _ _ _ rfl) rfl rfl rfl (by simp; omega) (by have := H5.out.2.2.size; simp; omega) ?_; intro v' w4 row hown4 hg4 hrow4)
                  obtain ⟨A2, c2, hv2, hc2, _⟩ := hown4.form
                  subst hv2
                  go_roundw
                  case rel => exact ⟨ys ++ [⟨-1, 1⟩], hown4, by simp, by simp; omega, (H5.out.2.1.alloc _).grown hg4 (fun k hk => by have := (hrow4 k hk).1; omega), grown_new (grown_alloc H5.out.2.2 _) hg4 (fun k hk => (hrow4 k hk).1)⟩
                  case measure => simp; omega
                · go_wp2_with fail
                  go_ret
                  exact ⟨A1, c1, ys, rfl, H5.out.1, by omega, H5.out.2.1.more (by omega), H5.out.2.2⟩











end Go.Proofs.Ytapkgncmjinedaa
