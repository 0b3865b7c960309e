/- What DrawLeakTime leaves. -/
import Derived.Test.YtlkdngjpbohgaaaDrc
namespace Go.Proofs.Ytlkdngjpbohgaaa
open Go.RowKit Go.Sort

theorem row7 {q : Int} (h0 : 0 ≤ q) (h1 : q < 7) : ∃ kk jj : Nat, q = (kk : Int) ∧ jj < 3 ∧ (#[Value.int .i64 0, .int .i64 0, .int .i64 0, .int .i64 0, .int .i64 0, .int .i64 1, .int .i64 2] : Array Value)[kk]? = some (.int .i64 jj) ∧ kk < 7 := by
  have : q = 0 ∨ q = 1 ∨ q = 2 ∨ q = 3 ∨ q = 4 ∨ q = 5 ∨ q = 6 := by omega
  rcases this with rfl | rfl | rfl | rfl | rfl | rfl | rfl
  · exact ⟨0, 0, rfl, by omega, rfl, by omega⟩
  · exact ⟨1, 0, rfl, by omega, rfl, by omega⟩
  · exact ⟨2, 0, rfl, by omega, rfl, by omega⟩
  · exact ⟨3, 0, rfl, by omega, rfl, by omega⟩
  · exact ⟨4, 0, rfl, by omega, rfl, by omega⟩
  · exact ⟨5, 1, rfl, by omega, rfl, by omega⟩
  · exact ⟨6, 2, rfl, by omega, rfl, by omega⟩
theorem row3 {jj : Nat} (h : jj < 3) (a b c : Int) : ∃ x : Int, (#[Value.int .i64 a, .int .i64 b, .int .i64 c] : Array Value)[jj]? = some (.int .i64 x) := by
  have : jj = 0 ∨ jj = 1 ∨ jj = 2 := by omega
  rcases this with rfl | rfl | rfl
  · exact ⟨a, rfl⟩
  · exact ⟨b, rfl⟩
  · exact ⟨c, rfl⟩
theorem shl5 {r : Nat} (h : r < 5) : IntKind.i64.wrap ((2 : Int) ^ r) = (2 : Int) ^ r := by
  have : r = 0 ∨ r = 1 ∨ r = 2 ∨ r = 3 ∨ r = 4 := by omega
  rcases this with rfl | rfl | rfl | rfl | rfl <;> decide +kernel

theorem cell_lt {w : World} {b : Nat} {o : Obj} (h : w.heap[b]? = some o) : b < w.heap.size := (Array.getElem?_eq_some_iff.1 h).1
theorem gne {a b g : Nat} (_ : a < b) (h : g < a) : some a ≠ some g := by simp; omega
theorem cellOf {w : World} {b : Nat} {cs : Array Value} {T : TypeId} {k : Nat} {v : Value} (h : w.heap[b]? = some (.cells cs T (0, 0))) (hk : cs[k]? = some v) : w.cell? ⟨b, k, none⟩ = some v := by
  rw [cell_of_row w b k _ _ _ h]; exact hk
section
variable {u v : World} {g : Nat} {o3 o7 : Obj}
theorem gr_drew {a : World} {row : Option Nat} (h : a.grownBy u row) : a.grownBy u.drew row := ⟨h.os, h.tape, h.output, h.size, h.block⟩
theorem ga0 (h : (u.alloc o7).grownBy v (some g)) (hg : g < u.heap.size) : v.heap[u.heap.size]? = some o7 := gblk h (heap_alloc_new u o7) (by simp; omega)
theorem ga0d (h : (u.alloc o7).drew.grownBy v (some g)) (hg : g < u.heap.size) : v.heap[u.heap.size]? = some o7 := gblk (a := (u.alloc o7).drew) h (heap_alloc_new u o7) (by simp; omega)
theorem gb0 (h : ((u.alloc o3).alloc o7).grownBy v (some g)) (hg : g < u.heap.size) : v.heap[u.heap.size]? = some o3 := gblk h (alloc_at0 u o3 o7) (by simp; omega)
theorem gb1 (h : ((u.alloc o3).alloc o7).grownBy v (some g)) (hg : g < u.heap.size) : v.heap[u.heap.size + 1]? = some o7 := gblk h (alloc_at1 u o3 o7) (by simp; omega)
end

set_option maxRecDepth 100000 in
set_option maxHeartbeats 6400000 in
theorem callDrawLeakTime (A : Option Addr) (c : Nat) (bs : List Int) (w : World) (hc : bs.length ≤ c) (hm : bs.length ≤ 1048576) (hr : Rd eU8 w w.heap.size A bs) (hby : ∀ x ∈ bs, 0 ≤ x ∧ x ≤ 255) :
    Calls Try.prog 34 #[.slice A bs.length c] w fun e w' =>
      ∃ n A c qs A' c' ps, e = .returned (.tuple #[.int .i64 n, .slice A (qs : List Int).length c, .slice A' (ps : List Int).length c']) ∧ Rd eInt w' w'.heap.size A qs ∧ Rd eInt w' w'.heap.size A' ps ∧ qs.length ≤ c ∧ qs.length ≤ 61 ∧ ps.length ≤ c' ∧ ps.length ≤ 62 ∧ Below w.heap.size w w' := by
  go_enter Try.func34, Try.ntmps34
  go_wp2_with fail
  refine (callOpen A c bs _ hc hm hr hby).mono ?_
  rintro e w1 ⟨rfl, hr1, hb1⟩
  have HB := Lib.hid hb1
  have HR := Lib.hid hr1
  have hs1 : w.heap.size < w1.heap.size := hr1.lt
  clear hr1 hb1 hr
  obtain ⟨g, hg⟩ : ∃ g, g = w.heap.size := ⟨_, rfl⟩
  have hgw : w.heap.size ≤ g := by omega
  rw [← hg] at HR hs1 ⊢
  clear hg
  go_wp2_with fail
  have P1 : ∀ W, Rdr W g 0 → Calls Try.prog 45 #[.pointer (some ⟨g, 0, none⟩), .int .i64 5] W (Picked W g 0 5) := fun W h => callPick g 0 5 W h (by omega)
  have P2 : ∀ W, Rdr W g 1 → Calls Try.prog 45 #[.pointer (some ⟨g, 0, none⟩), .int .i64 7] W (Picked W g 1 7) := fun W h => callPick g 1 7 W h (by omega)
  have RA : Rdr w1.drew g 0 := HR.out.drew
  have RB : Rdr (w1.alloc (.cells #[.int .i64 0, .int .i64 0, .int .i64 0, .int .i64 0, .int .i64 0, .int .i64 1, .int .i64 2] 3)).drew g 0 := (HR.out.alloc _).drew
  have GA : w1.grownBy w1.drew (some g) := gr_drew (World.grownBy.refl _ _)
  have GB : w1.grownBy (w1.alloc (.cells #[.int .i64 0, .int .i64 0, .int .i64 0, .int .i64 0, .int .i64 0, .int .i64 1, .int .i64 2] 3)).drew (some g) := gr_drew (grown_alloc (World.grownBy.refl _ _) _)
  go_cut [6] (fun s6 wx => ∃ n : Int, s6 = .int .i64 n ∧ Hid (Rdr wx g 2 ∧ w1.grownBy wx (some g)))
  case first =>
    go_region_with (first
      | (go_at_call_of 45 (Value.int IntKind.i64 5)
         refine (P1 _ (by first | with_reducible exact RA | with_reducible exact RB)).mono ?_
         rintro e w2 ⟨k1, rfl, a1, a2, _, hr2, hg2⟩
         obtain ⟨r, rfl⟩ := Int.eq_ofNat_of_zero_le a1
         have hr5 : r < 5 := (by omega)
         have hsh := shl5 hr5
         have HG2 : w1.grownBy w2 (some g) := (by first | with_reducible exact grown_trans' GA hg2 | with_reducible exact grown_trans' GB hg2)
         have hgs2 : g < w2.heap.size := Nat.lt_of_lt_of_le hs1 HG2.size
         (first
          | (have q7 : w2.heap[w1.heap.size]? = some (.cells #[.int .i64 0, .int .i64 0, .int .i64 0, .int .i64 0, .int .i64 0, .int .i64 1, .int .i64 2] 3 (0, 0)) := (by with_reducible exact ga0d hg2 hs1)
             have lq7 : w1.heap.size < w2.heap.size := (cell_lt q7))
          | skip))
      | (go_at_call_of 45 (Value.int IntKind.i64 7)
         refine (P2 _ (by first | with_reducible exact hr2 | with_reducible exact hr2.alloc _ | with_reducible exact (hr2.alloc _).alloc _)).mono ?_
         rintro e w3 ⟨k2, rfl, b1, b2, _, hr3, hg3⟩
         obtain ⟨kk, jj, rfl, hj3, hrow, hk7⟩ := row7 b1 (by omega)
         obtain ⟨x, hx3⟩ := row3 hj3 ((2 : Int) ^ r) 3 0
         have HG3 : w1.grownBy w3 (some g) := (by first | with_reducible exact grown_trans' HG2 hg3 | with_reducible exact grown_trans' (grown_alloc HG2 _) hg3 | with_reducible exact grown_trans' (grown_alloc (grown_alloc HG2 _) _) hg3)
         have hi7 : (kk : Int) < 7 := (by omega)
         have hi3 : (jj : Int) < 3 := (by omega)
         (first
          | (have s7 : w3.heap[w2.heap.size]? = some (.cells #[.int .i64 0, .int .i64 0, .int .i64 0, .int .i64 0, .int .i64 0, .int .i64 1, .int .i64 2] 3 (0, 0)) := (by with_reducible exact gb0 hg3 hgs2)
             have s3 : w3.heap[w2.heap.size + 1]? = some (.cells #[.int .i64 ((2 : Int) ^ r), .int .i64 3, .int .i64 0] 3 (0, 0)) := (by with_reducible exact gb1 hg3 hgs2)
             have l7 := cell_lt s7
             have l3 := cell_lt s3
             have c7 := cellOf s7 hrow
             have c3 := cellOf s3 hx3)
          | (have s3 : w3.heap[w2.heap.size]? = some (.cells #[.int .i64 ((2 : Int) ^ r), .int .i64 3, .int .i64 0] 3 (0, 0)) := (by with_reducible exact gb0 hg3 hgs2)
             have s7 : w3.heap[w2.heap.size + 1]? = some (.cells #[.int .i64 0, .int .i64 0, .int .i64 0, .int .i64 0, .int .i64 0, .int .i64 1, .int .i64 2] 3 (0, 0)) := (by with_reducible exact gb1 hg3 hgs2)
             have l7 := cell_lt s7
             have l3 := cell_lt s3
             have c7 := cellOf s7 hrow
             have c3 := cellOf s3 hx3)
          | (have s3 : w3.heap[w2.heap.size]? = some (.cells #[.int .i64 ((2 : Int) ^ r), .int .i64 3, .int .i64 0] 3 (0, 0)) := (by with_reducible exact ga0 hg3 hgs2)
             have l3 := cell_lt s3
             have c3 := cellOf s3 hx3)
          | (have s7 : w3.heap[w2.heap.size]? = some (.cells #[.int .i64 0, .int .i64 0, .int .i64 0, .int .i64 0, .int .i64 0, .int .i64 1, .int .i64 2] 3 (0, 0)) := (by with_reducible exact ga0 hg3 hgs2)
             have l7 := cell_lt s7
             have c7 := cellOf s7 hrow)
          | skip)
         (first
          | (have t7 : w3.heap[w1.heap.size]? = some (.cells #[.int .i64 0, .int .i64 0, .int .i64 0, .int .i64 0, .int .i64 0, .int .i64 1, .int .i64 2] 3 (0, 0)) := (by first | with_reducible exact gblk hg3 q7 (gne lq7 hs1) | with_reducible exact gblk hg3 (blkc q7 (below1 _ _)) (gne lq7 hs1))
             have m7 := cell_lt t7
             have d7 := cellOf t7 hrow)
          | skip)
         have f7 : (w3.alloc (.cells #[.int .i64 0, .int .i64 0, .int .i64 0, .int .i64 0, .int .i64 0, .int .i64 1, .int .i64 2] 3)).cell? ⟨w3.heap.size, kk, none⟩ = some (.int .i64 jj) := cellOf (heap_alloc_new w3 (.cells #[.int .i64 0, .int .i64 0, .int .i64 0, .int .i64 0, .int .i64 0, .int .i64 1, .int .i64 2] 3)) hrow
         have f3 : (w3.alloc (.cells #[.int .i64 ((2 : Int) ^ r), .int .i64 3, .int .i64 0] 3)).cell? ⟨w3.heap.size, jj, none⟩ = some (.int .i64 x) := cellOf (heap_alloc_new w3 (.cells #[.int .i64 ((2 : Int) ^ r), .int .i64 3, .int .i64 0] 3)) hx3
         have f37 : ((w3.alloc (.cells #[.int .i64 ((2 : Int) ^ r), .int .i64 3, .int .i64 0] 3)).alloc (.cells #[.int .i64 0, .int .i64 0, .int .i64 0, .int .i64 0, .int .i64 0, .int .i64 1, .int .i64 2] 3)).cell? ⟨w3.heap.size + 1, kk, none⟩ = some (.int .i64 jj) := cellOf (alloc_at1 w3 (.cells #[.int .i64 ((2 : Int) ^ r), .int .i64 3, .int .i64 0] 3) (.cells #[.int .i64 0, .int .i64 0, .int .i64 0, .int .i64 0, .int .i64 0, .int .i64 1, .int .i64 2] 3)) hrow
         have f73 : ((w3.alloc (.cells #[.int .i64 0, .int .i64 0, .int .i64 0, .int .i64 0, .int .i64 0, .int .i64 1, .int .i64 2] 3)).alloc (.cells #[.int .i64 ((2 : Int) ^ r), .int .i64 3, .int .i64 0] 3)).cell? ⟨w3.heap.size + 1, jj, none⟩ = some (.int .i64 x) := cellOf (alloc_at1 w3 (.cells #[.int .i64 0, .int .i64 0, .int .i64 0, .int .i64 0, .int .i64 0, .int .i64 1, .int .i64 2] 3) (.cells #[.int .i64 ((2 : Int) ^ r), .int .i64 3, .int .i64 0] 3)) hx3
         have e37 : ((w3.alloc (.cells #[.int .i64 ((2 : Int) ^ r), .int .i64 3, .int .i64 0] 3)).alloc (.cells #[.int .i64 0, .int .i64 0, .int .i64 0, .int .i64 0, .int .i64 0, .int .i64 1, .int .i64 2] 3)).cell? ⟨w3.heap.size, jj, none⟩ = some (.int .i64 x) := cellOf (alloc_at0 w3 (.cells #[.int .i64 ((2 : Int) ^ r), .int .i64 3, .int .i64 0] 3) (.cells #[.int .i64 0, .int .i64 0, .int .i64 0, .int .i64 0, .int .i64 0, .int .i64 1, .int .i64 2] 3)) hx3
         have e73 : ((w3.alloc (.cells #[.int .i64 0, .int .i64 0, .int .i64 0, .int .i64 0, .int .i64 0, .int .i64 1, .int .i64 2] 3)).alloc (.cells #[.int .i64 ((2 : Int) ^ r), .int .i64 3, .int .i64 0] 3)).cell? ⟨w3.heap.size, kk, none⟩ = some (.int .i64 jj) := cellOf (alloc_at0 w3 (.cells #[.int .i64 0, .int .i64 0, .int .i64 0, .int .i64 0, .int .i64 0, .int .i64 1, .int .i64 2] 3) (.cells #[.int .i64 ((2 : Int) ^ r), .int .i64 3, .int .i64 0] 3)) hrow))
    all_goals (go_wp2_with fail; go_meet)
    all_goals exact ⟨x, rfl, (by first | with_reducible exact hr3 | with_reducible exact hr3.alloc _ | with_reducible exact (hr3.alloc _).alloc _), (by first | with_reducible exact HG3 | with_reducible exact grown_alloc HG3 _ | with_reducible exact grown_alloc (grown_alloc HG3 _) _)⟩
  case rest =>
    obtain ⟨n, rfl, HC⟩ := hcut
    have HBC : Hid (Below w.heap.size w wc) := HB.out.trans ((Below.refl _ _).grown HC.out.2 (by omega) (fun k hk => by cases hk; exact hgw))
    have hsc : g < wc.heap.size := HC.out.1.lt
    clear P1 P2 RA RB GA GB HR
    go_wp2_with fail
    refine (callDrawPlaces g 2 60 _ HC.out.1 (by omega)).mono ?_
    rintro e w4 ⟨Aq, cq, qs, rfl, hown4, hcq, hlq, hr4, hg4⟩
    have hs4 : wc.heap.size ≤ w4.heap.size := hg4.size
    have H4 := Lib.hid (And.intro hr4 (And.intro (RdI.of_own hown4) (HBC.out.trans ((Below.refl _ _).grown hg4 (by omega) (fun k hk => by cases hk; exact hgw)))))
    clear hr4 hg4 hown4 HC HBC
    obtain ⟨hi, hhi⟩ : ∃ hi, hi = w4.heap.size := ⟨_, rfl⟩
    rw [← hhi] at H4
    have hh4 : hi ≤ w4.heap.size := by omega
    have hh5 : wc.heap.size ≤ hi := by omega
    go_wp2_with fail
    refine (callDrawPlaces g (2 + 80) 60 _ H4.out.1 (by omega)).mono ?_
    rintro e w5 ⟨Ap, cp, ps, rfl, hown5, hcp, hlp, hr5, hg5⟩
    have hs5 : w4.heap.size ≤ w5.heap.size := hg5.size
    have H5 := Lib.hid (And.intro hr5 (And.intro (H4.out.2.1.keep hg5 (fun k hk => by cases hk; left; omega) hh4) (And.intro (H4.out.2.2.trans ((Below.refl _ _).grown hg5 (by omega) (fun k hk => by cases hk; exact hgw))) (hown5.more (base' := hi) hh4))))
    have hh6 : hi ≤ w5.heap.size := by omega
    clear hr5 hg5 hown5 H4 hhi
    by_cases hq : 0 < qs.length
    · have hd : decide ((0 : Int) < (qs.length : Int)) = true := decide_eq_true (by omega)
      go_wp2_with fail
      refine (callPick g _ _ _ H5.out.1 (by omega)).mono ?_
      rintro e w6 ⟨k, rfl, d1, d2, _, hr6, hg6⟩
      have H6 := Lib.hid (And.intro (H5.out.2.1.keep hg6 (fun k hk => by cases hk; left; omega) hh6) (And.intro (H5.out.2.2.1.trans ((Below.refl _ _).grown hg6 (by omega) (fun k hk => by cases hk; exact hgw))) (H5.out.2.2.2.kept hg6 (fun k hk => by cases hk; omega))))
      have hh7 : hi ≤ w6.heap.size := Nat.le_trans hh6 hg6.size
      clear hr6 hg6 H5
      by_cases hk : k = 0
      · subst hk
        obtain ⟨b, off, hA, hb1, hb2, _⟩ := H6.out.1 (by intro e; simp [e] at hq)
        subst hA
        obtain ⟨b', off', hA, hb3, h1⟩ := (H6.out.1.full hh7).at1 (k := 0) rfl hq rfl
        simp only [Option.some.injEq, Addr.mk.injEq, and_true] at hA
        obtain ⟨rfl, rfl⟩ := hA
        simp only [Nat.add_zero] at h1
        have hi0 : (0 : Int) < (qs.length : Int) := by omega
        obtain ⟨y, hy⟩ : ∃ y, y = qs[0] := ⟨_, rfl⟩
        rw [← hy] at h1
        clear hy
        go_wp2_with (at_builtin; refine wpList_app _ eiInt rfl (.tmp 34) (.tmp 38) rfl hi (H6.out.2.2.alloc _) (Rd.new (xs := [y]) _ _ _ rfl) rfl rfl rfl (by simp; omega) (by simp; omega) ?_; intro v' w7 row hown7 hg7 hrow7)
        obtain ⟨A7, c7, hv7, hc7, _⟩ := hown7.form
        subst hv7
        have hrw : ∀ k, row = some k → hi ≤ k := fun k hk => (hrow7 k hk).1
        go_ret3
        refine ⟨n, some ⟨b, off, none⟩, cq, qs, A7, c7, ps ++ [y], rfl, ?_, hown7.rd, hcq, hlq, hc7, by simp; omega, ?_⟩
        · exact ((H6.out.1.alloc (.cells #[.int .i64 y] 3) hh7).keep hg7 (fun k hk => by right; exact hrw k hk) (by simp; omega)).full (by have := hg7.size; simp at this; omega)
        · exact (H6.out.2.1.alloc (by have := H6.out.2.1.size; omega) _).trans ((Below.refl _ _).grown hg7 (by simp; omega) (fun k hk => by have := hrw k hk; omega))
      · have hk' : (k == 0) = false := by rw [beq_eq_false_iff_ne]; exact hk
        go_wp2_with fail
        go_ret3
        exact ⟨n, Aq, cq, qs, Ap, cp, ps, rfl, H6.out.1.full hh7, H6.out.2.2.rd, hcq, hlq, hcp, by omega, H6.out.2.1⟩
    · have hd : decide ((0 : Int) < (qs.length : Int)) = false := decide_eq_false (by omega)
      go_wp2_with fail
      go_ret3
      exact ⟨n, Aq, cq, qs, Ap, cp, ps, rfl, H5.out.2.1.full hh6, H5.out.2.2.2.rd, hcq, hlq, hcp, by omega, H5.out.2.2.1⟩
end Go.Proofs.Ytlkdngjpbohgaaa
