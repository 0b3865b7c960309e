/- The reader of the drawn bytes: pick and odd return a number in range, whatever the bytes. -/
import Derived.Test.YtonhkadbiepedaaDoorRows
import Derived.Test.YtonhkadbiepedaaDoorData
import Derived.OpenShut
namespace Go.Proofs.YtonhkadbiepedaaDoor
open Go.RowKit Go.Sort

/-! ### Plain -/

theorem ofInt_i64 (a : Nat) (ha : a < 9223372036854775808) : (BitVec.ofInt 64 (a : Int)).toNat = a := by
  rw [BitVec.ofInt_natCast, BitVec.toNat_ofNat]; exact Nat.mod_eq_of_lt (by omega)
theorem i64_xor_nat (a b : Nat) (ha : a < 9223372036854775808) (hb : b < 9223372036854775808) : bits .xor .i64 (a : Int) (b : Int) = ((a ^^^ b : Nat) : Int) := by
  have hx : a ^^^ b < 2 ^ 63 := Nat.xor_lt_two_pow (by omega) (by omega)
  show IntKind.i64.wrap ((BitVec.ofInt 64 (a : Int) ^^^ BitVec.ofInt 64 (b : Int)).toNat : Int) = _
  rw [BitVec.toNat_xor, ofInt_i64 a ha, ofInt_i64 b hb, IntKind.wrap_i64]
  omega
theorem xor_range (x y : Int) (hx : 0 ≤ x) (hx' : x < 1073741824) (hy : 0 ≤ y) (hy' : y < 1073741824) : 0 ≤ bits .xor .i64 x y ∧ bits .xor .i64 x y < 1073741824 := by
  obtain ⟨a, rfl⟩ := Int.eq_ofNat_of_zero_le hx
  obtain ⟨b, rfl⟩ := Int.eq_ofNat_of_zero_le hy
  rw [i64_xor_nat a b (by omega) (by omega)]
  have hx : a ^^^ b < 2 ^ 30 := Nat.xor_lt_two_pow (by omega) (by omega)
  omega

abbrev eU8 : Enc Int := ⟨1, fun n => [.int .u8 n], fun _ => rfl, fun x u h => by simp only [List.mem_cons, List.mem_nil_iff, or_false] at h; subst h; rfl, by decide⟩

theorem bytes_of_cells {w : World} {x : Addr} {l c : Nat} {zs : List Int} (hl : l ≤ c) (hz : zs.length = c) (hcell : ∀ i, i < zs.length → w.cell? (x.add i) = some (.int .u8 (zs.getD i 0))) (hwz : ∀ n ∈ zs, (Lit.int .u8 n).wf = true) :
    ∃ bs : List Int, bs.length = l ∧ l ≤ c ∧ Rd eU8 w w.heap.size (some x) bs ∧ ∀ y ∈ bs, 0 ≤ y ∧ y ≤ 255 := by
  refine ⟨zs.take l, by rw [List.length_take]; omega, hl, fun hne => ?_, fun y hy => bounds_u8 (hwz y (List.mem_of_mem_take hy))⟩
  have h0 : 0 < zs.length := by
    rcases Nat.eq_zero_or_pos zs.length with h | h
    · exact absurd (List.eq_nil_of_length_eq_zero h) (fun e => hne (by simp [e]))
    · exact h
  obtain ⟨b, off, spot⟩ := x
  have hc := hcell 0 h0
  have hspot : spot = none := by simpa [Addr.add] using World.cell?_spot hc
  subst hspot
  have hlt : b < w.heap.size := by have := World.block_lt_of_cell? _ _ hc; simpa [Addr.add] using this
  refine ⟨b, off, rfl, hlt, fun i y hi j v hj => ?_⟩
  rw [List.getElem?_take] at hi
  split at hi
  · obtain ⟨hi', hy⟩ := List.getElem?_eq_some_iff.1 hi
    have := hcell i hi'
    rw [add_off] at this
    have hj0 : j = 0 := by
      have := (List.getElem?_eq_some_iff.1 hj).1
      simp at this; exact this
    subst hj0
    simp at hj
    subst hj
    show w.cell? ⟨b, off + i * 1 + 0, none⟩ = _
    rw [show off + i * 1 + 0 = off + i from by omega, this]
    simp [List.getD_eq_getElem?_getD, List.getElem?_eq_getElem hi', hy]
  · cases hi

/-- Block g is the reader: its bytes lie below it, and it has read at most M of them. -/
def Rdr (w : World) (g M : Nat) : Prop := ∃ (A : Option Addr) (c : Nat) (bs : List Int) (p : Int), w.heap[g]? = some (.cells #[.slice A bs.length c, .int .i64 p] 53 (0, 0)) ∧ 0 ≤ p ∧ p ≤ M ∧ bs.length ≤ 2000 ∧ Rd eU8 w g A bs ∧ ∀ x ∈ bs, 0 ≤ x ∧ x ≤ 255

theorem Rdr.lt {w : World} {g M : Nat} (h : Rdr w g M) : g < w.heap.size := by
  obtain ⟨A, c, bs, p, hb, _⟩ := h
  exact (Array.getElem?_eq_some_iff.1 hb).1
theorem Rdr.more {w : World} {g M M' : Nat} (h : Rdr w g M) (hM : M ≤ M') : Rdr w g M' := by
  obtain ⟨A, c, bs, p, hb, h0, h1, rest⟩ := h
  exact ⟨A, c, bs, p, hb, h0, by omega, rest⟩
theorem Rdr.keep {w w' : World} {g M : Nat} (h : Rdr w g M) (hb : Below (g + 1) w w') : Rdr w' g M := by
  obtain ⟨A, c, bs, p, hh, h0, h1, h2, hr, h3⟩ := h
  exact ⟨A, c, bs, p, (hb.block g (by omega)).trans hh, h0, h1, h2, hr.below (hb.mono (by omega)), h3⟩
theorem Rdr.next {w w' : World} {g M : Nat} (h : Rdr w g M) (hb : Below w.heap.size w w') : Rdr w' g M := h.keep (hb.mono (by have := h.lt; omega))
theorem Rdr.drew {w : World} {g M : Nat} (h : Rdr w g M) : Rdr w.drew g M := h
theorem Rdr.drewN {w : World} {g M : Nat} (h : Rdr w g M) (n : Nat) : Rdr (w.drewN n) g M := h
theorem Rdr.alloc {w : World} {g M : Nat} (h : Rdr w g M) (o : Obj) : Rdr (w.alloc o) g M := h.next (below1 w o)

/-- What pick leaves. -/
def Picked (w : World) (g M : Nat) (n : Int) (e : Ending) (w' : World) : Prop :=
  ∃ k : Int, e = .returned (.int .i64 k) ∧ 0 ≤ k ∧ (1 ≤ n → k < n) ∧ (n < 1 → k = 0) ∧ Rdr w' g (M + 1) ∧ w.grownBy w' (some g)

theorem emod_pick {x n : Int} (h : 1 ≤ n) : 0 ≤ x % n ∧ (1 ≤ n → x % n < n) ∧ (n < 1 → x % n = 0) := by
  refine ⟨Int.emod_nonneg _ (by omega), fun _ => Int.emod_lt_of_pos _ (by omega), fun h' => by omega⟩

theorem grown_set {w : World} {g : Nat} (o : Nat) (u : Value) : w.grownBy (w.setCell ⟨g, o, none⟩ u) (some g) :=
  ⟨rfl, rfl, rfl, by simp, fun k _ hk => Below.heap_setCell w _ _ _ (fun e => hk (by rw [e]))⟩
theorem grown_drewN {a w : World} {row : Option Nat} (h : a.grownBy w row) (n : Nat) : a.grownBy (w.drewN n) row := ⟨h.os, h.tape, h.output, h.size, h.block⟩

theorem rdr_after {w : World} {g M k : Nat} {A : Option Addr} {c : Nat} {bs : List Int} (hb : w.heap[g]? = some (.cells #[.slice A bs.length c, .int .i64 k] 53 (0, 0))) (hk : k ≤ M) (hbs : bs.length ≤ 2000) (hrd : Rd eU8 w g A bs) (hby : ∀ x ∈ bs, 0 ≤ x ∧ x ≤ 255) (n : Nat) :
    Rdr ((w.setCell ⟨g, 1, none⟩ (.int .i64 ((k : Int) + 1))).drewN n) g (M + 1) := by
  refine ⟨A, c, bs, (k : Int) + 1, ?_, by omega, by omega, hbs, ?_, hby⟩
  · show (w.setCell ⟨g, 1, none⟩ (.int .i64 ((k : Int) + 1))).heap[g]? = _
    rw [heap_setCell_same w g 1 _ _ _ hb]
    rfl
  · refine hrd.keep fun q hq => ?_
    show (w.setCell ⟨g, 1, none⟩ (.int .i64 ((k : Int) + 1))).cell? q = w.cell? q
    exact World.cell?_setCell_other _ _ _ _ (fun e => by subst e; exact absurd hq (Nat.lt_irrefl _))

set_option maxRecDepth 100000 in
set_option maxHeartbeats 1600000 in
theorem callPick (g M : Nat) (n : Int) (w : World) (hr : Rdr w g M) (hM : M ≤ 1000000) :
    Calls Tryd.prog 20 #[.pointer (some ⟨g, 0, none⟩), .int .i64 n] w (Picked w g M n) := by
  obtain ⟨A, c, bs, p, hb, hp0, hp1, hbs, hrd, hby⟩ := hr
  obtain ⟨k, rfl⟩ := Int.eq_ofNat_of_zero_le hp0
  have hg : g < w.heap.size := (Array.getElem?_eq_some_iff.1 hb).1
  have c0 : w.cell? ⟨g, 0, none⟩ = some (.slice A bs.length c) := cell_of_row w g 0 _ _ _ hb
  have c1 : w.cell? ⟨g, 1, none⟩ = some (.int .i64 k) := cell_of_row w g 1 _ _ _ hb
  have f1 : w.frozen? ⟨g, 1, none⟩ = false := frozen_of_row w g 1 _ _ hb
  have hkM : k ≤ M := by omega
  have RA := Lib.hid (fun m => rdr_after hb hkM hbs hrd hby m)
  have RG : ∀ m, w.grownBy ((w.setCell ⟨g, 1, none⟩ (.int .i64 ((k : Int) + 1))).drewN m) (some g) := fun m => grown_drewN (grown_set 1 _) m
  have RGH := Lib.hid RG
  clear RG
  by_cases hn : n < 1
  · clear hby hb hrd
    go_enter Tryd.func20, Tryd.ntmps20
    go_wp2
    go_ret
    exact ⟨0, rfl, by omega, fun _ => by omega, fun _ => rfl, RA.out 0, RGH.out 0⟩
  have hn1 : 1 ≤ n := by omega
  clear hn
  by_cases hz : bs.length = 0
  · have hz' : ((bs.length : Int) == 0) = true := by simp [hz]
    clear hby hb hrd
    have HZ := Lib.hid hz
    clear hz
    go_enter Tryd.func20, Tryd.ntmps20
    go_wp2
    go_ret
    exact ⟨0, rfl, by omega, fun _ => by omega, fun _ => rfl, RA.out 0, RGH.out 0⟩
  have hz' : ((bs.length : Int) == 0) = false := by rw [beq_eq_false_iff_ne]; omega
  by_cases hk : k < bs.length
  · obtain ⟨b, off, rfl, hbg, h1⟩ := hrd.at1 rfl hk rfl
    obtain ⟨g1, g2⟩ := hby _ (List.getElem_mem hk)
    have hcb : (w.setCell ⟨g, 1, none⟩ (.int .i64 ((k : Int) + 1))).cell? ⟨b, off + k, none⟩ = some (.int .u8 bs[k]) := by
      rw [World.cell?_setCell_other _ _ _ _ (fun e => by injection e with e1 _ _; omega)]; exact h1
    clear h1 hb hby hrd
    generalize bs[k] = x at *
    have hlt : (k : Int) < (bs.length : Int) := by omega
    have e1 : 0 ≤ x % n := Int.emod_nonneg _ (by omega)
    have e2 : x % n < n := Int.emod_lt_of_pos _ (by omega)
    have H1 := Lib.hid e1
    have H2 := Lib.hid e2
    clear e1 e2
    go_enter Tryd.func20, Tryd.ntmps20
    go_wp2
    go_ret
    exact ⟨x % n, rfl, H1.out, fun _ => H2.out, fun h => by omega, RA.out 0, RGH.out 0⟩
  · have hl0 : 0 < bs.length := by omega
    have m1 : k % bs.length < bs.length := Nat.mod_lt _ hl0
    have m2 : (k * 7 + 3) % bs.length < bs.length := Nat.mod_lt _ hl0
    obtain ⟨b, off, rfl, hbg, h1⟩ := hrd.at1 rfl m1 rfl
    obtain ⟨b', off', hA, _, h2⟩ := hrd.at1 rfl m2 rfl
    simp only [Option.some.injEq, Addr.mk.injEq, and_true] at hA
    obtain ⟨rfl, rfl⟩ := hA
    obtain ⟨g1, g2⟩ := hby _ (List.getElem_mem m1)
    obtain ⟨g3, g4⟩ := hby _ (List.getElem_mem m2)
    have hca : (w.setCell ⟨g, 1, none⟩ (.int .i64 ((k : Int) + 1))).cell? ⟨b, off + k % bs.length, none⟩ = some (.int .u8 bs[k % bs.length]) := by
      rw [World.cell?_setCell_other _ _ _ _ (fun e => by injection e with e1 _ _; omega)]; exact h1
    have hcb : (w.setCell ⟨g, 1, none⟩ (.int .i64 ((k : Int) + 1))).cell? ⟨b, off + (k * 7 + 3) % bs.length, none⟩ = some (.int .u8 bs[(k * 7 + 3) % bs.length]) := by
      rw [World.cell?_setCell_other _ _ _ _ (fun e => by injection e with e1 _ _; omega)]; exact h2
    clear h1 h2 hb hby hrd
    generalize bs[k % bs.length] = x at *
    generalize bs[(k * 7 + 3) % bs.length] = y at *
    have hge : ¬ ((k : Int) < (bs.length : Int)) := by omega
    have r1 : (k : Int).tmod (bs.length : Int) = (k : Int) % (bs.length : Int) := Int.tmod_eq_emod_of_nonneg (by omega)
    have r2 : 0 ≤ (k : Int) % (bs.length : Int) := Int.emod_nonneg _ (by omega)
    have r3 : (k : Int) % (bs.length : Int) < (bs.length : Int) := Int.emod_lt_of_pos _ (by omega)
    have r4 : ((k : Int) % (bs.length : Int)).toNat = k % bs.length := by rw [← Int.natCast_emod]; rfl
    have t1 : IntKind.i64.wrap ((k : Int) * 7) = (k : Int) * 7 := IntWalk.i64_in _ (by omega)
    have t2 : IntKind.i64.wrap ((k : Int) * 7 + 3) = (k : Int) * 7 + 3 := IntWalk.i64_in _ (by omega)
    have t3 : ((k : Int) * 7 + 3).tmod (bs.length : Int) = ((k : Int) * 7 + 3) % (bs.length : Int) := Int.tmod_eq_emod_of_nonneg (by omega)
    have t4 : 0 ≤ ((k : Int) * 7 + 3) % (bs.length : Int) := Int.emod_nonneg _ (by omega)
    have t5 : ((k : Int) * 7 + 3) % (bs.length : Int) < (bs.length : Int) := Int.emod_lt_of_pos _ (by omega)
    have t6 : (((k : Int) * 7 + 3) % (bs.length : Int)).toNat = (k * 7 + 3) % bs.length := by
      rw [show ((k : Int) * 7 + 3) = ((k * 7 + 3 : Nat) : Int) from by omega, ← Int.natCast_emod]; rfl
    have s1 : IntKind.i64.wrap (x * 131) = x * 131 := IntWalk.i64_in _ (by omega)
    have s2 : IntKind.i64.wrap (y * 1117) = y * 1117 := IntWalk.i64_in _ (by omega)
    have s3 : IntKind.i64.wrap (x * 131 + y * 1117) = x * 131 + y * 1117 := IntWalk.i64_in _ (by omega)
    have s4 : IntKind.i64.wrap ((k : Int) * 29) = (k : Int) * 29 := IntWalk.i64_in _ (by omega)
    have s5 : IntKind.i64.wrap (x * 131 + y * 1117 + (k : Int) * 29) = x * 131 + y * 1117 + (k : Int) * 29 := IntWalk.i64_in _ (by omega)
    have q0 : 0 ≤ (k : Int) / (bs.length : Int) := Int.ediv_nonneg (by omega) (by omega)
    have q1 : (k : Int) / (bs.length : Int) ≤ k := Int.ediv_le_self _ (by omega)
    have q2 : (k : Int).tdiv (bs.length : Int) = (k : Int) / (bs.length : Int) := Int.tdiv_eq_ediv_of_nonneg (by omega)
    have Q2 := Lib.hid q2
    clear q2
    generalize hq : (k : Int) / (bs.length : Int) = q at *
    clear hq
    have q3 := Q2.out
    have s0 : IntKind.i64.wrap q = q := IntWalk.i64_in _ (by omega)
    have s6 : IntKind.i64.wrap (q * 53) = q * 53 := IntWalk.i64_in _ (by omega)
    have s7 : IntKind.i64.wrap (x * 131 + y * 1117 + (k : Int) * 29 + q * 53) = x * 131 + y * 1117 + (k : Int) * 29 + q * 53 := IntWalk.i64_in _ (by omega)
    have z0 : 0 ≤ x * 131 + y * 1117 + (k : Int) * 29 + q * 53 := by omega
    have z1 : x * 131 + y * 1117 + (k : Int) * 29 + q * 53 < 1073741824 := by omega
    have hlne : ((bs.length : Int) == 0) = false := hz'
    have hln : ¬ ((bs.length : Int) = 0) := by omega
    have hln' : ¬ (bs.length = 0) := by omega
    go_enter Tryd.func20, Tryd.ntmps20
    go_wp2
    go_quiet (fail)
    clear r1 r2 r3 r4 t1 t2 t3 t4 t5 t6 s0 s1 s2 s3 s4 s5 s6 s7 q0 q1 q3 Q2
    generalize x * 131 + y * 1117 + (k : Int) * 29 + q * 53 = X at *
    clear hca hcb
    obtain ⟨y0, y1⟩ := xor_range X (X / 64) z0 z1 (by omega) (by omega)
    generalize hY : bits .xor .i64 X (X / 64) = Y at *
    have e1 : 0 ≤ Y % n := Int.emod_nonneg _ (by omega)
    have e2 : Y % n < n := Int.emod_lt_of_pos _ (by omega)
    have H1 := Lib.hid e1
    have H2 := Lib.hid e2
    clear e1 e2
    go_wp2
    go_ret
    exact ⟨Y % n, rfl, H1.out, fun _ => H2.out, fun h => by omega, RA.out _, RGH.out _⟩

set_option maxHeartbeats 400000 in
/-- What odd leaves: some truth value. -/
def Odd (w : World) (g M : Nat) (e : Ending) (w' : World) : Prop := ∃ b : Bool, e = .returned (.bool b) ∧ Rdr w' g (M + 1) ∧ w.grownBy w' (some g)

theorem callOdd (g M : Nat) (n : Int) (w : World) (hr : Rdr w g M) (hM : M ≤ 1000000) :
    Calls Tryd.prog 30 #[.pointer (some ⟨g, 0, none⟩), .int .i64 n] w (Odd w g M) := by
  by_cases hn : 0 < n
  · go_enter Tryd.func30, Tryd.ntmps30
    go_wp2_with fail
    refine (callPick g M n w hr hM).mono ?_
    rintro e w1 ⟨k, rfl, k0, k1, _, hr1, hg1⟩
    have HR := Lib.hid hr1
    have HG := Lib.hid hg1
    clear hr1 hg1
    go_wp2
    go_ret
    exact ⟨_, rfl, HR.out, HG.out⟩
  · have hn' : n ≤ 0 := by omega
    clear hn
    go_enter Tryd.func30, Tryd.ntmps30
    go_wp2
    go_ret
    exact ⟨false, rfl, hr.more (by omega), World.grownBy.refl _ _⟩
end Go.Proofs.YtonhkadbiepedaaDoor
