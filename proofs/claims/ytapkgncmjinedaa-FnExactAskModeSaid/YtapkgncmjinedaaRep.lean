/- slices.Repeat of numbers, one element long, and what it needs of math/bits. -/
import Derived.Test.YtapkgncmjinedaaLib
import Derived.Laws.CopyOwn
import Derived.Deep.RegionLaw
import Derived.Shelf.Bits.Mul64
namespace Go.Proofs.Ytapkgncmjinedaa
open Go.RowKit Go.Sort Go.Shelf

set_option maxHeartbeats 1000000 in
theorem callMul64 (x y : Nat) (hx : x < 18446744073709551616) (hy : y < 18446744073709551616) (w : World) :
    Calls Try.prog 117 #[.int .u64 x, .int .u64 y] w fun e w' => e = .returned (.tuple #[.int .u64 ((x * y / 18446744073709551616 : Nat) : Int), .int .u64 ((x * y % 18446744073709551616 : Nat) : Int)]) ∧ w = w' := by
  obtain ⟨bd, bt, bw, hhi⟩ := Lib.mul64_hi x y hx hy
  have ba := Lib.half_mul_le (a := x / 4294967296) (b := y / 4294967296) (by omega) (by omega)
  have bb := Lib.half_mul_le (a := x / 4294967296) (b := y % 4294967296) (by omega) (by omega)
  have bc := Lib.half_mul_le (a := x % 4294967296) (b := y / 4294967296) (by omega) (by omega)
  have ba' : x / 4294967296 * (y / 4294967296) < 18446744073709551616 := by omega
  have bb' : x / 4294967296 * (y % 4294967296) < 18446744073709551616 := by omega
  have bc' : x % 4294967296 * (y / 4294967296) < 18446744073709551616 := by omega
  have bh1 : x / 4294967296 * (y / 4294967296) + (x / 4294967296 * (y % 4294967296) + x % 4294967296 * (y % 4294967296) / 4294967296) / 4294967296 < 18446744073709551616 := by omega
  have bh : x / 4294967296 * (y / 4294967296) + (x / 4294967296 * (y % 4294967296) + x % 4294967296 * (y % 4294967296) / 4294967296) / 4294967296 + ((x / 4294967296 * (y % 4294967296) + x % 4294967296 * (y % 4294967296) / 4294967296) % 4294967296 + x % 4294967296 * (y / 4294967296)) / 4294967296 < 18446744073709551616 := by omega
  go_enter Try.func117, Try.ntmps117
  go_wp2
  simp only [Mul64.maskN x hx, Mul64.maskN y hy, Mul64.divN, Mul64.mulN, Mul64.addN, Mul64.wrapN _ bd, Mul64.wrapN _ bb', Mul64.wrapN _ bt, Mul64.maskN _ bt, Mul64.wrapN _ bc', Mul64.wrapN _ bw, Mul64.wrapN _ ba', Mul64.wrapN _ bh1, Mul64.wrapN _ bh, Mul64.wrapM (x * y)]
  rw [hhi]
  go_ret2
  exact ⟨rfl, rfl⟩

set_option maxHeartbeats 1000000 in
theorem callMul (x y : Nat) (hx : x < 18446744073709551616) (hy : y < 18446744073709551616) (w : World) :
    Calls Try.prog 105 #[.int .u64 x, .int .u64 y] w fun e w' => e = .returned (.tuple #[.int .u64 ((x * y / 18446744073709551616 : Nat) : Int), .int .u64 ((x * y % 18446744073709551616 : Nat) : Int)]) ∧ w = w' := by
  have c64 := callMul64 x y hx hy
  go_enter Try.func105, Try.ntmps105
  go_wp2_with (go_at_call 117; refine (c64 _).mono ?_; rintro e w' ⟨rfl, rfl⟩)
  go_ret2
  exact ⟨rfl, rfl⟩

theorem flat_rep (x : Int) : ∀ n : Nat, (List.replicate n x).flatMap eInt.enc = List.replicate n (Value.int .i64 x)
  | 0 => rfl
  | n + 1 => by rw [List.replicate_succ, List.flatMap_cons, flat_rep x n, List.replicate_succ]; rfl

/-- A row of n cells whose first m are filled; what lies behind them. -/
def fill (m n : Nat) (x : Int) (R : List Value) : List Value := List.replicate m (.int .i64 x) ++ (List.replicate (n - m) (.int .i64 0) ++ R)
theorem fill_len {m n : Nat} (h : m ≤ n) (x : Int) (R : List Value) : (fill m n x R).length = n + R.length := by simp [fill]; omega
theorem fill_splice {m k n : Nat} (h : m + k ≤ n) (x : Int) (R : List Value) : splice (fill m n x R) m (List.replicate k (.int .i64 x)) = fill (m + k) n x R := by
  unfold splice fill
  rw [List.take_left' (by simp), ← List.append_assoc, List.replicate_append_replicate, List.length_replicate, List.drop_append, List.length_replicate]
  rw [List.drop_eq_nil_of_le (by simp), List.nil_append, List.drop_append, List.drop_replicate, List.length_replicate]
  rw [show m + k - m - (n - m) = 0 by omega, List.drop_zero]
  congr 3; omega
theorem fill_first {n : Nat} (h : 1 ≤ n) (x : Int) (R : List Value) : splice (fill 0 n x R) 0 [.int .i64 x] = fill 1 n x R := by
  have := fill_splice (m := 0) (k := 1) (n := n) (by omega) x R
  simpa using this
theorem fill_get {m n : Nat} {x : Int} {R : List Value} {w : World} {g : Nat} {t : TypeId} (hg : w.heap[g]? = some (.cells (fill m n x R).toArray t (0, 0))) {k : Nat} (hk : k ≤ m) : ∀ j v, (List.replicate k (Value.int .i64 x))[j]? = some v → w.cell? ((⟨g, 0, none⟩ : Addr).add j) = some v := by
  intro j v hv
  rw [List.getElem?_replicate] at hv
  split at hv
  · injection hv with hv
    subst hv
    rw [add_off, Nat.zero_add, cell_of_row w g j _ _ _ hg]
    simp only [List.getElem?_toArray, fill]
    rw [List.getElem?_append_left (by simp; omega), List.getElem?_replicate, if_pos (by omega)]
  · cases hv
theorem fill_made {n : Nat} {x : Int} {w : World} {g base : Nat} (h : Own eInt 3 w base (.slice (some ⟨g, 0, none⟩) n n) (List.replicate n 0)) (h1 : 1 ≤ n) : ∃ R, w.heap[g]? = some (.cells (fill 0 n x R).toArray 3 (0, 0)) := by
  rcases h with ⟨h, _⟩ | ⟨g', cap, cur, hv, hbg, hh, _, _, h3, h4⟩
  · have := congrArg List.length h; simp at this; omega
  · injection hv with hA
    injection hA with hA
    injection hA with hA
    subst hA
    refine ⟨cur.toList.drop n, ?_⟩
    rw [hh]
    rw [List.length_replicate, Nat.mul_one, flat_rep] at h4
    congr 2
    apply Array.toList_inj.1
    rw [List.toList_toArray]
    simp only [fill, List.replicate_zero, List.nil_append, Nat.sub_zero]
    rw [← h4, List.take_append_drop]

theorem fill_own {n : Nat} {x : Int} {R : List Value} {w : World} {g base : Nat} (hg : w.heap[g]? = some (.cells (fill n n x R).toArray 3 (0, 0))) (hb : base ≤ g) (hn : n ≤ 1048576) : Own eInt 3 w base (.slice (some ⟨g, 0, none⟩) n n) (List.replicate n x) := by
  refine .inr ⟨g, n, _, by rw [List.length_replicate], hb, hg, by simp, by unfold maxLen; omega, by simp [fill_len], ?_⟩
  simp only [List.length_replicate, fill, Nat.sub_self, List.replicate_zero, List.nil_append, Nat.mul_one]
  rw [List.take_left' (by simp), flat_rep]

theorem one_get {w : World} {b off : Nat} {x : Int} (h : w.cell? ⟨b, off, none⟩ = some (.int .i64 x)) : ∀ j v, [Value.int .i64 x][j]? = some v → w.cell? ((⟨b, off, none⟩ : Addr).add j) = some v := by
  intro j v hv
  cases j with
  | zero => simp at hv; subst hv; rw [add_off]; exact h
  | succ j => simp at hv
theorem one_one {x : Int} : ∀ v ∈ [Value.int .i64 x], v.oneCell' = true := fun v h => by rw [List.mem_singleton] at h; subst h; rfl
theorem rep_one (k : Nat) (x : Int) : ∀ v ∈ List.replicate k (Value.int .i64 x), v.oneCell' = true := fun v h => by rw [List.mem_replicate] at h; rw [h.2]; rfl

set_option maxRecDepth 100000 in
set_option maxHeartbeats 1600000 in
theorem callRepeatInt (b off c : Nat) (x : Int) (n : Nat) (w : World) (hbl : b < w.heap.size) (hc : w.cell? ⟨b, off, none⟩ = some (.int .i64 x)) (h1 : 1 ≤ n) (hn : n ≤ 1000) :
    Calls Try.prog 87 #[.slice (some ⟨b, off, none⟩) 1 c, .int .i64 n] w fun e w' => ∃ v, e = .returned v ∧ Own eInt 3 w' w.heap.size v (List.replicate n x) ∧ Below w.heap.size w w' := by
  have hm : ∀ W : World, Calls Try.prog 105 #[.int .u64 1, .int .u64 n] W fun e w' => e = .returned (.tuple #[.int .u64 0, .int .u64 n]) ∧ W = w' := fun W => by
    have := callMul 1 n (by omega) (by omega) W
    rw [Nat.one_mul, Nat.div_eq_of_lt (by omega), Nat.mod_eq_of_lt (by omega)] at this
    exact this
  have hz : (Try.prog.info? 3).map (·.size) = some 1 := by kernel_rfl
  go_enter Try.func87, Try.ntmps87
  go_wp2_with fail
  refine (hm _).mono ?_
  rintro e w' ⟨rfl, rfl⟩
  go_wp2_with (first
    | (at_make; refine wpList_mkE (E := eInt) _ Try.underlying26 (z := .int .i64 0) (m := 8) (by kernel_rfl) (by decide) (0 : Int) rfl rfl _ _ rfl w.heap.size n n n rfl rfl rfl rfl (by omega) (Nat.le_refl _) ?_; intro w1 hown1 hb1; obtain ⟨R, hR⟩ := fill_made (x := x) hown1 h1; have HR := Lib.hid hR; have hs := one_get ((hb1.cell hbl).trans hc); have HS := Lib.hid hs; clear hR hs hown1)
    | (with_reducible refine wpList_copy_splice rfl (.tmp 31) (.tmp 32) 26 26 rfl 3 Try.underlying26 hz _ _ _ _ _ _ rfl rfl w.heap.size 0 (fill 0 n x R) 3 HR.out [.int .i64 x] (Nat.min_eq_left h1).symm (fun _ => ⟨rfl, _, rfl, HS.out⟩) (by rw [fill_len (by omega)]; simp only [List.length_singleton]; omega) one_one w.heap.size w hb1 (Nat.le_refl _) ?_; intro w2 hR2 hb2; rw [fill_first h1] at hR2; clear hb1))
  go_loopw [8] (fun c wr => ∃ m : Nat, 1 ≤ m ∧ m ≤ n ∧ c = .int .i64 m ∧ Below w.heap.size w wr ∧ Hid (wr.heap[w.heap.size]? = some (.cells (fill m n x R).toArray 3 (0, 0)))) (fun c _ => n - (intOf c).toNat)
  case atStart => exact ⟨1, by omega, h1, rfl, hb2, hR2⟩
  case round =>
    obtain ⟨m, hm1, hm2, rfl, hbl2, hR3⟩ := hrel
    by_cases hlt : m < n
    · have hne : ¬ (n = m) := by omega
      obtain ⟨q, hq⟩ : ∃ q, q = Nat.min m (n - m) := ⟨_, rfl⟩
      have q1 : 1 ≤ q := by rw [hq]; exact Nat.le_min.2 ⟨hm1, by omega⟩
      have q2' : q ≤ n - m := by rw [hq]; exact Nat.min_le_right _ _
      have q2 : m + q ≤ n := by omega
      have q3 : q ≤ m := by rw [hq]; exact Nat.min_le_left _ _
      have HQ := Lib.hid hq
      clear hq
      go_wp2
      go_region_law (refine step_copy_splice rfl (.tmp 41) (.tmp 44) 26 26 rfl 3 Try.underlying26 hz (some ⟨w.heap.size, m, none⟩) (some ⟨w.heap.size, 0, none⟩) (n - m) (n - m) m n (by simp [Act.eval, Act.put]) (by simp [Act.eval, Act.put]) w.heap.size m (fill m n x R) 3 hR3.out (List.replicate q (.int .i64 x)) (by rw [List.length_replicate]; exact HQ.out) (fun _ => ⟨rfl, _, rfl, fill_get hR3.out q3⟩) (by rw [fill_len hm2, List.length_replicate]; omega) (rep_one _ _) w.heap.size w hbl2.drew (Nat.le_refl _) ?_; intro w4 hg4 hb4)
      rw [fill_splice q2] at hg4
      go_simp
      go_wp2
      rw [show IntKind.i64.wrap ((m : Int) + (q : Int)) = (m : Int) + (q : Int) from by rw [IntKind.wrap_i64]; omega]
      exact ⟨⟨m + q, by omega, q2, by go_num, hb4, hg4⟩, by simp [intOf]; omega⟩
    · have hme : m = n := by omega
      subst hme
      go_wp2
      go_ret
      exact ⟨_, rfl, fill_own hR3.out (Nat.le_refl _) (by omega), hbl2⟩
end Go.Proofs.Ytapkgncmjinedaa
