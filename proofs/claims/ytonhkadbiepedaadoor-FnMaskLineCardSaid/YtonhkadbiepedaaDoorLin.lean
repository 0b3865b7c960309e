/- Interrupt lines: plain words and plain laws. No program stands here. -/
import Derived.Test.YtonhkadbiepedaaDoorData
import Derived.Lib.QuoteBits
import Derived.Lib.TrailingZeros
namespace Go.Proofs.YtonhkadbiepedaaDoor
open Go.RowKit Go.Sort
structure Lin where
  r : Int
  m : Int
abbrev Lin.val (l : Lin) : Value := .agg #[.int .i64 l.r, .int .i64 l.m]
def linOk (l : Lin) : Bool := inB l.r 0 255 && inB l.m 0 255
theorem linOk_iff {l : Lin} : linOk l = true ↔ (0 ≤ l.r ∧ l.r ≤ 255) ∧ 0 ≤ l.m ∧ l.m ≤ 255 := by unfold linOk; rw [Bool.and_eq_true, inB_iff, inB_iff]
/-- Bit n is set, is cleared; what is raised and not masked; the first line; the lines in order. -/
def setB (a n : Nat) : Nat := a ||| 2 ^ n
def clrB (a n : Nat) : Nat := a &&& (255 - 2 ^ n)
def openN (r m : Nat) : Nat := r &&& (255 - m)
def nextN (x : Nat) : Int := if x = 0 then -1 else (Lib.ctz 64 x : Int)
def bitsL (x : Nat) : List Int := (List.range 8).flatMap fun i => if x.testBit i then [(i : Int)] else []
theorem and_lt {a b : Nat} (h : a < 256) : a &&& b < 256 := Nat.lt_of_le_of_lt Nat.and_le_left h
theorem open_clr (r m n : Nat) : openN (clrB r n) m = clrB (openN r m) n := by
  unfold openN clrB
  rw [Nat.and_assoc, Nat.and_assoc, Nat.and_comm (255 - 2 ^ n)]
theorem bits_zero : bitsL 0 = [] := by decide
theorem bits_step : ∀ x : Fin 256, x.val ≠ 0 → Lib.ctz 64 x.val < 8 ∧ bitsL x.val = (Lib.ctz 64 x.val : Int) :: bitsL (clrB x.val (Lib.ctz 64 x.val)) := by decide +kernel
theorem bits_all : ∀ x : Fin 256, (bitsL x.val).length ≤ 8 ∧ (∀ k : Fin 8, k.val < (bitsL x.val).length → 0 ≤ (bitsL x.val).getD k.val 0 ∧ (bitsL x.val).getD k.val 0 ≤ 7 ∧ (0 < k.val → (bitsL x.val).getD (k.val - 1) 0 < (bitsL x.val).getD k.val 0)) := by decide +kernel
/-- The sum of the first k lines' bits. -/
def sumB (L : List Int) : Nat → Int
  | 0 => 0
  | k + 1 => sumB L k + 2 ^ (L.getD k 0).toNat
theorem sum_all : ∀ x : Fin 256, sumB (bitsL x.val) (bitsL x.val).length = (x.val : Int) ∧ ∀ k : Fin 9, 0 ≤ sumB (bitsL x.val) k.val ∧ (k.val ≤ (bitsL x.val).length → sumB (bitsL x.val) k.val ≤ 255) := by decide +kernel
theorem clr_lt {a n : Nat} (h : a < 256) : clrB a n < 256 := and_lt h
theorem open_lt {a n : Nat} (h : a < 256) : openN a n < 256 := and_lt h
theorem set_lt {a n : Nat} (h : a < 256) (hn : n < 8) : setB a n < 256 := Nat.or_lt_two_pow (n := 8) h (Nat.pow_lt_pow_right (by decide) hn)
theorem set_comm (a n m : Nat) : setB (setB a n) m = setB (setB a m) n := by
  unfold setB
  rw [Nat.or_assoc, Nat.or_assoc, Nat.or_comm (2 ^ n)]
theorem mem_bits : ∀ (x : Fin 256) (n : Fin 8), decide ((n.val : Int) ∈ bitsL x.val) = x.val.testBit n.val := by decide +kernel
theorem mask_bit : ∀ (m : Fin 256) (n : Fin 8), (setB m.val n.val).testBit n.val = true ∧ (clrB m.val n.val).testBit n.val = false ∧ (255 - setB m.val n.val).testBit n.val = false ∧ (255 - clrB m.val n.val).testBit n.val = true ∧ clrB (setB m.val n.val) n.val = clrB m.val n.val := by decide +kernel
theorem shift_bit : ∀ (r : Fin 256) (n : Fin 8), (((r.val : Int) / 2 ^ n.val) % 2 = 1) = (r.val.testBit n.val = true) := by decide +kernel
/-! ### The program's words on numbers, in these words -/
theorem and_i64 (a b : Nat) (ha : a < 256) (hb : b < 256) : bits .andNot .i64 (a : Int) (b : Int) = ((a &&& (255 - b) : Nat) : Int) := by
  show IntKind.i64.wrap ((BitVec.ofInt 64 (a : Int) &&& ~~~BitVec.ofInt 64 (b : Int)).toNat : Int) = _
  rw [BitVec.toNat_and, BitVec.toNat_not, ofInt_u64 a (by omega), ofInt_u64 b (by omega)]
  have e : a &&& (2 ^ 64 - 1 - b) = a &&& (255 - b) := by
    apply Nat.eq_of_testBit_eq
    intro i
    rw [Nat.testBit_and, Nat.testBit_and]
    by_cases hi : i < 8
    · rw [show 2 ^ 64 - 1 - b = 2 ^ 64 - (b + 1) from by omega, show 255 - b = 2 ^ 8 - (b + 1) from by omega, Nat.testBit_two_pow_sub_succ (by omega), Nat.testBit_two_pow_sub_succ (by omega)]
      have h1 : decide (i < 64) = true := decide_eq_true (by omega)
      have h2 : decide (i < 8) = true := decide_eq_true hi
      rw [h1, h2]
    · rw [Nat.testBit_lt_two_pow (show a < 2 ^ i from Nat.lt_of_lt_of_le ha (show 2 ^ 8 ≤ 2 ^ i from Nat.pow_le_pow_right (by decide) (by omega)))]
      simp
  rw [e]
  exact Lib.wrap_i64_small _ (Nat.lt_trans (and_lt ha) (by decide))
theorem or_i64 (a b : Nat) (ha : a < 256) (hb : b < 256) : bits .or .i64 (a : Int) (b : Int) = ((a ||| b : Nat) : Int) := by
  show IntKind.i64.wrap ((BitVec.ofInt 64 (a : Int) ||| BitVec.ofInt 64 (b : Int)).toNat : Int) = _
  rw [BitVec.toNat_or, ofInt_u64 a (by omega), ofInt_u64 b (by omega)]
  exact Lib.wrap_i64_small _ (Nat.lt_trans (Nat.or_lt_two_pow (n := 8) ha hb) (by decide))
/-! ### What the functions of lines give -/
theorem open_bit {r m n : Nat} (hm : m < 256) (hn : n < 8) : (openN r m).testBit n = (r.testBit n && !m.testBit n) := by
  unfold openN
  rw [Nat.testBit_and, show 255 - m = 2 ^ 8 - (m + 1) from by omega, Nat.testBit_two_pow_sub_succ (by omega), decide_eq_true hn, Bool.true_and]
theorem next_of : ∀ (x : Fin 256) (k : Fin 8), x.val.testBit k.val = true → (∀ j : Fin 8, j.val < k.val → x.val.testBit j.val = false) → nextN x.val = (k.val : Int) := by decide +kernel
theorem next_none : ∀ x : Fin 256, (∀ j : Fin 8, x.val.testBit j.val = false) → nextN x.val = -1 := by decide +kernel
def raiseP (l : Lin) (n : Int) : Lin := if linOk l && inB n 0 7 then ⟨(setB l.r.toNat n.toNat : Nat), l.m⟩ else ⟨0, 0⟩
def maskP (l : Lin) (n : Int) (on : Bool) : Lin := if linOk l && inB n 0 7 then ⟨l.r, ((if on then setB l.m.toNat n.toNat else clrB l.m.toNat n.toNat : Nat) : Int)⟩ else ⟨0, 0⟩
def nextP (l : Lin) : Int := if linOk l then nextN (openN l.r.toNat l.m.toNat) else -1
def serveP (l : Lin) : Lin × Int := if linOk l then (if nextP l < 0 then (l, -1) else (⟨(clrB l.r.toNat (nextP l).toNat : Nat), l.m⟩, nextP l)) else (⟨0, 0⟩, -1)
def allP (l : Lin) : List Int := if linOk l then bitsL (openN l.r.toNat l.m.toNat) else []
theorem lin_nat {l : Lin} (h : linOk l = true) : ∃ a b : Nat, l = ⟨(a : Int), (b : Int)⟩ ∧ a < 256 ∧ b < 256 := by
  obtain ⟨r, m⟩ := l
  obtain ⟨⟨h1, h2⟩, h3, h4⟩ := linOk_iff.1 h
  simp only at h1 h2 h3 h4
  exact ⟨r.toNat, m.toNat, by rw [Int.toNat_of_nonneg h1, Int.toNat_of_nonneg h3], by omega, by omega⟩
theorem nat_lin {a b : Nat} (ha : a < 256) (hb : b < 256) : linOk ⟨(a : Int), (b : Int)⟩ = true := linOk_iff.2 ⟨⟨by simp, by show (a : Int) ≤ 255; omega⟩, by simp, by show (b : Int) ≤ 255; omega⟩
theorem raise_ok {a b n : Nat} (ha : a < 256) (hb : b < 256) (hn : n < 8) : raiseP ⟨(a : Int), (b : Int)⟩ (n : Int) = ⟨((a ||| 2 ^ n : Nat) : Int), (b : Int)⟩ := by
  unfold raiseP; rw [nat_lin ha hb, inB_iff.2 ⟨by omega, by omega⟩]; rfl
theorem mask_ok {a b n : Nat} (on : Bool) (ha : a < 256) (hb : b < 256) (hn : n < 8) : maskP ⟨(a : Int), (b : Int)⟩ (n : Int) on = ⟨(a : Int), ((if on then b ||| 2 ^ n else b &&& (255 - 2 ^ n) : Nat) : Int)⟩ := by
  unfold maskP; rw [nat_lin ha hb, inB_iff.2 ⟨by omega, by omega⟩]; rfl
theorem next_ok {a b : Nat} (ha : a < 256) (hb : b < 256) : nextP ⟨(a : Int), (b : Int)⟩ = nextN (a &&& (255 - b)) := by
  unfold nextP; rw [nat_lin ha hb]; rfl
theorem all_ok {a b : Nat} (ha : a < 256) (hb : b < 256) : allP ⟨(a : Int), (b : Int)⟩ = bitsL (a &&& (255 - b)) := by
  unfold allP; rw [nat_lin ha hb]; rfl
theorem next_cases {a b : Nat} (ha : a < 256) : (a &&& (255 - b) = 0 ∧ nextN (a &&& (255 - b)) = -1) ∨ (a &&& (255 - b) ≠ 0 ∧ ∃ k : Nat, k < 8 ∧ nextN (a &&& (255 - b)) = (k : Int) ∧ k = Lib.ctz 64 (a &&& (255 - b))) := by
  by_cases h : a &&& (255 - b) = 0
  · exact .inl ⟨h, by rw [h]; rfl⟩
  · refine .inr ⟨h, _, (bits_step ⟨_, and_lt ha⟩ h).1, ?_, rfl⟩
    unfold nextN; rw [if_neg h]
theorem serve_none {a b : Nat} (ha : a < 256) (hb : b < 256) (h : nextP ⟨(a : Int), (b : Int)⟩ = -1) : serveP ⟨(a : Int), (b : Int)⟩ = (⟨(a : Int), (b : Int)⟩, -1) := by
  unfold serveP; rw [nat_lin ha hb, h]; rfl
theorem serve_some {a b k : Nat} (ha : a < 256) (hb : b < 256) (h : nextP ⟨(a : Int), (b : Int)⟩ = (k : Int)) : serveP ⟨(a : Int), (b : Int)⟩ = (⟨((a &&& (255 - 2 ^ k) : Nat) : Int), (b : Int)⟩, (k : Int)) := by
  unfold serveP; rw [nat_lin ha hb, h, if_pos rfl, if_neg (by omega)]; rfl
theorem serve_bad {l : Lin} (h : linOk l = false) : serveP l = (⟨0, 0⟩, -1) := by unfold serveP; rw [h]; rfl
theorem all_bad {l : Lin} (h : linOk l = false) : allP l = [] := by unfold allP; rw [h]; rfl
theorem next_bad {l : Lin} (h : linOk l = false) : nextP l = -1 := by unfold nextP; rw [h]; rfl
theorem raise_bad {l : Lin} {n : Int} (h : (linOk l && inB n 0 7) = false) : raiseP l n = ⟨0, 0⟩ := by unfold raiseP; rw [h]; rfl
theorem mask_bad {l : Lin} {n : Int} (on : Bool) (h : (linOk l && inB n 0 7) = false) : maskP l n on = ⟨0, 0⟩ := by unfold maskP; rw [h]; rfl
theorem all_none {a b : Nat} (h : a &&& (255 - b) = 0) : bitsL (a &&& (255 - b)) = [] := by rw [h]; exact bits_zero
theorem all_some {a b k : Nat} (ha : a < 256) (h : a &&& (255 - b) ≠ 0) (hk : k = Lib.ctz 64 (a &&& (255 - b))) : bitsL (a &&& (255 - b)) = (k : Int) :: bitsL ((a &&& (255 - 2 ^ k)) &&& (255 - b)) := by
  have h1 := (bits_step ⟨_, and_lt ha⟩ h).2
  simp only at h1
  rw [h1, hk]
  exact congrArg (fun x => _ :: bitsL x) (open_clr a b _).symm
theorem bits_len (x : Nat) (h : x < 256) : (bitsL x).length ≤ 8 := (bits_all ⟨x, h⟩).1
theorem all_len (l : Lin) : (allP l).length ≤ 8 := by
  cases h : linOk l
  · rw [all_bad h]; simp
  · obtain ⟨a, b, rfl, ha, hb⟩ := lin_nat h
    rw [all_ok ha hb]; exact bits_len _ (and_lt ha)
theorem serve_all (l : Lin) : (linOk (serveP l).1 = linOk l ∨ linOk l = false) ∧ (((serveP l).2 = -1 ∧ allP l = []) ∨ ∃ k : Nat, k < 8 ∧ (serveP l).2 = (k : Int) ∧ allP l = (k : Int) :: allP (serveP l).1) := by
  cases h : linOk l
  · rw [serve_bad h]; exact ⟨.inr rfl, .inl ⟨rfl, all_bad h⟩⟩
  · obtain ⟨a, b, rfl, ha, hb⟩ := lin_nat h
    rcases next_cases (b := b) ha with ⟨h0, h1⟩ | ⟨h0, k, hk, h1, h2⟩
    · rw [serve_none ha hb ((next_ok ha hb).trans h1)]
      exact ⟨.inl (nat_lin ha hb), .inl ⟨rfl, by rw [all_ok ha hb]; exact all_none h0⟩⟩
    · rw [serve_some ha hb ((next_ok ha hb).trans h1)]
      refine ⟨.inl (nat_lin (and_lt ha) hb), .inr ⟨k, hk, rfl, ?_⟩⟩
      show allP _ = _ :: allP ⟨_, _⟩
      rw [all_ok ha hb, all_ok (and_lt ha) hb]; exact all_some ha h0 h2
theorem next_serve (l : Lin) (h : linOk l = true) : nextP l = (serveP l).2 := by
  unfold serveP; rw [h]
  simp only [if_true]
  split
  · obtain ⟨a, b, rfl, ha, hb⟩ := lin_nat h
    rename_i h1
    rcases next_cases (b := b) ha with ⟨h0, h2⟩ | ⟨h0, k, hk, h2, h3⟩
    · rw [next_ok ha hb, h2]
    · rw [next_ok ha hb, h2] at h1; omega
  · rfl
theorem shr_fin : ∀ (r : Fin 256) (n : Fin 8), Int.tmod ((r.val : Int) / 2 ^ n.val) 2 = if r.val.testBit n.val then 1 else 0 := by decide +kernel
theorem shr_bit {a k : Nat} (ha : a < 256) (hk : k < 8) : Int.tmod ((a : Int) / 2 ^ k) 2 = if a.testBit k then 1 else 0 := shr_fin ⟨a, ha⟩ ⟨k, hk⟩
theorem bits_at {x : Nat} (hx : x < 256) {k : Nat} (hk : k < (bitsL x).length) : ∃ n : Nat, (bitsL x)[k] = (n : Int) ∧ n < 8 ∧ (∀ (j : Nat) (hj : j < (bitsL x).length), j + 1 = k → (bitsL x)[j] < (n : Int)) ∧ sumB (bitsL x) (k + 1) = sumB (bitsL x) k + ((2 ^ n : Nat) : Int) ∧ 0 ≤ sumB (bitsL x) k ∧ sumB (bitsL x) (k + 1) ≤ 255 := by
  have hl := bits_len x hx
  obtain ⟨h0, h7, hlt⟩ := (bits_all ⟨x, hx⟩).2 ⟨k, by omega⟩ hk
  have hs := (sum_all ⟨x, hx⟩).2
  simp only at h0 h7 hlt
  have hg : ∀ (j : Nat) (hj : j < (bitsL x).length), (bitsL x).getD j 0 = (bitsL x)[j] := fun j hj => by rw [List.getD_eq_getElem?_getD, List.getElem?_eq_getElem hj]; rfl
  rw [hg k hk] at h0 h7
  refine ⟨((bitsL x)[k]).toNat, by omega, by omega, fun j hj e => ?_, ?_, (hs ⟨k, by omega⟩).1, (hs ⟨k + 1, by omega⟩).2 hk⟩
  · have h := hlt (by omega)
    rw [hg k hk, show k - 1 = j from by omega, hg j hj] at h
    omega
  · show sumB (bitsL x) k + 2 ^ ((bitsL x).getD k 0).toNat = _
    rw [hg k hk]
    simp
theorem sum_end {x : Nat} (hx : x < 256) : sumB (bitsL x) (bitsL x).length = (x : Int) := (sum_all ⟨x, hx⟩).1
theorem set_clr : ∀ (m : Fin 256) (n : Fin 8), (m.val &&& (255 - 2 ^ n.val)) ||| 2 ^ n.val = m.val ||| 2 ^ n.val := by decide +kernel
theorem shlw {n : Nat} (h : n < 8) : wrap64 ((2 : Int) ^ n) = ((2 ^ n : Nat) : Int) ∧ IntKind.i64.wrap ((2 : Int) ^ n) = ((2 ^ n : Nat) : Int) := by
  have h8 : n = 0 ∨ n = 1 ∨ n = 2 ∨ n = 3 ∨ n = 4 ∨ n = 5 ∨ n = 6 ∨ n = 7 := by omega
  rcases h8 with rfl | rfl | rfl | rfl | rfl | rfl | rfl | rfl <;> exact ⟨by decide +kernel, by decide +kernel⟩
theorem pow_lt {n : Nat} (h : n < 8) : 2 ^ n < 256 := Nat.pow_lt_pow_right (by decide) h
end Go.Proofs.YtonhkadbiepedaaDoor
