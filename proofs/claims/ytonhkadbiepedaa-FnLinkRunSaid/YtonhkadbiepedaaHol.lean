/- Plain words: what a channel holds, and what the laws say of it. No program stands here. -/
import Derived.Test.YtonhkadbiepedaaData
namespace Go.Proofs.Ytonhkadbiepedaa
open Go.RowKit Go.Sort

def valOk (n : Int) : Bool := inB n 0 255
def sizedB (kind size : Int) : Bool := (kind == 1 && size == 1) || ((kind == 2 || kind == 3) && inB size 1 4)
def holdOk (h : List Int) (kind size : Int) : Bool := (sizedB kind size && decide ((h.length : Int) ≤ size)) && h.all valOk
def hSend (h : List Int) (kind size m : Int) : List Int × Int := if kind = 1 then ([m], 0) else if (h.length : Int) < size then (h ++ [m], 0) else (h, if kind = 3 then 1 else 0)
def holdSend (h : List Int) (kind size m : Int) : List Int × Int := if holdOk h kind size && valOk m then hSend h kind size m else ([], -1)
def hTake (h : List Int) (kind : Int) : List Int × Int := match h with
  | [] => ([], -1)
  | x :: xs => if kind = 1 then (x :: xs, x) else (xs, x)
def holdTake (h : List Int) (kind size : Int) : List Int × Int := if holdOk h kind size then hTake h kind else ([], -1)

theorem valOk_iff {n : Int} : valOk n = true ↔ 0 ≤ n ∧ n ≤ 255 := inB_iff
theorem sizedB_iff {kind size : Int} : sizedB kind size = true ↔ (kind = 1 ∧ size = 1) ∨ ((kind = 2 ∨ kind = 3) ∧ 1 ≤ size ∧ size ≤ 4) := by
  unfold sizedB
  rw [Bool.or_eq_true, Bool.and_eq_true, Bool.and_eq_true, Bool.or_eq_true, inB_iff]
  simp only [beq_iff_eq]
theorem sizedB_bd {kind size : Int} (h : sizedB kind size = true) : 1 ≤ kind ∧ kind ≤ 3 ∧ 1 ≤ size ∧ size ≤ 4 ∧ (kind = 1 → size = 1) := by
  have := sizedB_iff.1 h; omega
theorem holdOk_iff {h : List Int} {kind size : Int} : holdOk h kind size = true ↔ sizedB kind size = true ∧ (h.length : Int) ≤ size ∧ ∀ x ∈ h, 0 ≤ x ∧ x ≤ 255 := by
  unfold holdOk
  rw [Bool.and_eq_true, Bool.and_eq_true, decide_eq_true_iff, List.all_eq_true, and_assoc]
  constructor
  · rintro ⟨a, b, c⟩; exact ⟨a, b, fun x hx => valOk_iff.1 (c x hx)⟩
  · rintro ⟨a, b, c⟩; exact ⟨a, b, fun x hx => valOk_iff.2 (c x hx)⟩
theorem holdOk_len {h : List Int} {kind size : Int} (e : holdOk h kind size = true) : h.length ≤ 4 := by
  have := holdOk_iff.1 e; have := sizedB_bd this.1; omega
theorem holdSend_len (h : List Int) (kind size m : Int) : (holdSend h kind size m).1.length ≤ 5 := by
  unfold holdSend
  split
  · rename_i e
    rw [Bool.and_eq_true] at e
    have := holdOk_len e.1
    unfold hSend
    split
    · simp
    · split
      · simp; omega
      · show h.length ≤ 5; omega
  · simp
theorem holdTake_len (h : List Int) (kind size : Int) : (holdTake h kind size).1.length ≤ 4 := by
  unfold holdTake
  split
  · rename_i e
    have := holdOk_len e
    cases h with
    | nil => simp [hTake]
    | cons x xs =>
      by_cases hk : kind = 1
      · rw [show hTake (x :: xs) kind = (x :: xs, x) from if_pos hk]; exact this
      · rw [show hTake (x :: xs) kind = (xs, x) from if_neg hk]; simp at this; show xs.length ≤ 4; omega
  · simp

/-! ### The laws -/

theorem hSend_ok {h : List Int} {kind size m : Int} (e : holdOk h kind size = true) (hm : valOk m = true) : holdOk (hSend h kind size m).1 kind size = true := by
  obtain ⟨a, b, c⟩ := holdOk_iff.1 e
  have hm' := valOk_iff.1 hm
  have hb := sizedB_bd a
  unfold hSend
  split
  · exact holdOk_iff.2 ⟨a, by simp; omega, fun x hx => by simp at hx; subst hx; exact hm'⟩
  · split
    · exact holdOk_iff.2 ⟨a, by simp; omega, fun x hx => by rcases List.mem_append.1 hx with h | h; exact c x h; simp at h; subst h; exact hm'⟩
    · exact e
theorem hTake_ok {h : List Int} {kind size : Int} (e : holdOk h kind size = true) : holdOk (hTake h kind).1 kind size = true := by
  obtain ⟨a, b, c⟩ := holdOk_iff.1 e
  cases h with
  | nil => exact e
  | cons x xs =>
    by_cases hk : kind = 1
    · rw [show hTake (x :: xs) kind = (x :: xs, x) from if_pos hk]; exact e
    · rw [show hTake (x :: xs) kind = (xs, x) from if_neg hk]; exact holdOk_iff.2 ⟨a, by simp at b ⊢; omega, fun y hy => c y (List.mem_cons_of_mem _ hy)⟩

/-- Sending the messages of a list, one behind the other. -/
def sendAll (kind size : Int) (xs : List Int) : List Int := xs.foldl (fun h m => (holdSend h kind size m).1) []
theorem sendAll_take {kind size : Int} {xs : List Int} (hk : kind ≠ 1) (e : holdOk xs kind size = true) : ∀ k, k ≤ xs.length → xs.take k = (xs.take k).foldl (fun h m => (holdSend h kind size m).1) []
  | 0, _ => rfl
  | k + 1, hlt => by
    have ih := sendAll_take hk e k (by omega)
    obtain ⟨a, b, c⟩ := holdOk_iff.1 e
    have hb := sizedB_bd a
    rw [List.take_succ_eq_append_getElem (by omega), List.foldl_append, ← ih]
    show xs.take k ++ [xs[k]] = (holdSend (xs.take k) kind size xs[k]).1
    have hl : (xs.take k).length = k := by rw [List.length_take]; omega
    have e1 : holdOk (xs.take k) kind size = true := holdOk_iff.2 ⟨a, by omega, fun x hx => c x (List.mem_of_mem_take hx)⟩
    have e2 : valOk xs[k] = true := valOk_iff.2 (c _ (List.getElem_mem _))
    unfold holdSend hSend
    rw [e1, e2]
    simp only [Bool.and_self, if_true]
    rw [if_neg hk, if_pos (by omega)]
theorem holdSend_step {kind size : Int} {xs : List Int} (hk : kind ≠ 1) (e : holdOk xs kind size = true) {k : Nat} (hlt : k < xs.length) : (holdSend (xs.take k) kind size xs[k]).1 = xs.take (k + 1) := by
  rw [sendAll_take hk e (k + 1) (by omega), List.take_succ_eq_append_getElem hlt, List.foldl_append, ← sendAll_take hk e k (by omega)]
  rfl

/-- FnHoldFull: what is held behind k messages 10, 11, .. -/
def tens (k : Nat) : List Int := (List.range k).map fun (i : Nat) => 10 + (i : Int)
theorem tens_len (k : Nat) : (tens k).length = k := by unfold tens; simp
theorem tens_succ (k : Nat) : tens (k + 1) = tens k ++ [10 + (k : Int)] := by unfold tens; rw [List.range_succ, List.map_append]; rfl
theorem tens_ok {kind size : Int} (hs : sizedB kind size = true) {k : Nat} (hk : (k : Int) ≤ size) : holdOk (tens k) kind size = true := by
  have := sizedB_bd hs
  refine holdOk_iff.2 ⟨hs, by rw [tens_len]; exact hk, fun x hx => ?_⟩
  unfold tens at hx
  obtain ⟨i, hi, rfl⟩ := List.mem_map.1 hx
  have := List.mem_range.1 hi
  omega
theorem full_send {kind size : Int} (hs : sizedB kind size = true) (hk1 : kind ≠ 1) {k : Nat} (hk : (k : Int) < size + 3) :
    holdSend (tens (min k size.toNat)) kind size (10 + (k : Int)) = (tens (min (k + 1) size.toNat), if (k : Int) < size then 0 else if kind = 3 then 1 else 0) := by
  have hb := sizedB_bd hs
  have e1 : holdOk (tens (min k size.toNat)) kind size = true := tens_ok hs (by omega)
  have e2 : valOk (10 + (k : Int)) = true := valOk_iff.2 (by omega)
  unfold holdSend hSend
  rw [e1, e2]
  simp only [Bool.and_self, if_true, if_neg hk1, tens_len]
  by_cases h : (k : Int) < size
  · rw [if_pos (by omega), if_pos h, Nat.min_eq_left (by omega), Nat.min_eq_left (by omega), tens_succ]
  · rw [if_neg (by omega), if_neg h, Nat.min_eq_right (by omega), Nat.min_eq_right (by omega)]
/-- What is left of the messages 10 .. behind k takings. -/
def tensFrom (k n : Nat) : List Int := (tens n).drop k
theorem tensFrom_ok {kind size : Int} (hs : sizedB kind size = true) {k n : Nat} (hn : (n : Int) ≤ size) : holdOk (tensFrom k n) kind size = true := by
  obtain ⟨a, b, c⟩ := holdOk_iff.1 (tens_ok hs hn)
  refine holdOk_iff.2 ⟨hs, ?_, fun x hx => c x (List.mem_of_mem_drop hx)⟩
  unfold tensFrom; rw [List.length_drop]; omega
theorem tensFrom_cons {k n : Nat} (h : k < n) : tensFrom k n = (10 + (k : Int)) :: tensFrom (k + 1) n := by
  unfold tensFrom
  rw [List.drop_eq_getElem_cons (by rw [tens_len]; exact h)]
  congr 1
  unfold tens; simp
theorem full_take {kind size : Int} (hs : sizedB kind size = true) (hk1 : kind ≠ 1) {k n : Nat} (hk : k < n) (hn : (n : Int) ≤ size) : holdTake (tensFrom k n) kind size = (tensFrom (k + 1) n, 10 + (k : Int)) := by
  unfold holdTake
  rw [tensFrom_ok hs hn, tensFrom_cons hk]
  simp [hTake, hk1]
theorem full_none {kind size : Int} (n : Nat) : holdTake (tensFrom n n) kind size = ([], -1) := by
  have : tensFrom n n = [] := by unfold tensFrom; rw [List.drop_eq_nil_of_le (by rw [tens_len]; exact Nat.le_refl _)]
  rw [this]
  unfold holdTake hTake
  split <;> rfl
end Go.Proofs.Ytonhkadbiepedaa
