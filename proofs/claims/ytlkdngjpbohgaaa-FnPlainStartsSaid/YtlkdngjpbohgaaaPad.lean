/- Plain words: padded times, needs, and when jobs begin; what the law says of them. No program stands here. -/
import Derived.Test.YtlkdngjpbohgaaaData
namespace Go.Proofs.Ytlkdngjpbohgaaa
open Go.RowKit Go.Sort

def tmOk (n : Int) : Bool := inB n 1 20
def padOk (ts : List Int) : Bool := decide (ts.length ≤ 12) && ts.all tmOk
def ndOk (n : Int) : Bool := decide (0 ≤ n)
def needOk (ts ns : List Int) : Bool := (padOk ts && decide (ns.length = ts.length)) && ns.all ndOk
def padSum (xs : List Int) : Int := xs.foldl (· + ·) 0
def padSt (xs : List Int) : List Int := (List.range xs.length).map fun k => padSum (xs.take k)
def imin (a b : Int) : Int := if b < a then b else a
def padMin (ts ns : List Int) : List Int := List.zipWith imin ts ns
def padStarts (ts : List Int) : List Int := if padOk ts then padSt ts else []
def padRuns (ts ns : List Int) : List Int := if needOk ts ns then padMin ts ns else []
def plainStarts (ts ns : List Int) : List Int := padSt (padRuns ts ns)

theorem padOk_iff {ts : List Int} : padOk ts = true ↔ ts.length ≤ 12 ∧ ∀ x ∈ ts, 1 ≤ x ∧ x ≤ 20 := by
  unfold padOk tmOk
  rw [Bool.and_eq_true, decide_eq_true_iff, List.all_eq_true]
  constructor
  · rintro ⟨a, b⟩; exact ⟨a, fun x hx => inB_iff.1 (b x hx)⟩
  · rintro ⟨a, b⟩; exact ⟨a, fun x hx => inB_iff.2 (b x hx)⟩
theorem needOk_iff {ts ns : List Int} : needOk ts ns = true ↔ padOk ts = true ∧ ns.length = ts.length ∧ ∀ x ∈ ns, 0 ≤ x := by
  unfold needOk ndOk
  rw [Bool.and_eq_true, Bool.and_eq_true, decide_eq_true_iff, List.all_eq_true, and_assoc]
  constructor
  · rintro ⟨a, b, c⟩; exact ⟨a, b, fun x hx => by simpa using c x hx⟩
  · rintro ⟨a, b, c⟩; exact ⟨a, b, fun x hx => by simpa using c x hx⟩
theorem padSum_snoc (xs : List Int) (x : Int) : padSum (xs ++ [x]) = padSum xs + x := by unfold padSum; rw [List.foldl_append]; rfl
theorem padSum_take {xs : List Int} {k : Nat} (hk : k < xs.length) : padSum (xs.take (k + 1)) = padSum (xs.take k) + xs[k] := by
  rw [List.take_succ_eq_append_getElem hk, padSum_snoc]
theorem padSum_bd {xs : List Int} (h : ∀ x ∈ xs, 0 ≤ x ∧ x ≤ 20) : ∀ k, k ≤ xs.length → 0 ≤ padSum (xs.take k) ∧ padSum (xs.take k) ≤ 20 * k
  | 0, _ => by simp [padSum]
  | k + 1, hk => by
    have ih := padSum_bd h k (by omega)
    have := h xs[k] (List.getElem_mem (by omega))
    rw [padSum_take (by omega)]; omega
theorem padSt_len (xs : List Int) : (padSt xs).length = xs.length := by unfold padSt; simp
theorem padSt_get {xs : List Int} {k : Nat} (hk : k < (padSt xs).length) : (padSt xs)[k] = padSum (xs.take k) := by
  have hk' : k < xs.length := by rw [padSt_len] at hk; exact hk
  have : (padSt xs)[k]? = some (padSum (xs.take k)) := by unfold padSt; rw [List.getElem?_map, List.getElem?_range hk']; rfl
  rw [List.getElem?_eq_getElem hk] at this
  injection this
theorem padSt_snoc {xs : List Int} {k : Nat} (hk : k < xs.length) : (padSt xs).take (k + 1) = (padSt xs).take k ++ [padSum (xs.take k)] := by
  rw [List.take_succ_eq_append_getElem (by rw [padSt_len]; exact hk), padSt_get]
theorem padMin_len {ts ns : List Int} (h : ns.length = ts.length) : (padMin ts ns).length = ts.length := by unfold padMin; rw [List.length_zipWith, h, Nat.min_self]
theorem padMin_get {ts ns : List Int} {k : Nat} (h1 : k < ts.length) (h2 : k < ns.length) (h : k < (padMin ts ns).length) : (padMin ts ns)[k] = imin ts[k] ns[k] := by
  have : (padMin ts ns)[k]? = some (imin ts[k] ns[k]) := by unfold padMin; rw [List.getElem?_zipWith, List.getElem?_eq_getElem h1, List.getElem?_eq_getElem h2]
  rw [List.getElem?_eq_getElem h] at this
  injection this
theorem padMin_snoc {ts ns : List Int} (h : ns.length = ts.length) {k : Nat} (h1 : k < ts.length) (h2 : k < ns.length) : (padMin ts ns).take (k + 1) = (padMin ts ns).take k ++ [imin ts[k] ns[k]] := by
  rw [List.take_succ_eq_append_getElem (by rw [padMin_len h]; exact h1), padMin_get h1 h2]
theorem padRuns_mem {ts ns : List Int} : ∀ x ∈ padRuns ts ns, 0 ≤ x ∧ x ≤ 20 := by
  intro x hx
  unfold padRuns at hx
  split at hx
  · rename_i h
    obtain ⟨hp, hl, hn⟩ := needOk_iff.1 h
    obtain ⟨i, hi, rfl⟩ := List.getElem_of_mem hx
    have hi' := hi
    rw [padMin_len hl] at hi'
    rw [padMin_get hi' (by omega)]
    have a := (padOk_iff.1 hp).2 _ (List.getElem_mem hi')
    have b := hn _ (List.getElem_mem (show i < ns.length by omega))
    unfold imin; split <;> omega
  · cases hx
theorem padRuns_len (ts ns : List Int) : (padRuns ts ns).length ≤ 12 ∧ (padRuns ts ns ≠ [] → needOk ts ns = true) := by
  unfold padRuns
  split
  · rename_i h
    obtain ⟨hp, hl, hn⟩ := needOk_iff.1 h
    rw [padMin_len hl]
    exact ⟨(padOk_iff.1 hp).1, fun _ => h⟩
  · exact ⟨by simp, fun h => absurd rfl h⟩

/-! ### The law -/

theorem padSum_le : ∀ (ts ns : List Int) (k : Nat), ns.length = ts.length → padSum ((padMin ts ns).take k) ≤ padSum (ts.take k) := by
  intro ts ns k h
  induction k with
  | zero => simp [padSum]
  | succ k ih =>
    by_cases hk : k < ts.length
    · have hk2 : k < (padMin ts ns).length := by rw [padMin_len h]; exact hk
      rw [padSum_take hk, padSum_take hk2, padMin_get hk (by omega)]
      have : imin ts[k] (ns[k]'(by omega)) ≤ ts[k] := by unfold imin; split <;> omega
      omega
    · rw [List.take_of_length_le (by rw [padMin_len h]; omega), List.take_of_length_le (by omega)]
      rw [List.take_of_length_le (by rw [padMin_len h]; omega), List.take_of_length_le (by omega)] at ih
      exact ih
theorem plain_earlier {ts ns : List Int} (hne : plainStarts ts ns ≠ []) : needOk ts ns = true ∧ (plainStarts ts ns).length = (padStarts ts).length ∧ ∀ k (h1 : k < (plainStarts ts ns).length) (h2 : k < (padStarts ts).length), (plainStarts ts ns)[k] ≤ (padStarts ts)[k] := by
  have hn : needOk ts ns = true := (padRuns_len ts ns).2 fun e => hne (by unfold plainStarts; rw [e]; rfl)
  obtain ⟨hp, hl, _⟩ := needOk_iff.1 hn
  have e1 : plainStarts ts ns = padSt (padMin ts ns) := by unfold plainStarts padRuns; rw [hn]; rfl
  have e2 : padStarts ts = padSt ts := by unfold padStarts; rw [hp]; rfl
  refine ⟨hn, by rw [e1, e2, padSt_len, padSt_len, padMin_len hl], ?_⟩
  intro k h1 h2
  simp only [e1, e2] at h1 h2 ⊢
  rw [padSt_get, padSt_get]
  exact padSum_le ts ns k hl
theorem padMin_self : ∀ ts : List Int, padMin ts ts = ts
  | [] => rfl
  | t :: ts => by
    have := padMin_self ts
    unfold padMin at this ⊢
    rw [List.zipWith_cons_cons, this]
    congr 1
    unfold imin; split <;> omega
theorem plain_same {ts : List Int} (hp : padOk ts = true) : plainStarts ts ts = padStarts ts := by
  have hn : needOk ts ts = true := needOk_iff.2 ⟨hp, rfl, fun x hx => by have := (padOk_iff.1 hp).2 x hx; omega⟩
  unfold plainStarts padRuns padStarts
  rw [hn, hp, padMin_self]; rfl
end Go.Proofs.Ytlkdngjpbohgaaa
