/- Caches: plain words, and what the laws say of them. No program stands here. -/
import Derived.Test.YtlkdngjpbohgaaaData
namespace Go.Proofs.Ytlkdngjpbohgaaa
open Go.RowKit Go.Sort

def lnB (n : Int) : Bool := n == 1 || (n == 2 || (n == 4 || (n == 8 || n == 16)))
theorem lnB_iff {n : Int} : lnB n = true ↔ n = 1 ∨ n = 2 ∨ n = 4 ∨ n = 8 ∨ n = 16 := by simp [lnB]
theorem lnB_bd {n : Int} (h : lnB n = true) : 1 ≤ n ∧ n ≤ 16 := by have := lnB_iff.1 h; omega
theorem ln_and (n : Nat) (h1 : 1 ≤ n) (h2 : n ≤ 16) : (bits .and .i64 (n : Int) ((n : Int) - 1) != 0) = !lnB n := by
  have main : ∀ k : Fin 17, 1 ≤ k.val → (bits .and .i64 (k.val : Int) ((k.val : Int) - 1) != 0) = !lnB (k.val : Int) := by decide
  exact main ⟨n, by omega⟩ h1

def blkOk (n : Nat) (i : Nat) (b : Int) : Bool := b == -1 || (inB b 0 255 && b % (n : Int) == (i : Int))
theorem blkOk_iff {n i : Nat} {b : Int} : blkOk n i b = true ↔ b = -1 ∨ (0 ≤ b ∧ b ≤ 255 ∧ b % (n : Int) = (i : Int)) := by
  unfold blkOk
  rw [Bool.or_eq_true, Bool.and_eq_true, inB_iff, beq_iff_eq, beq_iff_eq]
  constructor
  · rintro (h | ⟨h1, h2⟩)
    · exact .inl h
    · exact .inr ⟨h1.1, h1.2, h2⟩
  · rintro (h | ⟨h1, h2, h3⟩)
    · exact .inl h
    · exact .inr ⟨⟨h1, h2⟩, h3⟩
def cacheOk (h : List Int) : Bool := lnB h.length && (List.range h.length).all fun i => blkOk h.length i (h.getD i 0)
theorem cacheOk_iff {h : List Int} : cacheOk h = true ↔ lnB h.length = true ∧ ∀ i (hi : i < h.length), blkOk h.length i h[i] = true := by
  unfold cacheOk
  rw [Bool.and_eq_true, List.all_eq_true]
  constructor
  · rintro ⟨h1, h2⟩
    refine ⟨h1, fun i hi => ?_⟩
    have := h2 i (List.mem_range.2 hi)
    rwa [List.getD_eq_getElem?_getD, List.getElem?_eq_getElem hi] at this
  · rintro ⟨h1, h2⟩
    refine ⟨h1, fun i hi => ?_⟩
    have hi' := List.mem_range.1 hi
    rw [List.getD_eq_getElem?_getD, List.getElem?_eq_getElem hi']
    exact h2 i hi'
theorem cacheOk_len {h : List Int} (hc : cacheOk h = true) : 1 ≤ h.length ∧ h.length ≤ 16 := by
  have := lnB_bd (cacheOk_iff.1 hc).1; omega

def plOk (p : Int) : Bool := inB p 0 4095
theorem plOk_iff {p : Int} : plOk p = true ↔ 0 ≤ p ∧ p ≤ 4095 := inB_iff
def plsOk (ps : List Int) : Bool := decide (ps.length ≤ 60) && ps.all plOk
theorem plsOk_iff {ps : List Int} : plsOk ps = true ↔ ps.length ≤ 60 ∧ ∀ p ∈ ps, plOk p = true := by
  unfold plsOk; rw [Bool.and_eq_true, decide_eq_true_iff, List.all_eq_true]

def tLine (h : List Int) (p : Int) : Nat := (p / 16 % (h.length : Int)).toNat
def tHit (h : List Int) (p : Int) : Bool := h.getD (tLine h p) 0 == p / 16
def tNew (h : List Int) (p : Int) : List Int := if tHit h p then h else h.set (tLine h p) (p / 16)
def tTime (h : List Int) (p : Int) : Int := if tHit h p then 1 else 8
theorem tNew_len (h : List Int) (p : Int) : (tNew h p).length = h.length := by unfold tNew; split <;> simp
theorem tLine_lt {h : List Int} (h0 : 0 < h.length) (p : Int) : tLine h p < h.length := by
  unfold tLine
  have h1 := Int.emod_lt_of_pos (p / 16) (show (0 : Int) < h.length by omega)
  have h2 := Int.emod_nonneg (p / 16) (show (h.length : Int) ≠ 0 by omega)
  omega
theorem tLine_new (h : List Int) (p q : Int) : tLine (tNew h p) q = tLine h q := by unfold tLine; rw [tNew_len]
theorem tHit_eq {h : List Int} (h0 : 0 < h.length) (p : Int) : tHit h p = (h[tLine h p]'(tLine_lt h0 p) == p / 16) := by
  unfold tHit; rw [List.getD_eq_getElem?_getD, List.getElem?_eq_getElem (tLine_lt h0 p)]; rfl
/-- What is held at line i behind a touch. -/
theorem tNew_get {h : List Int} (h0 : 0 < h.length) (p : Int) {i : Nat} (hi : i < (tNew h p).length) : (tNew h p)[i] = if i = tLine h p then p / 16 else h[i]'(by rw [tNew_len] at hi; exact hi) := by
  have hi' : i < h.length := by rw [tNew_len] at hi; exact hi
  unfold tNew
  by_cases hh : tHit h p = true
  · simp only [hh, if_true]
    by_cases e : i = tLine h p
    · subst e
      rw [if_pos rfl]
      rw [tHit_eq h0, beq_iff_eq] at hh
      exact hh
    · rw [if_neg e]
  · simp only [hh, if_false, Bool.false_eq_true]
    rw [List.getElem_set]
    by_cases e : i = tLine h p
    · rw [if_pos e.symm, if_pos e]
    · rw [if_neg (fun x => e x.symm), if_neg e]
theorem tHit_new {h : List Int} (h0 : 0 < h.length) (p q : Int) : tHit (tNew h p) q = if tLine h q = tLine h p then (p / 16 == q / 16) else tHit h q := by
  rw [tHit_eq (by rw [tNew_len]; exact h0), tNew_get h0]
  simp only [tLine_new]
  by_cases e : tLine h q = tLine h p
  · rw [if_pos e, if_pos e]
  · rw [if_neg e, if_neg e, tHit_eq h0]
theorem tHit_self {h : List Int} (h0 : 0 < h.length) (p q : Int) (e : p / 16 = q / 16) : tHit (tNew h p) q = true := by
  rw [tHit_new h0, if_pos (by unfold tLine; rw [e]), e]; simp
theorem cacheOk_new {h : List Int} (hc : cacheOk h = true) {p : Int} (hp : plOk p = true) : cacheOk (tNew h p) = true := by
  obtain ⟨h1, h2⟩ := cacheOk_iff.1 hc
  have hl := cacheOk_len hc
  refine cacheOk_iff.2 ⟨by rw [tNew_len]; exact h1, fun i hi => ?_⟩
  rw [tNew_get (by omega)]
  simp only [tNew_len]
  by_cases e : i = tLine h p
  · rw [if_pos e, blkOk_iff]
    have := plOk_iff.1 hp
    refine .inr ⟨by omega, by omega, ?_⟩
    subst e
    unfold tLine
    have h2 := Int.emod_nonneg (p / 16) (show (h.length : Int) ≠ 0 by omega)
    omega
  · rw [if_neg e]; exact h2 i (by rw [tNew_len] at hi; exact hi)
theorem tTime_bd (h : List Int) (p : Int) : 1 ≤ tTime h p ∧ tTime h p ≤ 8 := by unfold tTime; split <;> omega

def runC : List Int → List Int → List Int
  | h, [] => h
  | h, p :: ps => runC (tNew h p) ps
def runT : List Int → List Int → Int
  | _, [] => 0
  | h, p :: ps => tTime h p + runT (tNew h p) ps
theorem runC_app : ∀ (ps qs h : List Int), runC h (ps ++ qs) = runC (runC h ps) qs
  | [], _, _ => rfl
  | p :: ps, qs, h => runC_app ps qs (tNew h p)
theorem runT_app : ∀ (ps qs h : List Int), runT h (ps ++ qs) = runT h ps + runT (runC h ps) qs
  | [], qs, h => by simp [runT, runC]
  | p :: ps, qs, h => by
    show tTime h p + runT (tNew h p) (ps ++ qs) = tTime h p + runT (tNew h p) ps + runT (runC (tNew h p) ps) qs
    rw [runT_app ps qs]; omega
theorem runC_snoc (h ps : List Int) {k : Nat} (hk : k < ps.length) : runC h (ps.take (k + 1)) = tNew (runC h (ps.take k)) ps[k] := by
  rw [List.take_succ_eq_append_getElem hk, runC_app]; rfl
theorem runT_snoc (h ps : List Int) {k : Nat} (hk : k < ps.length) : runT h (ps.take (k + 1)) = runT h (ps.take k) + tTime (runC h (ps.take k)) ps[k] := by
  rw [List.take_succ_eq_append_getElem hk, runT_app]
  simp [runT]
theorem runC_len : ∀ (ps h : List Int), (runC h ps).length = h.length
  | [], _ => rfl
  | p :: ps, h => by rw [runC, runC_len ps, tNew_len]
theorem runC_ok : ∀ {ps h : List Int}, cacheOk h = true → (∀ p ∈ ps, plOk p = true) → cacheOk (runC h ps) = true
  | [], _, hc, _ => hc
  | p :: ps, h, hc, hp => runC_ok (ps := ps) (cacheOk_new hc (hp p (List.mem_cons_self ..))) (fun q hq => hp q (List.mem_cons_of_mem _ hq))
theorem runT_bd : ∀ (ps h : List Int), (ps.length : Int) ≤ runT h ps ∧ runT h ps ≤ 8 * (ps.length : Int)
  | [], h => by simp [runT]
  | p :: ps, h => by
    have := runT_bd ps (tNew h p)
    have := tTime_bd h p
    simp only [runT, List.length_cons]; omega
theorem runT_take (h ps : List Int) (m : Nat) : runT h (ps.take m) ≤ runT h ps ∧ 0 ≤ runT h (ps.take m) := by
  have e := runT_app (ps.take m) (ps.drop m) h
  rw [List.take_append_drop] at e
  have := runT_bd (ps.drop m) (runC h (ps.take m))
  have := runT_bd (ps.take m) h
  omega

def touchTime (h ps : List Int) : Int := if cacheOk h && plsOk ps then runT h ps else -1
def emptyC (n : Int) : List Int := if lnB n then List.replicate n.toNat (-1) else []
theorem emptyC_ok {n : Int} (h : lnB n = true) : cacheOk (emptyC n) = true := by
  have := lnB_bd h
  unfold emptyC
  rw [h, if_pos rfl]
  refine cacheOk_iff.2 ⟨by rw [List.length_replicate, Int.toNat_of_nonneg (by omega)]; exact h, fun i hi => ?_⟩
  rw [List.getElem_replicate]; rfl
theorem emptyC_len {n : Int} (h : lnB n = true) : ((emptyC n).length : Int) = n := by
  have := lnB_bd h
  unfold emptyC
  rw [h, if_pos rfl, List.length_replicate]; omega
theorem cacheOk_nil : cacheOk [] = false := rfl
def leakTime (n : Int) (before places : List Int) : Int := if lnB n && (plsOk before && plsOk places) then runT (runC (emptyC n) before) places - runT (emptyC n) places else 0

/-- One cache holds at least what the other one holds. -/
def More (a b : List Int) : Prop := a.length = b.length ∧ ∀ i (hi : i < b.length) (hi' : i < a.length), b[i] = -1 ∨ b[i] = a[i]
theorem more_touch {a b : List Int} (h : More a b) (h0 : 0 < b.length) (p : Int) (hp : 0 ≤ p) : tTime a p ≤ tTime b p ∧ More (tNew a p) (tNew b p) := by
  obtain ⟨hl, hm⟩ := h
  have ha : 0 < a.length := by omega
  have hline : tLine a p = tLine b p := by unfold tLine; rw [hl]
  constructor
  · have : tHit b p = true → tHit a p = true := by
      rw [tHit_eq h0, tHit_eq ha, beq_iff_eq, beq_iff_eq]
      intro e
      rcases hm (tLine b p) (tLine_lt h0 p) (by rw [hl]; exact tLine_lt h0 p) with h | h
      · omega
      · simp only [hline]; omega
    unfold tTime
    cases hb : tHit b p
    · split <;> simp
    · rw [this hb]; simp
  · refine ⟨by rw [tNew_len, tNew_len, hl], fun i hi hi' => ?_⟩
    rw [tNew_get h0, tNew_get ha, hline]
    by_cases e : i = tLine b p
    · rw [if_pos e, if_pos e]; exact .inr rfl
    · rw [if_neg e, if_neg e]; exact hm i _ _
theorem more_runT : ∀ {ps a b : List Int}, More a b → 0 < b.length → (∀ p ∈ ps, plOk p = true) → runT a ps ≤ runT b ps
  | [], _, _, _, _, _ => Int.le_refl _
  | p :: ps, a, b, h, h0, hp => by
    obtain ⟨h1, h2⟩ := more_touch h h0 p (plOk_iff.1 (hp p (List.mem_cons_self ..))).1
    have := more_runT (ps := ps) h2 (by rw [tNew_len]; exact h0) (fun q hq => hp q (List.mem_cons_of_mem _ hq))
    simp only [runT]; omega
theorem more_empty {n : Int} (h : lnB n = true) (ps : List Int) : More (runC (emptyC n) ps) (emptyC n) := by
  refine ⟨runC_len _ _, fun i hi _ => .inl ?_⟩
  unfold emptyC
  simp only [h, if_true, List.getElem_replicate]
theorem leak_bd {n : Int} {before places : List Int} : leakTime n before places ≤ 0 ∧ -(places.length : Int) * 7 ≤ leakTime n before places := by
  unfold leakTime
  split
  · rename_i h
    rw [Bool.and_eq_true, Bool.and_eq_true] at h
    have hl := emptyC_len h.1
    have hb := lnB_bd h.1
    have h1 := more_runT (more_empty h.1 before) (by omega) (plsOk_iff.1 h.2.2).2
    have h2 := runT_bd places (runC (emptyC n) before)
    have h3 := runT_bd places (emptyC n)
    omega
  · omega
theorem leak_nil {n : Int} {places : List Int} : leakTime n [] places = 0 := by
  unfold leakTime
  split
  · simp [runC]
  · rfl

/-! ### Clashes -/

theorem clash_line {h : List Int} (hc : cacheOk h = true) {p : Int} (hp : plOk p = true) : plOk ((p + 16 * h.length) % 4096) = true ∧ tLine h ((p + 16 * h.length) % 4096) = tLine h p ∧ (p + 16 * h.length) % 4096 / 16 ≠ p / 16 := by
  have hl := lnB_iff.1 (cacheOk_iff.1 hc).1
  have hp := plOk_iff.1 hp
  refine ⟨plOk_iff.2 (by omega), ?_, ?_⟩
  · unfold tLine
    rcases hl with h | h | h | h | h <;> rw [h] <;> omega
  · rcases hl with h | h | h | h | h <;> rw [h] <;> omega
theorem clash_time {h : List Int} (h0 : 0 < h.length) {p q : Int} (e1 : tLine h q = tLine h p) (e2 : q / 16 ≠ p / 16) : runT (tNew h p) [q, p, q, p] = 32 := by
  have step : ∀ (h : List Int) (a b : Int), 0 < h.length → tLine h b = tLine h a → b / 16 ≠ a / 16 → tTime (tNew h a) b = 8 := fun h a b h0 e1 e2 => by
    unfold tTime
    rw [tHit_new h0, if_pos e1, show (a / 16 == b / 16) = false by rw [beq_eq_false_iff_ne]; exact fun e => e2 e.symm]; rfl
  simp only [runT]
  rw [step h p q h0 e1 e2, step (tNew h p) q p (by rw [tNew_len]; exact h0) (by rw [tLine_new, tLine_new, e1]) (Ne.symm e2),
    step (tNew (tNew h p) q) p q (by rw [tNew_len, tNew_len]; exact h0) (by simp only [tLine_new]; exact e1) e2,
    step (tNew (tNew (tNew h p) q) p) q p (by simp only [tNew_len]; exact h0) (by simp only [tLine_new]; exact e1.symm) (Ne.symm e2)]
  rfl

/-! ### An empty cache -/

theorem hit_empty {n : Int} (h : lnB n = true) {p : Int} (hp : 0 ≤ p) : tHit (emptyC n) p = false := by
  have hl := emptyC_len h
  have hb := lnB_bd h
  rw [tHit_eq (by omega), beq_eq_false_iff_ne]
  unfold emptyC
  simp only [h, if_true, List.getElem_replicate]
  omega
theorem empty_twice {n : Int} (h : lnB n = true) {p : Int} (hp : 0 ≤ p) : runT (emptyC n) [p, p] = 9 := by
  have hl := emptyC_len h
  have hb := lnB_bd h
  simp only [runT, tTime]
  rw [hit_empty h hp, tHit_self (by omega) p p rfl]; rfl

/-- Neighbouring blocks. -/
def blocks (k : Nat) : List Int := (List.range k).map fun (i : Nat) => (16 : Int) * (i : Int)
theorem blocks_succ (k : Nat) : blocks (k + 1) = blocks k ++ [(16 : Int) * (k : Int)] := by unfold blocks; rw [List.range_succ, List.map_append]; rfl
theorem blocks_len (k : Nat) : (blocks k).length = k := by simp [blocks]
theorem blocks_get {k i : Nat} (hi : i < (blocks k).length) : (blocks k)[i] = 16 * (i : Int) := by simp [blocks]
theorem blocks_ok {k : Nat} (hk : k ≤ 16) : ∀ p ∈ blocks k, plOk p = true := fun p hp => by
  obtain ⟨i, hi, rfl⟩ := List.mem_map.1 hp
  have := List.mem_range.1 hi
  exact plOk_iff.2 (by omega)
theorem fill_first' {n : Nat} (h : lnB (n : Int) = true) : ∀ k, k ≤ n → (∀ i (hi : i < (runC (emptyC n) (blocks k)).length), (runC (emptyC n) (blocks k))[i] = if i < k then (i : Int) else -1) ∧ runT (emptyC n) (blocks k) = 8 * (k : Int) := by
  intro k
  have hl := emptyC_len h
  have hb := lnB_bd h
  induction k with
  | zero =>
    intro _
    refine ⟨fun i hi => ?_, rfl⟩
    show (emptyC n)[i]'hi = _
    unfold emptyC
    simp [h]
  | succ k ih =>
    intro hk
    obtain ⟨h1, h2⟩ := ih (by omega)
    have hlen : (runC (emptyC n) (blocks k)).length = n := by rw [runC_len]; omega
    have hline : tLine (runC (emptyC n) (blocks k)) (16 * (k : Int)) = k := by
      unfold tLine
      rw [hlen, show (16 : Int) * k / 16 = k by omega, Int.emod_eq_of_lt (by omega) (by omega)]; simp
    have hmiss : tHit (runC (emptyC n) (blocks k)) (16 * (k : Int)) = false := by
      rw [tHit_eq (by omega), beq_eq_false_iff_ne]
      simp only [hline]
      rw [h1 k (by omega), if_neg (by omega)]; omega
    rw [blocks_succ, runT_app, runC_app]
    constructor
    · have key : ∀ i (hi : i < (tNew (runC (emptyC n) (blocks k)) (16 * (k : Int))).length), (tNew (runC (emptyC n) (blocks k)) (16 * (k : Int)))[i] = if i < k + 1 then (i : Int) else -1 := by
        intro i hi
        rw [tNew_get (by omega), hline]
        have hi' : i < (runC (emptyC n) (blocks k)).length := by rw [tNew_len] at hi; exact hi
        by_cases e : i = k
        · rw [if_pos e, if_pos (by omega)]; omega
        · rw [if_neg e, h1 i hi']
          by_cases e2 : i < k
          · rw [if_pos e2, if_pos (by omega)]
          · rw [if_neg e2, if_neg (by omega)]
      exact key
    · rw [h2]
      simp only [runT, tTime]
      rw [hmiss]; simp; omega
theorem fill_again {n : Nat} {h : List Int} (hl : h.length = n) (hi : ∀ i (hi : i < h.length), h[i] = (i : Int)) : ∀ k, k ≤ n → runC h (blocks k) = h ∧ runT h (blocks k) = (k : Int) := by
  intro k
  induction k with
  | zero => intro _; exact ⟨rfl, rfl⟩
  | succ k ih =>
    intro hk
    obtain ⟨h1, h2⟩ := ih (by omega)
    have hline : tLine h (16 * (k : Int)) = k := by
      unfold tLine
      rw [hl, show (16 : Int) * k / 16 = k by omega, Int.emod_eq_of_lt (by omega) (by omega)]; simp
    have hhit : tHit h (16 * (k : Int)) = true := by
      rw [tHit_eq (by omega), beq_iff_eq]
      simp only [hline]
      rw [hi k (by omega)]; omega
    rw [blocks_succ, runT_app, runC_app, h1, h2]
    constructor
    · show tNew h (16 * (k : Int)) = h
      unfold tNew; rw [hhit]; rfl
    · simp only [runT, tTime]
      rw [hhit]; simp
theorem fill_times {n : Nat} (h : lnB (n : Int) = true) : runT (emptyC n) (blocks n) = 8 * (n : Int) ∧ runT (emptyC n) (blocks n ++ blocks n) = 9 * (n : Int) := by
  obtain ⟨h1, h2⟩ := fill_first' h n (Nat.le_refl _)
  have hl := emptyC_len h
  refine ⟨h2, ?_⟩
  have hlen : (runC (emptyC n) (blocks n)).length = n := by rw [runC_len]; omega
  have h3 := fill_again (h := runC (emptyC n) (blocks n)) hlen (fun i hi => by rw [h1 i hi, if_pos (by omega)]) n (Nat.le_refl _)
  rw [runT_app, h2, h3.2]; omega

/-! ### How many lines change -/

/-- The number of the first places that differ. -/
def diffs (a b : List Int) : Nat → Nat
  | 0 => 0
  | k + 1 => diffs a b k + if a.getD k 0 = b.getD k 0 then 0 else 1
theorem diffs_same (a : List Int) : ∀ k, diffs a a k = 0
  | 0 => rfl
  | k + 1 => by simp [diffs, diffs_same a k]
theorem diffs_set {h : List Int} {j : Nat} {v : Int} (hj : j < h.length) (hne : h[j] ≠ v) : ∀ k, diffs (h.set j v) h k = if j < k then 1 else 0
  | 0 => by simp [diffs]
  | k + 1 => by
    rw [diffs, diffs_set hj hne k]
    by_cases e : k = j
    · subst e
      have : ¬ (h.set k v).getD k 0 = h.getD k 0 := by
        rw [List.getD_eq_getElem?_getD, List.getD_eq_getElem?_getD, List.getElem?_set_self hj, List.getElem?_eq_getElem hj]
        exact fun e => hne e.symm
      rw [if_neg this, if_neg (by omega), if_pos (by omega)]
    · have : (h.set j v).getD k 0 = h.getD k 0 := by
        rw [List.getD_eq_getElem?_getD, List.getD_eq_getElem?_getD, List.getElem?_set_ne (Ne.symm e)]
      rw [if_pos this]
      by_cases e2 : j < k
      · rw [if_pos e2, if_pos (by omega)]
      · rw [if_neg e2, if_neg (by omega)]
theorem diffs_touch {h : List Int} (h0 : 0 < h.length) (p : Int) : diffs (tNew h p) h h.length = if tHit h p then 0 else 1 := by
  have hlt := tLine_lt h0 p
  unfold tNew
  cases hh : tHit h p
  · have hne : h[tLine h p] ≠ p / 16 := by rw [tHit_eq h0, beq_eq_false_iff_ne] at hh; exact hh
    simp only [Bool.false_eq_true, if_false]
    rw [diffs_set hlt hne, if_pos hlt]
  · simp only [if_true]; exact diffs_same _ _
end Go.Proofs.Ytlkdngjpbohgaaa
