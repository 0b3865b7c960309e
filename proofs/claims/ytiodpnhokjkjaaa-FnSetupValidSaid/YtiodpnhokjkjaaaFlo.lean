/- Plain words: channels, and who may have influence on whom. No program of the Go text stands here. -/
import Derived.Test.YtiodpnhokjkjaaaData
namespace Go.Proofs.Ytiodpnhokjkjaaa
open Go.RowKit Go.Sort

def sizedB (k s : Int) : Bool := (k == 1 && s == 1) || ((k == 2 || k == 3) && inB s 1 4)
def chnB (parts : Int) (c : Chn) : Bool := sizedB c.kind c.size && inB c.src 0 (parts - 1) && inB c.dst 0 (parts - 1) && !(c.src == c.dst)
def chansB (cs : List Chn) (parts : Int) : Bool := inB parts 0 5 && decide (cs.length ≤ 8) && cs.all (chnB parts)
def carries (f t : Int) (c : Chn) : Bool := (c.src == f && c.dst == t) || (c.kind == 3 && c.src == t && c.dst == f)
def dirB (cs : List Chn) (f t : Int) : Bool := f == t || cs.any (carries f t)
def flowDir (cs : List Chn) (parts f t : Int) : Bool := chansB cs parts && inB f 0 (parts - 1) && inB t 0 (parts - 1) && dirB cs f t

/-! ### The rounds -/
/-- One place: a has influence if it had, or if b has and something flows from a to b. -/
def fstep (D : Nat → Nat → Bool) (o : List Bool) (a b : Nat) : List Bool := o.set a (o.getD a false || (o.getD b false && D a b))
/-- The state behind k places of the loops. -/
def fst' (D : Nat → Nat → Bool) (p n : Nat) : Nat → List Bool
  | 0 => (List.replicate p false).set n true
  | k + 1 => fstep D (fst' D p n k) ((k / p) % p) (k % p)
def flowsB (D : Nat → Nat → Bool) (p n : Nat) : List Bool := fst' D p n (p * p * p)

section
variable {D : Nat → Nat → Bool} {p n : Nat}
theorem fst_len : ∀ k, (fst' D p n k).length = p
  | 0 => by simp [fst']
  | k + 1 => by show (fstep _ _ _ _).length = p; unfold fstep; rw [List.length_set]; exact fst_len k
theorem getD_set (o : List Bool) (a i : Nat) (v : Bool) : (o.set a v).getD i false = if i = a ∧ a < o.length then v else o.getD i false := by
  rw [List.getD_eq_getElem?_getD, List.getD_eq_getElem?_getD, List.getElem?_set]
  by_cases h : a = i
  · subst h
    by_cases hl : a < o.length
    · simp [hl]
    · simp [hl]
  · rw [if_neg h, if_neg (fun e => h e.1.symm)]
theorem fst_mono1 {k i : Nat} (h : (fst' D p n k).getD i false = true) : (fst' D p n (k + 1)).getD i false = true := by
  show (fstep _ _ _ _).getD i false = true
  unfold fstep
  rw [getD_set]
  split
  · rename_i e; rw [← e.1, h]; rfl
  · exact h
theorem fst_mono {k i : Nat} (h : (fst' D p n k).getD i false = true) : ∀ m, (fst' D p n (k + m)).getD i false = true
  | 0 => h
  | m + 1 => fst_mono1 (fst_mono h m)
/-- What holds at the start and is kept by every flow holds of all that are marked. -/
theorem fst_sub {S : Nat → Prop} (hn : S n) (hS : ∀ a b, a < p → b < p → D a b = true → S b → S a) : ∀ k i, (fst' D p n k).getD i false = true → S i
  | 0, i, h => by
    unfold fst' at h
    rw [getD_set] at h
    split at h
    · rename_i e; rw [e.1]; exact hn
    · rw [List.getD_eq_getElem?_getD, List.getElem?_replicate] at h
      split at h <;> simp at h
  | k + 1, i, h => by
    have h : (fstep (D := D) (fst' D p n k) ((k / p) % p) (k % p)).getD i false = true := h
    unfold fstep at h
    rw [getD_set] at h
    split at h
    · rename_i e
      rw [fst_len] at e
      rcases Bool.or_eq_true _ _ |>.mp h with h | h
      · rw [e.1]; exact fst_sub hn hS k _ h
      · obtain ⟨h1, h2⟩ := Bool.and_eq_true _ _ |>.mp h
        rw [e.1]
        exact hS _ _ e.2 (Nat.mod_lt _ (by omega)) h2 (fst_sub hn hS k _ h1)
    · exact fst_sub hn hS k i h

def cnt (o : List Bool) : Nat := o.countP (fun b => b)
theorem cnt_le (o : List Bool) : cnt o ≤ o.length := List.countP_le_length
theorem cnt_mono : ∀ {o o' : List Bool}, o.length = o'.length → (∀ i, o.getD i false = true → o'.getD i false = true) → cnt o ≤ cnt o' ∧ (cnt o = cnt o' → o = o')
  | [], [], _, _ => ⟨Nat.le_refl _, fun _ => rfl⟩
  | [], y :: ys, h, _ => by simp at h
  | x :: xs, [], h, _ => by simp at h
  | x :: xs, y :: ys, h, hm => by
    have ih := cnt_mono (o := xs) (o' := ys) (by simpa using h) (fun i hi => by have := hm (i + 1) (by simpa using hi); simpa using this)
    have h0 : x = true → y = true := fun e => by have := hm 0 (by simpa using e); simpa using this
    unfold cnt at ih ⊢
    rw [List.countP_cons, List.countP_cons]
    cases x <;> cases y
    · exact ⟨by simpa using ih.1, fun e => by rw [ih.2 (by simpa using e)]⟩
    · exact ⟨by simp; omega, fun e => by simp at e; omega⟩
    · exact absurd (h0 rfl) (by decide)
    · exact ⟨by simpa using ih.1, fun e => by rw [ih.2 (by simpa using e)]⟩
theorem eq_between {k : Nat} : ∀ m, fst' D p n (k + m) = fst' D p n k → ∀ j, j ≤ m → fst' D p n (k + j) = fst' D p n k
  | m, h, j, hj => by
    have e1 := cnt_mono (o := fst' D p n k) (o' := fst' D p n (k + j)) (by rw [fst_len, fst_len]) (fun i hi => fst_mono hi j)
    have e2 := cnt_mono (o := fst' D p n (k + j)) (o' := fst' D p n (k + m)) (by rw [fst_len, fst_len]) (fun i hi => by have := fst_mono hi (m - j); rwa [show k + j + (m - j) = k + m by omega] at this)
    rw [h] at e2
    exact (e1.2 (by omega)).symm
/-- What a whole round leaves as it is, is closed. -/
theorem round_closed {r : Nat} (h : fst' D p n (r * (p * p) + p * p) = fst' D p n (r * (p * p))) {a b : Nat} (ha : a < p) (hb : b < p) (hD : D a b = true) (hx : (fst' D p n (r * (p * p))).getD b false = true) : (fst' D p n (r * (p * p))).getD a false = true := by
  have hj : a * p + b < p * p := by
    have : a * p + p ≤ p * p := by rw [← Nat.succ_mul]; exact Nat.mul_le_mul_right _ ha
    omega
  have e1 := eq_between _ h (a * p + b) (by omega)
  have e2 := eq_between _ h (a * p + b + 1) (by omega)
  have e3 : fst' D p n (r * (p * p) + (a * p + b + 1)) = fstep D (fst' D p n (r * (p * p) + (a * p + b))) (((r * (p * p) + (a * p + b)) / p) % p) ((r * (p * p) + (a * p + b)) % p) := rfl
  have q : r * (p * p) + (a * p + b) = (r * p + a) * p + b := by rw [Nat.add_mul, Nat.mul_assoc]; omega
  have q1 : (r * (p * p) + (a * p + b)) / p = r * p + a := by rw [q, Nat.add_comm, Nat.add_mul_div_right _ _ (by omega), Nat.div_eq_of_lt hb, Nat.zero_add]
  have q2 : (r * (p * p) + (a * p + b)) % p = b := by rw [q, Nat.add_comm, Nat.add_mul_mod_self_right, Nat.mod_eq_of_lt hb]
  have q3 : (r * p + a) % p = a := by rw [Nat.add_comm, Nat.add_mul_mod_self_right, Nat.mod_eq_of_lt ha]
  rw [q1, q2, q3, e1, e2] at e3
  rw [e3]
  unfold fstep
  rw [getD_set, if_pos ⟨rfl, by rw [fst_len]; exact ha⟩, hx, hD, Bool.or_comm]
  rfl
theorem start_true (hn : n < p) : (fst' D p n 0).getD n false = true := by
  unfold fst'
  rw [getD_set, if_pos ⟨rfl, by simpa using hn⟩]
theorem flows_self (hn : n < p) : (flowsB D p n).getD n false = true := by
  have := fst_mono (start_true (D := D) hn) (p * p * p)
  rwa [Nat.zero_add] at this
theorem fixed_at (hn : n < p) : ∃ r, r < p ∧ fst' D p n (r * (p * p) + p * p) = fst' D p n (r * (p * p)) := by
  refine Classical.byContradiction fun hno => ?_
  have grow : ∀ r, r ≤ p → r + 1 ≤ cnt (fst' D p n (r * (p * p))) := fun r => by
    induction r with
    | zero =>
      intro _
      rw [Nat.zero_mul]
      unfold cnt
      have : 0 < (fst' D p n 0).countP (fun b => b) := by
        rw [List.countP_pos_iff]
        refine ⟨true, ?_, rfl⟩
        have h := start_true (D := D) hn
        rw [List.getD_eq_getElem?_getD] at h
        cases e : (fst' D p n 0)[n]? with
        | none => rw [e] at h; simp at h
        | some x => rw [e] at h; simp at h; subst h; exact List.mem_of_getElem? e
      omega
    | succ r ih =>
      intro hr
      have h1 := ih (by omega)
      have h2 := cnt_mono (o := fst' D p n (r * (p * p))) (o' := fst' D p n (r * (p * p) + p * p)) (by rw [fst_len, fst_len]) (fun i hi => fst_mono hi _)
      have h3 : cnt (fst' D p n (r * (p * p))) ≠ cnt (fst' D p n (r * (p * p) + p * p)) := fun e => hno ⟨r, by omega, (h2.2 e).symm⟩
      rw [Nat.succ_mul]
      omega
  have h1 := grow p (Nat.le_refl _)
  have h2 := cnt_le (fst' D p n (p * (p * p)))
  rw [fst_len] at h2
  omega
theorem fixed_on {r : Nat} (h : fst' D p n (r * (p * p) + p * p) = fst' D p n (r * (p * p))) : ∀ m, fst' D p n (r * (p * p) + m * (p * p)) = fst' D p n (r * (p * p))
  | 0 => by rw [Nat.zero_mul, Nat.add_zero]
  | m + 1 => by
    -- a round that starts from the same list ends with the same list
    have same : ∀ (s t j : Nat), fst' D p n (s * (p * p)) = fst' D p n (t * (p * p)) → fst' D p n (s * (p * p) + j) = fst' D p n (t * (p * p) + j) := fun s t j e => by
      induction j with
      | zero => exact e
      | succ j ih =>
        show fstep D (fst' D p n (s * (p * p) + j)) (((s * (p * p) + j) / p) % p) ((s * (p * p) + j) % p) = fstep D (fst' D p n (t * (p * p) + j)) (((t * (p * p) + j) / p) % p) ((t * (p * p) + j) % p)
        rw [ih]
        rcases Nat.eq_zero_or_pos p with rfl | hp
        · simp
        · have m1 : ∀ s, ((s * (p * p) + j) / p) % p = (j / p) % p := fun s => by
            rw [← Nat.mul_assoc, Nat.add_comm, Nat.add_mul_div_right _ _ hp, Nat.add_mul_mod_self_right]
          have m2 : ∀ s, (s * (p * p) + j) % p = j % p := fun s => by
            rw [← Nat.mul_assoc, Nat.add_comm, Nat.add_mul_mod_self_right]
          rw [m1 s, m1 t, m2 s, m2 t]
    have ih := fixed_on h m
    rw [← Nat.add_mul] at ih
    have := same (r + m) r (p * p) ih
    rw [h] at this
    rw [← this, Nat.succ_mul, Nat.add_mul, Nat.add_assoc]
theorem flows_closed (hn : n < p) {a b : Nat} (ha : a < p) (hb : b < p) (hD : D a b = true) (hx : (flowsB D p n).getD b false = true) : (flowsB D p n).getD a false = true := by
  obtain ⟨r, hr, h⟩ := fixed_at (D := D) hn
  have e : flowsB D p n = fst' D p n (r * (p * p)) := by
    have := fixed_on h (p - r)
    rw [← Nat.add_mul, show r + (p - r) = p by omega, ← Nat.mul_assoc] at this
    exact this
  rw [e] at hx ⊢
  exact round_closed h ha hb hD hx
theorem flows_sub {S : Nat → Prop} (hn : S n) (hS : ∀ a b, a < p → b < p → D a b = true → S b → S a) {i : Nat} (h : (flowsB D p n).getD i false = true) : S i := fst_sub hn hS _ _ h
theorem flows_len : (flowsB D p n).length = p := fst_len _
end
/-- What FlowsTo returns. -/
def flowRes (cs : List Chn) (parts n : Int) : List Bool :=
  if chansB cs parts && inB n 0 (parts - 1) then flowsB (fun a b => dirB cs a b) parts.toNat n.toNat else []

theorem dir_take {cs : List Chn} {a b : Int} (m : Nat) (h : dirB (cs.take m) a b = true) : dirB cs a b = true := by
  unfold dirB at *
  rcases Bool.or_eq_true _ _ |>.mp h with h | h
  · rw [h]; rfl
  · rw [Bool.or_eq_true]
    rw [List.any_eq_true] at h ⊢
    obtain ⟨x, hx, hc⟩ := h
    exact .inr ⟨x, List.mem_of_mem_take hx, hc⟩
theorem chans_take {cs : List Chn} {parts : Int} (m : Nat) (h : chansB cs parts = true) : chansB (cs.take m) parts = true := by
  unfold chansB at *
  rw [Bool.and_eq_true, Bool.and_eq_true, decide_eq_true_iff, List.all_eq_true] at *
  exact ⟨⟨h.1.1, by rw [List.length_take]; omega⟩, fun x hx => h.2 x (List.mem_of_mem_take hx)⟩
end Go.Proofs.Ytiodpnhokjkjaaa
