/- Plain words: programs, cores, steps and runs, and what the laws say of them. No program of the Go text stands here. -/
import Derived.Test.YtiodpnhokjkjaaaData
namespace Go.Proofs.Ytiodpnhokjkjaaa
open Go.RowKit Go.Sort

def valB (n : Int) : Bool := inB n 0 255
def ordB (cells len : Int) (o : Ord3) : Bool :=
  if o.op = 1 then inB o.a 0 (cells - 1) && inB o.b 0 255
  else if o.op = 2 ∨ o.op = 3 then inB o.a 0 (cells - 1) && inB o.b 0 (cells - 1)
  else if o.op = 4 then inB o.a 0 (len - 1) && inB o.b 0 (cells - 1)
  else if o.op = 5 ∨ o.op = 6 then inB o.a 0 7 && inB o.b 0 (cells - 1)
  else if o.op = 7 then inB o.a 0 (cells - 1) && (o.b == 0)
  else if o.op = 0 ∨ o.op = 8 then (o.a == 0) && (o.b == 0)
  else false
def progB (os : List Ord3) (cells : Int) : Bool := (inB os.length 1 20 && inB cells 1 8) && os.all (ordB cells os.length)
/-- A core: its cells, the number of its instruction, and whether it has stopped. -/
structure Cor where
  cs : List Int
  at' : Int
  stop : Bool
def coreB (c : Cor) (os : List Ord3) (cells : Int) : Bool := progB os cells && ((decide ((c.cs.length : Int) = cells) && inB c.at' 0 (os.length - 1)) && c.cs.all valB)
def ordAt (os : List Ord3) (k : Int) : Ord3 := match os[k.toNat]? with | some o => o | none => ⟨0, 0, 0⟩
def celAt (cs : List Int) (k : Int) : Int := match cs[k.toNat]? with | some n => n | none => 0
def corDo (c : Cor) (os : List Ord3) (clock : Int) (o : Ord3) : Cor :=
  if o.op = 1 then ⟨c.cs.set o.a.toNat o.b, (c.at' + 1) % os.length, false⟩
  else if o.op = 2 then ⟨c.cs.set o.a.toNat ((celAt c.cs o.a + celAt c.cs o.b) % 256), (c.at' + 1) % os.length, false⟩
  else if o.op = 3 then ⟨c.cs.set o.a.toNat (celAt c.cs o.b), (c.at' + 1) % os.length, false⟩
  else if o.op = 7 then ⟨c.cs.set o.a.toNat (clock % 256), (c.at' + 1) % os.length, false⟩
  else if o.op = 4 then ⟨c.cs, if celAt c.cs o.b = 0 then o.a else (c.at' + 1) % os.length, false⟩
  else if o.op = 8 then ⟨c.cs, c.at', true⟩
  else ⟨c.cs, (c.at' + 1) % os.length, false⟩
def corStep (c : Cor) (os : List Ord3) (clock : Int) : Cor := if c.stop then c else corDo c os clock (ordAt os c.at')
def corOrd (c : Cor) (os : List Ord3) : Ord3 := if c.stop then ⟨0, 0, 0⟩ else ordAt os c.at'
def corRun (c : Cor) (os : List Ord3) : Nat → Cor
  | 0 => c
  | n + 1 => corStep (corRun c os n) os n

theorem ordB_a {cells len : Int} {o : Ord3} (h : ordB cells len o = true) (hop : o.op = 1 ∨ o.op = 2 ∨ o.op = 3 ∨ o.op = 7) : 0 ≤ o.a ∧ o.a ≤ cells - 1 := by
  unfold ordB at h
  rcases hop with e | e | e | e <;> simp [e] at h <;> exact inB_iff.1 h.1
theorem ordB_b {cells len : Int} {o : Ord3} (h : ordB cells len o = true) (hop : o.op = 2 ∨ o.op = 3 ∨ o.op = 4) : 0 ≤ o.b ∧ o.b ≤ cells - 1 := by
  unfold ordB at h
  rcases hop with e | e | e <;> simp [e] at h <;> exact inB_iff.1 h.2
theorem ordB_set {cells len : Int} {o : Ord3} (h : ordB cells len o = true) (hop : o.op = 1) : 0 ≤ o.b ∧ o.b ≤ 255 := by
  unfold ordB at h
  simp [hop] at h; exact inB_iff.1 h.2
theorem ordB_jump {cells len : Int} {o : Ord3} (h : ordB cells len o = true) (hop : o.op = 4) : 0 ≤ o.a ∧ o.a ≤ len - 1 := by
  unfold ordB at h
  simp [hop] at h; exact inB_iff.1 h.1
theorem progB_iff {os : List Ord3} {cells : Int} : progB os cells = true ↔ (1 ≤ (os.length : Int) ∧ (os.length : Int) ≤ 20) ∧ (1 ≤ cells ∧ cells ≤ 8) ∧ ∀ o ∈ os, ordB cells os.length o = true := by
  unfold progB; rw [Bool.and_eq_true, Bool.and_eq_true, inB_iff, inB_iff, List.all_eq_true, and_assoc]
theorem coreB_iff {c : Cor} {os : List Ord3} {cells : Int} : coreB c os cells = true ↔ progB os cells = true ∧ (c.cs.length : Int) = cells ∧ (0 ≤ c.at' ∧ c.at' ≤ (os.length : Int) - 1) ∧ ∀ n ∈ c.cs, valB n = true := by
  unfold coreB; rw [Bool.and_eq_true, Bool.and_eq_true, Bool.and_eq_true, decide_eq_true_iff, inB_iff, List.all_eq_true, and_assoc]
theorem ordAt_get {os : List Ord3} {k : Nat} (h : k < os.length) : ordAt os k = os[k] := by
  unfold ordAt; simp [List.getElem?_eq_getElem h]
theorem celAt_get {cs : List Int} {k : Nat} (h : k < cs.length) : celAt cs k = cs[k] := by
  unfold celAt; simp [List.getElem?_eq_getElem h]
theorem celAt_in {cs : List Int} (h : ∀ n ∈ cs, valB n = true) (k : Int) : 0 ≤ celAt cs k ∧ celAt cs k ≤ 255 := by
  unfold celAt
  cases e : cs[k.toNat]? with
  | none => simp
  | some n => exact inB_iff.1 (h n (List.mem_of_getElem? e))
theorem ordAt_ok {os : List Ord3} {cells k : Int} (hp : progB os cells = true) (h0 : 0 ≤ k) (h1 : k ≤ (os.length : Int) - 1) : ordB cells os.length (ordAt os k) = true ∧ ordAt os k ∈ os := by
  obtain ⟨j, rfl⟩ := Int.eq_ofNat_of_zero_le h0
  have hj : j < os.length := by omega
  rw [ordAt_get hj]
  exact ⟨(progB_iff.1 hp).2.2 _ (List.getElem_mem hj), List.getElem_mem hj⟩
theorem set_val {cs : List Int} (h : ∀ n ∈ cs, valB n = true) (i : Nat) {v : Int} (h0 : 0 ≤ v) (h1 : v ≤ 255) : ∀ n ∈ cs.set i v, valB n = true := fun n hn => by
  rcases List.mem_or_eq_of_mem_set hn with g | rfl
  · exact h n g
  · exact inB_iff.2 ⟨h0, h1⟩
theorem next_in {at' : Int} {n : Nat} (hn : 1 ≤ (n : Int)) : 0 ≤ (at' + 1) % (n : Int) ∧ (at' + 1) % (n : Int) ≤ (n : Int) - 1 := by
  have a := Int.emod_nonneg (at' + 1) (show (n : Int) ≠ 0 by omega)
  have b := Int.emod_lt_of_pos (at' + 1) (show (0 : Int) < n by omega)
  omega
theorem corDo_ok {c : Cor} {os : List Ord3} {cells clock : Int} {o : Ord3} (h : coreB c os cells = true) (ho : ordB cells os.length o = true) : coreB (corDo c os clock o) os cells = true := by
  obtain ⟨hp, hl, ha, hv⟩ := coreB_iff.1 h
  have hn := next_in (at' := c.at') (n := os.length) (progB_iff.1 hp).1.1
  unfold corDo
  split
  · rename_i e
    have := ordB_set ho e
    exact coreB_iff.2 ⟨hp, by simpa using hl, hn, set_val hv _ this.1 this.2⟩
  · split
    · exact coreB_iff.2 ⟨hp, by simpa using hl, hn, set_val hv _ (by omega) (by omega)⟩
    · split
      · have := celAt_in hv o.b
        exact coreB_iff.2 ⟨hp, by simpa using hl, hn, set_val hv _ this.1 this.2⟩
      · split
        · exact coreB_iff.2 ⟨hp, by simpa using hl, hn, set_val hv _ (by omega) (by omega)⟩
        · split
          · rename_i e
            have := ordB_jump ho e
            refine coreB_iff.2 ⟨hp, hl, ?_, hv⟩
            show 0 ≤ (if celAt c.cs o.b = 0 then o.a else (c.at' + 1) % os.length) ∧ (if celAt c.cs o.b = 0 then o.a else (c.at' + 1) % os.length) ≤ (os.length : Int) - 1
            split
            · exact this
            · exact hn
          · split
            · exact coreB_iff.2 ⟨hp, hl, ha, hv⟩
            · exact coreB_iff.2 ⟨hp, hl, hn, hv⟩
theorem corStep_ok {c : Cor} {os : List Ord3} {cells : Int} (clock : Int) (h : coreB c os cells = true) : coreB (corStep c os clock) os cells = true := by
  unfold corStep
  split
  · exact h
  · obtain ⟨hp, _, ha, _⟩ := coreB_iff.1 h
    exact corDo_ok h (ordAt_ok hp ha.1 ha.2).1
theorem corRun_ok {c : Cor} {os : List Ord3} {cells : Int} (h : coreB c os cells = true) : ∀ n, coreB (corRun c os n) os cells = true
  | 0 => h
  | n + 1 => corStep_ok n (corRun_ok h n)
theorem corRun_stop {c : Cor} {os : List Ord3} (h : c.stop = true) : ∀ n, corRun c os n = c
  | 0 => rfl
  | n + 1 => by
    show corStep (corRun c os n) os n = c
    rw [corRun_stop h n]; unfold corStep; rw [if_pos h]
/-- Without OpClock the time does not matter. -/
theorem corDo_time {c : Cor} {os : List Ord3} {o : Ord3} (t t' : Int) (h : o.op ≠ 7) : corDo c os t o = corDo c os t' o := by
  unfold corDo
  rw [if_neg h, if_neg h]
theorem corStep_time {c : Cor} {os : List Ord3} (t t' : Int) (h : (corOrd c os).op ≠ 7) : corStep c os t = corStep c os t' := by
  unfold corStep
  unfold corOrd at h
  split
  · rfl
  · rename_i hs
    rw [if_neg hs] at h
    exact corDo_time t t' h
theorem corOrd_mem {c : Cor} {os : List Ord3} {cells : Int} (h : coreB c os cells = true) (hs : c.stop = false) : corOrd c os ∈ os := by
  obtain ⟨hp, _, ha, _⟩ := coreB_iff.1 h
  unfold corOrd
  rw [hs]
  exact (ordAt_ok hp ha.1 ha.2).2
theorem corRun_add {c : Cor} {os : List Ord3} {cells : Int} (h : coreB c os cells = true) (ht : ∀ o ∈ os, o.op ≠ 7) (m : Nat) : ∀ n, corRun (corRun c os m) os n = corRun c os (m + n)
  | 0 => rfl
  | n + 1 => by
    show corStep (corRun (corRun c os m) os n) os n = corStep (corRun c os (m + n)) os ((m + n : Nat) : Int)
    rw [corRun_add h ht m n]
    cases hs : (corRun c os (m + n)).stop
    · exact corStep_time _ _ (ht _ (corOrd_mem (corRun_ok h _) hs))
    · unfold corStep; rw [hs]; rfl
/-- At most one cell changes. -/
theorem corDo_set (c : Cor) (os : List Ord3) (clock : Int) (o : Ord3) : ∃ i v, (corDo c os clock o).cs = c.cs.set i v ∨ (corDo c os clock o).cs = c.cs := by
  unfold corDo
  split
  · exact ⟨_, _, .inl rfl⟩
  · split
    · exact ⟨_, _, .inl rfl⟩
    · split
      · exact ⟨_, _, .inl rfl⟩
      · split
        · exact ⟨_, _, .inl rfl⟩
        · split
          · exact ⟨0, 0, .inr rfl⟩
          · split
            · exact ⟨0, 0, .inr rfl⟩
            · exact ⟨0, 0, .inr rfl⟩
theorem corStep_set (c : Cor) (os : List Ord3) (clock : Int) : ∃ i : Nat, ∀ j, j ≠ i → (corStep c os clock).cs[j]? = c.cs[j]? := by
  unfold corStep
  split
  · exact ⟨0, fun _ _ => rfl⟩
  · obtain ⟨i, v, h | h⟩ := corDo_set c os clock (ordAt os c.at')
    · exact ⟨i, fun j hj => by rw [h, List.getElem?_set_ne (fun e => hj e.symm)]⟩
    · exact ⟨0, fun j _ => by rw [h]⟩
/-- One instruction that adds cell 1 to cell 0. -/
theorem corRun_count {start : Int} (h0 : 0 ≤ start) (h1 : start ≤ 255) : ∀ n : Nat, corRun ⟨[start, 1], 0, false⟩ [⟨2, 0, 1⟩] n = ⟨[(start + n) % 256, 1], 0, false⟩
  | 0 => by
    show (⟨[start, 1], 0, false⟩ : Cor) = _
    rw [show (start + ((0 : Nat) : Int)) % 256 = start by omega]
  | n + 1 => by
    show corStep (corRun _ _ n) _ _ = _
    rw [corRun_count h0 h1 n]
    show (⟨[((start + n) % 256 + 1) % 256, 1], 0, false⟩ : Cor) = _
    rw [show ((start + (n : Int)) % 256 + 1) % 256 = (start + ((n + 1 : Nat) : Int)) % 256 by omega]
theorem corRun_idle {size : Nat} (hs : 1 ≤ size) : ∀ n : Nat, corRun ⟨[0, 0, 0], 0, false⟩ (List.replicate size ⟨0, 0, 0⟩) n = ⟨[0, 0, 0], (n : Int) % (size : Int), false⟩
  | 0 => by
    show (⟨[0, 0, 0], 0, false⟩ : Cor) = _
    rw [show (((0 : Nat) : Int) % (size : Int)) = 0 by simp]
  | n + 1 => by
    show corStep (corRun _ _ n) _ _ = _
    rw [corRun_idle hs n]
    have hl : (List.replicate size (⟨0, 0, 0⟩ : Ord3)).length = size := List.length_replicate ..
    have a := Int.emod_nonneg (n : Int) (show (size : Int) ≠ 0 by omega)
    have b := Int.emod_lt_of_pos (n : Int) (show (0 : Int) < size by omega)
    have e : ordAt (List.replicate size (⟨0, 0, 0⟩ : Ord3)) ((n : Int) % (size : Int)) = ⟨0, 0, 0⟩ := by
      obtain ⟨j, hj⟩ := Int.eq_ofNat_of_zero_le a
      rw [hj, ordAt_get (by rw [hl]; omega), List.getElem_replicate]
    show corDo _ _ _ (ordAt _ _) = _
    simp only [e]
    show (⟨[0, 0, 0], ((n : Int) % (size : Int) + 1) % ((List.replicate size (⟨0, 0, 0⟩ : Ord3)).length : Int), false⟩ : Cor) = _
    rw [hl, Int.emod_add_emod]
    rfl
end Go.Proofs.Ytiodpnhokjkjaaa
