/- Transfers: TransferValid, TransferPart, TransferAllowed of the program and of the reference, for every input. -/
import Derived.Test.YtaeimnfdedcgkaaWin
import Derived.Test.YtaeimnfdedcgkaaLib
namespace Go.Proofs.Ytaeimnfdedcgkaa
open Go.RowKit Go.Sort

/-! ### Plain -/

def trnOk (t : Trn) : Bool := inB t.count 1 64 && inB t.place 0 (4096 - t.count)
theorem trnOk_iff {t : Trn} : trnOk t = true ↔ 1 ≤ t.count ∧ t.count ≤ 64 ∧ 0 ≤ t.place ∧ t.place ≤ 4096 - t.count := by
  unfold trnOk; rw [Bool.and_eq_true, inB_iff, inB_iff]; omega

/-- Place number n of a transfer is allowed. -/
def al (xs : List Win) (t : Trn) (n : Nat) : Bool := decide (0 ≤ winAt xs (t.place + n) t.write)

/-- How many places, from the first on, are allowed: of m. -/
def lead (p : Nat → Bool) : Nat → Nat
  | 0 => 0
  | m + 1 => if lead p m = m ∧ p m = true then m + 1 else lead p m
theorem lead_le (p : Nat → Bool) : ∀ m, lead p m ≤ m
  | 0 => Nat.le_refl _
  | m + 1 => by unfold lead; split <;> have := lead_le p m <;> omega
theorem lead_all (p : Nat → Bool) : ∀ m i, i < lead p m → p i = true
  | 0, i, h => by simp [lead] at h
  | m + 1, i, h => by
    unfold lead at h
    split at h
    · rename_i hh
      rcases Nat.lt_or_ge i m with h' | h'
      · exact lead_all p m i (by omega)
      · rw [show i = m by omega]; exact hh.2
    · exact lead_all p m i h
theorem lead_stop (p : Nat → Bool) : ∀ m, lead p m < m → p (lead p m) = false
  | 0, h => by simp [lead] at h
  | m + 1, h => by
    unfold lead at h ⊢
    split
    · rename_i hh; rw [if_pos hh] at h; omega
    · rename_i hh
      rcases Nat.lt_or_ge (lead p m) m with h' | h'
      · exact lead_stop p m h'
      · have he : lead p m = m := by have := lead_le p m; omega
        rw [he]
        cases hp : p m
        · rfl
        · exact absurd ⟨he, hp⟩ hh
theorem lead_eq {p : Nat → Bool} {m n : Nat} (h1 : ∀ i, i < n → p i = true) (h2 : n = m ∨ n < m ∧ p n = false) : lead p m = n := by
  have l1 := lead_le p m
  rcases Nat.lt_trichotomy (lead p m) n with h | h | h
  · have := lead_stop p m (by omega)
    rw [h1 _ h] at this; cases this
  · exact h
  · rcases h2 with h2 | ⟨_, h2⟩
    · omega
    · rw [lead_all p m n h] at h2; cases h2

def partOf (xs : List Win) (t : Trn) : Nat := lead (al xs t) t.count.toNat
def trnPart (xs : List Win) (t : Trn) : Int := if winsOk xs && trnOk t then (partOf xs t : Int) else -1
def trnAllowed (xs : List Win) (t : Trn) : Bool := trnOk t && (trnPart xs t == t.count)

/-! ### Contracts -/

theorem callTrnValid (x : Trn) (w : World) :
    Calls Try.prog 45 #[x.val] w fun e w' => e = .returned (.bool (trnOk x)) ∧ Below w.heap.size w w' := by
  cases h1 : inB x.count 1 64
  all_goals
    have e : trnOk x = (inB x.count 1 64 && inB x.place 0 (4096 - x.count)) := rfl
    rw [h1] at e
    have E := Lib.hid e
    clear e
    have h := inB_iff (n := x.count) (lo := 1) (hi := 64)
    simp only [h1, true_iff, false_iff, reduceCtorEq] at h
    go_enter Try.func45, Try.ntmps45
    go_wp2_with (go_at_call 56; refine (callIn _ _ _ _).mono ?_; rintro e w' ⟨rfl, rfl⟩)
    go_ret
    exact ⟨by rw [E.out]; simp, below1 _ _⟩

theorem callSTrnValid (x : Trn) (w : World) :
    Calls Try.prog 46 #[x.val] w fun e w' => e = .returned (.bool (trnOk x)) ∧ Below w.heap.size w w' := by
  cases h1 : inB x.count 1 64
  all_goals
    have e : trnOk x = (inB x.count 1 64 && inB x.place 0 (4096 - x.count)) := rfl
    rw [h1] at e
    have E := Lib.hid e
    clear e
    have h := inB_iff (n := x.count) (lo := 1) (hi := 64)
    simp only [h1, true_iff, false_iff, reduceCtorEq] at h
    go_enter Try.func46, Try.ntmps46
    go_wp2_with (go_at_call 54; refine (callL1In _ _ _ _).mono ?_; rintro e w' ⟨rfl, rfl⟩)
    go_ret
    exact ⟨by rw [E.out]; simp, below1 _ _⟩

set_option maxHeartbeats 800000 in
theorem callPart (A : Option Addr) (c : Nat) (xs : List Win) (t : Trn) (ht : trnOk t = true) (w : World) (B : Nat) (hB : B ≤ w.heap.size) (hm : xs.length ≤ 1073741824) (hr : Rd eWin w B A xs) :
    Calls Try.prog 51 #[t.val, .slice A xs.length c] w fun e w' => e = .returned (.int .i64 (partOf xs t)) ∧ Below w.heap.size w w' := by
  obtain ⟨t1, t2, t3, t4⟩ := trnOk_iff.1 ht
  obtain ⟨cn, hcn⟩ := Int.eq_ofNat_of_zero_le (show 0 ≤ t.count by omega)
  have EP : Hid (partOf xs t = lead (al xs t) cn) := by show partOf xs t = _; unfold partOf; rw [hcn]; rfl
  obtain ⟨tp, tc, tw⟩ := t
  simp only at t1 t2 t3 t4 hcn
  subst hcn
  clear ht
  go_enter Try.func51, Try.ntmps51
  go_wp2
  go_loopw [5] (fun i wr => ∃ k : Nat, k ≤ cn ∧ i = .int .i64 k ∧ Below (w.heap.size + 1) (w.alloc (.cells #[.int .i64 tp, .int .i64 cn, .bool tw] 25)) wr ∧ Hid (∀ i, i < k → al xs ⟨tp, cn, tw⟩ i = true)) (fun i _ => cn - (intOf i).toNat)
  case atStart => exact ⟨0, by omega, rfl, Below.refl _ _, fun i hi => by omega⟩
  case round =>
    obtain ⟨k, hk, rfl, hbl, hal⟩ := hrel
    have hsz : w.heap.size < wr.heap.size := by have := hbl.size; simp at this; omega
    have c0 : wr.cell? ⟨w.heap.size, 0, none⟩ = some (.int .i64 tp) := (hbl.cell (by show w.heap.size < w.heap.size + 1; omega)).trans (by rw [World.cell?_alloc_new]; rfl)
    have c1 : wr.cell? ⟨w.heap.size, 1, none⟩ = some (.int .i64 cn) := (hbl.cell (by show w.heap.size < w.heap.size + 1; omega)).trans (by rw [World.cell?_alloc_new]; rfl)
    have c2 : wr.cell? ⟨w.heap.size, 2, none⟩ = some (.bool tw) := (hbl.cell (by show w.heap.size < w.heap.size + 1; omega)).trans (by rw [World.cell?_alloc_new]; rfl)
    have hb0 : Below w.heap.size w wr := (below1 w _).trans (hbl.mono (by omega))
    have HB := Lib.hid (And.intro hbl hb0)
    clear hbl hb0
    by_cases hlt : k < cn
    · have hd : decide ((k : Int) < (cn : Int)) = true := by simpa using hlt
      go_wp2_with fail
      refine (callWindowAt A c xs (tp + k) tw _ B (by omega) hm (hr.below (HB.out.2.mono hB))).mono ?_
      rintro e w1 ⟨rfl, hb1⟩
      have EA : Hid (al xs ⟨tp, cn, tw⟩ k = decide (0 ≤ winAt xs (tp + k) tw)) := rfl
      have HB2 : Hid (Below (w.heap.size + 1) (w.alloc (.cells #[.int .i64 tp, .int .i64 cn, .bool tw] 25)) w1) := HB.out.1.trans (hb1.mono (by omega))
      clear hb1 HB
      generalize winAt xs (tp + k) tw = q at *
      by_cases hq : 0 ≤ q
      · go_wp2
        go_roundw
        case rel => exact ⟨k + 1, by omega, by go_num, HB2.out, fun i hi => by
          rcases Nat.lt_or_ge i k with h' | h'
          · exact hal i h'
          · rw [show i = k by omega, EA.out]; simpa using hq⟩
        case measure => simp [intOf]; omega
      · go_wp2
        go_ret
        refine ⟨?_, (below1 w _).trans (HB2.out.mono (by omega))⟩
        rw [EP.out, lead_eq (m := cn) hal (.inr ⟨hlt, by rw [EA.out]; simpa using hq⟩)]
        rfl
    · have hke : k = cn := by omega
      subst hke
      go_wp2
      go_ret
      exact ⟨by rw [EP.out, lead_eq (m := k) hal (.inl rfl)] <;> rfl, HB.out.2⟩

set_option maxHeartbeats 400000 in
theorem callTrnPart (A : Option Addr) (c : Nat) (xs : List Win) (t : Trn) (w : World) (B : Nat) (hB : B ≤ w.heap.size) (hm : xs.length ≤ 1073741824) (hr : Rd eWin w B A xs) :
    Calls Try.prog 16 #[.slice A xs.length c, t.val] w fun e w' => e = .returned (.int .i64 (trnPart xs t)) ∧ Below w.heap.size w w' := by
  have E : Hid (trnPart xs t = if winsOk xs && trnOk t then (partOf xs t : Int) else -1) := rfl
  cases hok : winsOk xs
  · have HK := Lib.hid hok
    clear hok
    go_enter Try.func16, Try.ntmps16
    go_wp2_with fail
    refine (callWindowsValid A c xs _ B (by simp; omega) hm (hr.below ((below1 _ _).mono hB))).mono ?_
    rintro e w1 ⟨rfl, hb1⟩
    rw [HK.out]
    go_wp2
    go_ret
    exact ⟨by rw [E.out, HK.out] <;> rfl, bel_trans (below1 _ _) hb1⟩
  · have HK := Lib.hid hok
    clear hok
    cases hok2 : trnOk t
    all_goals
      have HK2 := Lib.hid hok2
      clear hok2
      go_enter Try.func16, Try.ntmps16
      go_wp2_with fail
      refine (callWindowsValid A c xs _ B (by simp; omega) hm (hr.below ((below1 _ _).mono hB))).mono ?_
      rintro e w1 ⟨rfl, hb1⟩
      rw [HK.out]
      obtain ⟨hc, hf⟩ := bcell hb1
      simp only [World.size_alloc] at hc hf
      have c0 : w1.cell? ⟨w.heap.size, 0, none⟩ = some (.int .i64 t.place) := (hc w.heap.size 0 (by omega)).trans (by rw [World.cell?_alloc_new]; rfl)
      have c1 : w1.cell? ⟨w.heap.size, 1, none⟩ = some (.int .i64 t.count) := (hc w.heap.size 1 (by omega)).trans (by rw [World.cell?_alloc_new]; rfl)
      have c2 : w1.cell? ⟨w.heap.size, 2, none⟩ = some (.bool t.write) := (hc w.heap.size 2 (by omega)).trans (by rw [World.cell?_alloc_new]; rfl)
      have HB1 := Lib.hid (bel_trans (below1 _ _) hb1)
      clear hc hf hb1
      go_wp2_with fail
      refine (callTrnValid t _).mono ?_
      rintro e w2 ⟨rfl, hb2⟩
      rw [HK2.out]
      have d0 : w2.cell? ⟨w.heap.size, 0, none⟩ = some (.int .i64 t.place) := (hb2.cell (World.block_lt_of_cell? _ _ c0)).trans c0
      have d1 : w2.cell? ⟨w.heap.size, 1, none⟩ = some (.int .i64 t.count) := (hb2.cell (World.block_lt_of_cell? _ _ c1)).trans c1
      have d2 : w2.cell? ⟨w.heap.size, 2, none⟩ = some (.bool t.write) := (hb2.cell (World.block_lt_of_cell? _ _ c2)).trans c2
      have HB2 := Lib.hid (bel_trans HB1.out hb2)
      clear c0 c1 c2 hb2 HB1
    · go_wp2
      go_ret
      exact ⟨by rw [E.out, HK.out, HK2.out] <;> rfl, HB2.out⟩
    · go_wp2_with fail
      refine (callPart A c xs t HK2.out _ B (Nat.le_trans hB HB2.out.size) hm (hr.below (HB2.out.mono hB))).mono ?_
      rintro e w3 ⟨rfl, hb3⟩
      go_wp2
      go_ret
      exact ⟨by rw [E.out, HK.out, HK2.out] <;> rfl, bel_trans HB2.out hb3⟩

set_option maxHeartbeats 400000 in
theorem callTrnAllowed (A : Option Addr) (c : Nat) (xs : List Win) (t : Trn) (w : World) (B : Nat) (hB : B ≤ w.heap.size) (hm : xs.length ≤ 1073741824) (hr : Rd eWin w B A xs) :
    Calls Try.prog 13 #[.slice A xs.length c, t.val] w fun e w' => e = .returned (.bool (trnAllowed xs t)) ∧ Below w.heap.size w w' := by
  have E : Hid (trnAllowed xs t = (trnOk t && (trnPart xs t == t.count))) := rfl
  have k0 := cell_regrown (w := w.alloc (.cells #[.int .i64 t.place, .int .i64 t.count, .bool t.write] 25)) (a := ⟨w.heap.size, 0, none⟩) (v := .int .i64 t.place) (by rw [World.cell?_alloc_new]; rfl)
  have k1 := cell_regrown (w := w.alloc (.cells #[.int .i64 t.place, .int .i64 t.count, .bool t.write] 25)) (a := ⟨w.heap.size, 1, none⟩) (v := .int .i64 t.count) (by rw [World.cell?_alloc_new]; rfl)
  have k2 := cell_regrown (w := w.alloc (.cells #[.int .i64 t.place, .int .i64 t.count, .bool t.write] 25)) (a := ⟨w.heap.size, 2, none⟩) (v := .bool t.write) (by rw [World.cell?_alloc_new]; rfl)
  have C1 : QCall Try.prog 45 #[t.val] (w.alloc (.cells #[.int .i64 t.place, .int .i64 t.count, .bool t.write] 25)) (.bool (trnOk t)) := QCall.of fun W' _ => callTrnValid t W'
  have C2 : QCall Try.prog 16 #[.slice A xs.length c, t.val] (w.alloc (.cells #[.int .i64 t.place, .int .i64 t.count, .bool t.write] 25)) (.int .i64 (trnPart xs t)) :=
    QCall.of fun W' hb => callTrnPart A c xs t W' B (by have := hb.size; simp at this; omega) hm (hr.below (((below1 w _).trans (hb.mono (by simp))).mono hB))
  cases hok : trnOk t
  all_goals
    rw [hok] at C1 E
    clear hok
    go_enter Try.func13, Try.ntmps13
    go_wp2
    refine wp_region_quiet_below (by kernel_rfl) (by kernel_rfl) ?_
    repeat (first | go_big_quiet_step ((first | (go_at_call 45; exact C1 _ _) | (go_at_call 16; exact C2 _ _))) | quiet_step ((first | (go_at_call 45; exact C1 _ _) | (go_at_call 16; exact C2 _ _))))
    refine wpQuiet_nil ?_
    intro w1 hw1
    have HB := Lib.hid (below_of_regrown hw1)
    clear hw1 k0 k1 k2
    go_wp2
    go_ret
    exact ⟨by rw [E.out] <;> rfl, bel_trans (below1 _ _) HB.out⟩

/-! ### The plain laws -/

theorem trnAllowed_split {xs : List Win} {t : Trn} : trnAllowed xs t = (trnOk t && (winsOk xs && (partOf xs t == t.count.toNat))) := by
  unfold trnAllowed trnPart
  cases h1 : trnOk t
  · rfl
  · obtain ⟨a, b, _, _⟩ := trnOk_iff.1 h1
    cases h2 : winsOk xs
    · simp only [Bool.true_and, Bool.false_and, Bool.false_eq_true, if_false]
      rw [beq_eq_false_iff_ne]; omega
    · simp only [Bool.true_and, Bool.and_self, if_true]
      by_cases h : (partOf xs t : Int) = t.count
      · rw [h, beq_self_eq_true]
        symm
        rw [beq_iff_eq]; omega
      · rw [beq_eq_false_iff_ne.2 h]
        symm
        rw [beq_eq_false_iff_ne]; omega

theorem allowed_iff {xs : List Win} {t : Trn} : trnAllowed xs t = true ↔ trnOk t = true ∧ winsOk xs = true ∧ ∀ i, i < t.count.toNat → al xs t i = true := by
  rw [trnAllowed_split, Bool.and_eq_true, Bool.and_eq_true, beq_iff_eq]
  constructor
  · rintro ⟨h1, h2, h3⟩
    exact ⟨h1, h2, fun i hi => lead_all (al xs t) t.count.toNat i (by show i < partOf xs t; omega)⟩
  · rintro ⟨h1, h2, h3⟩
    exact ⟨h1, h2, lead_eq h3 (.inl rfl)⟩

theorem winAt_read {xs : List Win} {p : Int} {wr : Bool} (h : 0 ≤ winAt xs p wr) : 0 ≤ winAt xs p false := by
  unfold winAt at *
  split at h
  · rename_i hok
    rw [if_pos hok]
    have h1 : xs.any (winFits p wr) = true := by rw [← idx_any]; simpa using h
    have h2 : xs.any (winFits p false) = true := by
      rw [List.any_eq_true] at h1 ⊢
      obtain ⟨x, hx, hf⟩ := h1
      refine ⟨x, hx, ?_⟩
      unfold winFits at *
      rw [Bool.and_eq_true] at *
      exact ⟨hf.1, by simp⟩
    rw [← idx_any] at h2
    simpa using h2
  · omega

theorem allowed_read {xs : List Win} {p c : Int} {wr : Bool} (h : trnAllowed xs ⟨p, c, wr⟩ = true) : trnAllowed xs ⟨p, c, false⟩ = true := by
  rw [allowed_iff] at *
  refine ⟨h.1, h.2.1, fun i hi => ?_⟩
  have := h.2.2 i hi
  unfold al at *
  simp only [decide_eq_true_eq] at *
  exact winAt_read this

theorem allowed_single {xs : List Win} {p c : Int} {wr : Bool} (h : trnAllowed xs ⟨p, c, wr⟩ = true) (k : Nat) (hk : (k : Int) < c) : trnAllowed xs ⟨p + k, 1, wr⟩ = true := by
  rw [allowed_iff] at *
  obtain ⟨h1, h2, h3⟩ := h
  obtain ⟨a, b, d, e⟩ := trnOk_iff.1 h1
  refine ⟨trnOk_iff.2 ⟨by simp, by simp, by simp only at *; omega, by simp only at *; omega⟩, h2, fun i hi => ?_⟩
  have hi0 : i = 0 := by simp at hi; exact hi
  subst hi0
  have := h3 k (by simp only; omega)
  unfold al at *
  simpa using this

theorem allowed_part {xs : List Win} {t : Trn} (h : trnAllowed xs t = true) : trnPart xs t = t.count := by
  unfold trnAllowed at h
  rw [Bool.and_eq_true, beq_iff_eq] at h
  exact h.2

/-! ### The reference's TransferAllowed -/

theorem blk_next {w w' : World} {b : Nat} {o : Obj} (h : w.heap[b]? = some o) (hb : Below w.heap.size w w') : w'.heap[b]? = some o :=
  (hb.block b (Array.getElem?_eq_some_iff.1 h).1).trans h

set_option maxHeartbeats 800000 in
theorem callSTrnAllowed (A : Option Addr) (c : Nat) (xs : List Win) (t : Trn) (w : World) (B : Nat) (hB : B ≤ w.heap.size) (hm : xs.length ≤ 1073741824) (hr : Rd eWin w B A xs) :
    Calls Try.prog 14 #[.slice A xs.length c, t.val] w fun e w' => e = .returned (.bool (trnAllowed xs t)) ∧ Below w.heap.size w w' := by
  have E := Lib.hid (@trnAllowed_split xs t)
  have hblk : (w.alloc (.cells #[.int .i64 t.place, .int .i64 t.count, .bool t.write] 25)).heap[w.heap.size]? = some (.cells #[.int .i64 t.place, .int .i64 t.count, .bool t.write] 25 (0, 0)) := heap_alloc_new w _
  have HBK := Lib.hid hblk
  clear hblk
  cases hok : trnOk t
  · have HK := Lib.hid hok
    clear hok
    go_enter Try.func14, Try.ntmps14
    go_wp2_with fail
    refine (callSTrnValid t _).mono ?_
    rintro e w1 ⟨rfl, hb1⟩
    rw [HK.out]
    go_wp2
    go_ret
    exact ⟨by rw [E.out, HK.out] <;> rfl, bel_trans (below1 _ _) hb1⟩
  · have HK := Lib.hid hok
    clear hok
    cases hok2 : winsOk xs
    · have HK2 := Lib.hid hok2
      clear hok2
      go_enter Try.func14, Try.ntmps14
      go_wp2_with fail
      refine (callSTrnValid t _).mono ?_
      rintro e w1 ⟨rfl, hb1⟩
      rw [HK.out]
      have HB1 := Lib.hid (bel_trans (below1 _ _) hb1)
      clear hb1
      go_wp2_with fail
      refine (callSWindowsValid A c xs _ B (Nat.le_trans hB HB1.out.size) hm (hr.below (HB1.out.mono hB))).mono ?_
      rintro e w2 ⟨rfl, hb2⟩
      rw [HK2.out]
      go_wp2
      go_ret
      exact ⟨by rw [E.out, HK.out, HK2.out] <;> rfl, bel_trans HB1.out hb2⟩
    · have HK2 := Lib.hid hok2
      clear hok2
      obtain ⟨t1, t2, t3, t4⟩ := trnOk_iff.1 HK.out
      obtain ⟨cn, hcn⟩ := Int.eq_ofNat_of_zero_le (show 0 ≤ t.count by omega)
      have E2 : Hid (trnAllowed xs t = (lead (al xs t) cn == cn)) := by
        show trnAllowed xs t = _
        rw [E.out, HK.out, HK2.out, Bool.true_and, Bool.true_and]
        unfold partOf
        rw [hcn]; rfl
      clear HK E
      obtain ⟨tp, tc, tw⟩ := t
      simp only at t1 t2 t3 t4 hcn
      subst hcn
      go_enter Try.func14, Try.ntmps14
      go_wp2_with fail
      refine (callSTrnValid ⟨tp, cn, tw⟩ _).mono ?_
      rintro e w1 ⟨rfl, hb1⟩
      rw [show trnOk ⟨tp, cn, tw⟩ = true from trnOk_iff.2 ⟨t1, t2, t3, t4⟩]
      have HBK1 := Lib.hid (blk_next HBK.out hb1)
      have HB1 := Lib.hid (bel_trans (below1 _ _) hb1)
      clear hb1 HBK
      go_wp2_with fail
      refine (callSWindowsValid A c xs _ B (Nat.le_trans hB HB1.out.size) hm (hr.below (HB1.out.mono hB))).mono ?_
      rintro e w2 ⟨rfl, hb2⟩
      rw [HK2.out]
      have HBK2 := Lib.hid (blk_next HBK1.out hb2)
      have HB2 := Lib.hid (bel_trans HB1.out hb2)
      clear hb2 HB1 HBK1
      have c0 := cell_of_row w2 w.heap.size 0 _ _ _ HBK2.out
      have c1 := cell_of_row w2 w.heap.size 1 _ _ _ HBK2.out
      have c2 := cell_of_row w2 w.heap.size 2 _ _ _ HBK2.out
      simp only [List.getElem?_toArray, List.getElem?_cons_zero, List.getElem?_cons_succ] at c0 c1 c2
      go_wp2_with fail
      clear c0 c1 c2
      go_loopw [5] (fun i wr => ∃ k : Nat, k ≤ cn ∧ i = .int .i64 (tp + k) ∧ Below w2.heap.size w2 wr ∧ Hid (∀ i, i < k → al xs ⟨tp, cn, tw⟩ i = true)) (fun i _ => cn - (intOf i - tp).toNat)
      case atStart => exact ⟨0, by omega, by go_num, Below.refl _ _, fun i hi => by omega⟩
      case round =>
        obtain ⟨k, hk, rfl, hbl, hal⟩ := hrel
        have HBK3 := blk_next HBK2.out hbl
        have c0 := cell_of_row wr w.heap.size 0 _ _ _ HBK3
        have c1 := cell_of_row wr w.heap.size 1 _ _ _ HBK3
        have c2 := cell_of_row wr w.heap.size 2 _ _ _ HBK3
        simp only [List.getElem?_toArray, List.getElem?_cons_zero, List.getElem?_cons_succ] at c0 c1 c2
        have HB := Lib.hid (And.intro hbl (bel_trans HB2.out hbl))
        clear hbl HBK3
        by_cases hlt : k < cn
        · go_wp2_with fail
          refine (callSWindowAt A c xs (tp + k) tw _ B (Nat.le_trans hB HB.out.2.size) hm (hr.below (HB.out.2.mono hB))).mono ?_
          rintro e w3 ⟨rfl, hb3⟩
          have EA : Hid (al xs ⟨tp, cn, tw⟩ k = decide (0 ≤ winAt xs (tp + k) tw)) := rfl
          have HB3 := Lib.hid (And.intro (bel_trans HB.out.1 hb3) (bel_trans HB.out.2 hb3))
          clear hb3 HB c0 c1 c2
          generalize winAt xs (tp + k) tw = q at *
          by_cases hq : q < 0
          · go_wp2
            go_ret
            refine ⟨?_, HB3.out.2⟩
            rw [E2.out, lead_eq (m := cn) hal (.inr ⟨hlt, by rw [EA.out]; simpa using hq⟩), show (k == cn) = false by rw [beq_eq_false_iff_ne]; omega]
            rfl
          · go_wp2
            go_roundw
            case rel => exact ⟨k + 1, by omega, by go_num, HB3.out.1, fun i hi => by
              rcases Nat.lt_or_ge i k with h' | h'
              · exact hal i h'
              · rw [show i = k by omega, EA.out]; simpa using hq⟩
            case measure => simp [intOf]; omega
        · have hke : k = cn := by omega
          subst hke
          go_wp2
          go_ret
          exact ⟨by rw [E2.out, lead_eq (m := k) hal (.inl rfl), beq_self_eq_true] <;> rfl, HB.out.2⟩

set_option maxHeartbeats 800000 in
theorem callSTrnPart (A : Option Addr) (c : Nat) (xs : List Win) (t : Trn) (w : World) (B : Nat) (hB : B ≤ w.heap.size) (hm : xs.length ≤ 1073741824) (hr : Rd eWin w B A xs) :
    Calls Try.prog 27 #[.slice A xs.length c, t.val] w fun e w' => e = .returned (.int .i64 (trnPart xs t)) ∧ Below w.heap.size w w' := by
  have E : Hid (trnPart xs t = if winsOk xs && trnOk t then (partOf xs t : Int) else -1) := rfl
  have hblk : (w.alloc (.cells #[.int .i64 t.place, .int .i64 t.count, .bool t.write] 25)).heap[w.heap.size]? = some (.cells #[.int .i64 t.place, .int .i64 t.count, .bool t.write] 25 (0, 0)) := heap_alloc_new w _
  have HBK := Lib.hid hblk
  clear hblk
  cases hok : trnOk t
  · have HK := Lib.hid hok
    clear hok
    go_enter Try.func27, Try.ntmps27
    go_wp2_with fail
    refine (callSTrnValid t _).mono ?_
    rintro e w1 ⟨rfl, hb1⟩
    rw [HK.out]
    go_wp2
    go_ret
    exact ⟨by rw [E.out, HK.out, Bool.and_false] <;> rfl, bel_trans (below1 _ _) hb1⟩
  · have HK := Lib.hid hok
    clear hok
    cases hok2 : winsOk xs
    · have HK2 := Lib.hid hok2
      clear hok2
      go_enter Try.func27, Try.ntmps27
      go_wp2_with fail
      refine (callSTrnValid t _).mono ?_
      rintro e w1 ⟨rfl, hb1⟩
      rw [HK.out]
      have HB1 := Lib.hid (bel_trans (below1 _ _) hb1)
      clear hb1
      go_wp2_with fail
      refine (callSWindowsValid A c xs _ B (Nat.le_trans hB HB1.out.size) hm (hr.below (HB1.out.mono hB))).mono ?_
      rintro e w2 ⟨rfl, hb2⟩
      rw [HK2.out]
      go_wp2
      go_ret
      exact ⟨by rw [E.out, HK.out, HK2.out] <;> rfl, bel_trans HB1.out hb2⟩
    · have HK2 := Lib.hid hok2
      clear hok2
      obtain ⟨t1, t2, t3, t4⟩ := trnOk_iff.1 HK.out
      obtain ⟨cn, hcn⟩ := Int.eq_ofNat_of_zero_le (show 0 ≤ t.count by omega)
      have E2 : Hid (trnPart xs t = (lead (al xs t) cn : Nat)) := by
        show trnPart xs t = _
        rw [E.out, HK.out, HK2.out]
        simp only [Bool.and_self, if_true]
        unfold partOf
        rw [hcn]; rfl
      clear HK E
      obtain ⟨tp, tc, tw⟩ := t
      simp only at t1 t2 t3 t4 hcn
      subst hcn
      go_enter Try.func27, Try.ntmps27
      go_wp2_with fail
      refine (callSTrnValid ⟨tp, cn, tw⟩ _).mono ?_
      rintro e w1 ⟨rfl, hb1⟩
      rw [show trnOk ⟨tp, cn, tw⟩ = true from trnOk_iff.2 ⟨t1, t2, t3, t4⟩]
      have HBK1 := Lib.hid (blk_next HBK.out hb1)
      have HB1 := Lib.hid (bel_trans (below1 _ _) hb1)
      clear hb1 HBK
      go_wp2_with fail
      refine (callSWindowsValid A c xs _ B (Nat.le_trans hB HB1.out.size) hm (hr.below (HB1.out.mono hB))).mono ?_
      rintro e w2 ⟨rfl, hb2⟩
      rw [HK2.out]
      have HBK2 := Lib.hid (blk_next HBK1.out hb2)
      have HB2 := Lib.hid (bel_trans HB1.out hb2)
      clear hb2 HB1 HBK1
      go_wp2_with fail
      go_loopw [5] (fun i wr => ∃ k : Nat, k ≤ cn ∧ i = .int .i64 k ∧ Below w2.heap.size w2 wr ∧ Hid (∀ i, i < k → al xs ⟨tp, cn, tw⟩ i = true)) (fun i _ => cn - (intOf i).toNat)
      case atStart => exact ⟨0, by omega, rfl, Below.refl _ _, fun i hi => by omega⟩
      case round =>
        obtain ⟨k, hk, rfl, hbl, hal⟩ := hrel
        have HBK3 := blk_next HBK2.out hbl
        have c0 := cell_of_row wr w.heap.size 0 _ _ _ HBK3
        have c1 := cell_of_row wr w.heap.size 1 _ _ _ HBK3
        have c2 := cell_of_row wr w.heap.size 2 _ _ _ HBK3
        simp only [List.getElem?_toArray, List.getElem?_cons_zero, List.getElem?_cons_succ] at c0 c1 c2
        have HB := Lib.hid (And.intro hbl (bel_trans HB2.out hbl))
        clear hbl HBK3
        by_cases hlt : k < cn
        · have hd : decide ((k : Int) < (cn : Int)) = true := by simpa using hlt
          go_wp2_with fail
          refine (callSWindowAt A c xs (tp + k) tw _ B (Nat.le_trans hB HB.out.2.size) hm (hr.below (HB.out.2.mono hB))).mono ?_
          rintro e w3 ⟨rfl, hb3⟩
          have EA : Hid (al xs ⟨tp, cn, tw⟩ k = decide (0 ≤ winAt xs (tp + k) tw)) := rfl
          have HB3 := Lib.hid (And.intro (bel_trans HB.out.1 hb3) (bel_trans HB.out.2 hb3))
          clear hb3 HB c0 c1 c2
          generalize winAt xs (tp + k) tw = q at *
          by_cases hq : 0 ≤ q
          · go_wp2
            go_roundw
            case rel => exact ⟨k + 1, by omega, by go_num, HB3.out.1, fun i hi => by
              rcases Nat.lt_or_ge i k with h' | h'
              · exact hal i h'
              · rw [show i = k by omega, EA.out]; simpa using hq⟩
            case measure => simp [intOf]; omega
          · go_wp2
            go_ret
            refine ⟨?_, HB3.out.2⟩
            rw [E2.out, lead_eq (m := cn) hal (.inr ⟨hlt, by rw [EA.out]; simpa using hq⟩)]
            rfl
        · have hke : k = cn := by omega
          subst hke
          go_wp2
          go_ret
          exact ⟨by rw [E2.out, lead_eq (m := k) hal (.inl rfl)] <;> rfl, HB.out.2⟩

/-- A transfer, place by place. -/
def singles (t : Trn) (n : Nat) : List Trn := (List.range n).map fun i => ⟨t.place + (i : Nat), 1, t.write⟩
theorem singles_succ (t : Trn) (n : Nat) : singles t (n + 1) = singles t n ++ [⟨t.place + (n : Nat), 1, t.write⟩] := by simp [singles, List.range_succ]
theorem singles_len (t : Trn) (n : Nat) : (singles t n).length = n := by simp [singles]
theorem singles_get (t : Trn) (n k : Nat) (h : k < (singles t n).length) : (singles t n)[k] = ⟨t.place + (k : Nat), 1, t.write⟩ := by simp [singles]

set_option maxHeartbeats 800000 in
theorem callSplit1 (t : Trn) (ht : trnOk t = true) (w : World) :
    Calls Try.prog 28 #[t.val, .int .i64 1] w fun e w' => ∃ A c, e = .returned (.slice A t.count.toNat c) ∧ Rd eTrn w' w'.heap.size A (singles t t.count.toNat) ∧ Below w.heap.size w w' := by
  obtain ⟨t1, t2, t3, t4⟩ := trnOk_iff.1 ht
  have HK := Lib.hid ht
  obtain ⟨cn, hcn⟩ := Int.eq_ofNat_of_zero_le (show 0 ≤ t.count by omega)
  obtain ⟨tp, tc, tw⟩ := t
  simp only at t1 t2 t3 t4 hcn
  subst hcn
  clear ht
  have hblk : (w.alloc (.cells #[.int .i64 tp, .int .i64 cn, .bool tw] 25)).heap[w.heap.size]? = some (.cells #[.int .i64 tp, .int .i64 cn, .bool tw] 25 (0, 0)) := heap_alloc_new w _
  have HBK := Lib.hid hblk
  clear hblk
  go_enter Try.func28, Try.ntmps28
  go_wp2_with fail
  refine (callTrnValid ⟨tp, cn, tw⟩ _).mono ?_
  rintro e w1 ⟨rfl, hb1⟩
  rw [HK.out]
  have HBK1 := Lib.hid (blk_next HBK.out hb1)
  have HB1 := Lib.hid (bel_trans (below1 _ _) hb1)
  clear hb1 HBK
  have hs1 : w.heap.size < w1.heap.size := (Array.getElem?_eq_some_iff.1 HBK1.out).1
  go_wp2
  go_loopw [5, 6] (fun v i wr => ∃ k : Nat, k ≤ cn ∧ i = .int .i64 k ∧ Below w1.heap.size w1 wr ∧ Own eTrn 25 wr w1.heap.size v (singles ⟨tp, cn, tw⟩ k)) (fun _ i _ => cn - (intOf i).toNat)
  case atStart => exact ⟨0, by omega, rfl, Below.refl _ _, Own.nil⟩
  case round =>
    obtain ⟨k, hk, rfl, hbl, hown⟩ := hrel
    have c0 := cell_of_row wr w.heap.size 0 _ _ _ (blk_next HBK1.out hbl)
    have c1 := cell_of_row wr w.heap.size 1 _ _ _ (blk_next HBK1.out hbl)
    have c2 := cell_of_row wr w.heap.size 2 _ _ _ (blk_next HBK1.out hbl)
    simp only [List.getElem?_toArray, List.getElem?_cons_zero, List.getElem?_cons_succ] at c0 c1 c2
    have HB := Lib.hid (And.intro hbl hown)
    clear hbl hown
    by_cases hlt : k < cn
    · have hmin : ¬ ((cn : Int) - (k : Int) < 1) := by omega
      go_wp2_with (at_builtin; refine wpList_app _ eiTrn rfl (.tmp 22) (.tmp 36) rfl w1.heap.size (HB.out.2.alloc _) (Rd.new (xs := [⟨tp + k, 1, tw⟩]) _ _ _ rfl) rfl rfl rfl (by rw [singles_len]; simp; omega) (by have := HB.out.1.size; simp; omega) ?_; intro v' w3 row hown3 hg3 hrow3)
      go_roundw
      case rel =>
        refine ⟨k + 1, by omega, by first | omega | go_num, ?_, ?_⟩
        · exact HB.out.1.trans ((below1 _ _).mono HB.out.1.size |>.trans (below_of_row hg3 (fun k hk => (hrow3 k hk).1) (by have := HB.out.1.size; simp; omega)))
        · rw [singles_succ]; exact hown3
      case measure => simp [intOf]; omega
    · have hke : k = cn := by omega
      subst hke
      obtain ⟨A, c, hv, hc, _⟩ := HB.out.2.form
      rw [singles_len] at hv hc
      subst hv
      have HR : Hid (Rd eTrn wr wr.heap.size A (singles ⟨tp, k, tw⟩ k)) := HB.out.2.rd
      go_wp2_with fail
      refine (callClipTrn A k c hc _).mono ?_
      rintro e w3 ⟨rfl, rfl⟩
      go_wp2
      go_ret
      exact ⟨A, k, rfl, HR.out, bel_trans HB1.out HB.out.1⟩
end Go.Proofs.Ytaeimnfdedcgkaa
