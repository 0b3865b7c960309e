/- Plain words: links, what is sent over them and what is taken, and what the laws say of them. No program stands here. -/
import Derived.Test.YtonhkadbiepedaaData
namespace Go.Proofs.Ytonhkadbiepedaa
open Go.RowKit Go.Sort

/-- When the packet ahead of number k is due; 0 ahead of the first. -/
def lastAt (ps : List Pkt) : Nat → Int
  | 0 => 0
  | k + 1 => match ps[k]? with | some p => p.due | none => 0
def pktOk (last : Int) (p : Pkt) : Bool := inB p.due last 100050 && inB p.value 0 255
def chainB (ps : List Pkt) : Bool := (List.range ps.length).all fun k => match ps[k]? with | some p => pktOk (lastAt ps k) p | none => false
def linkOk (d : Int) (ps : List Pkt) : Bool := (chainB ps && inB d 0 50) && decide (ps.length ≤ 20)
def cutN (ps : List Pkt) (tick : Int) : Nat := (ps.takeWhile fun p => decide (p.due ≤ tick)).length
def linkTake (d : Int) (ps : List Pkt) (tick : Int) : (Int × List Pkt) × List Int :=
  if linkOk d ps && inB tick 0 100000 then ((d, ps.drop (cutN ps tick)), (ps.take (cutN ps tick)).map Pkt.value) else ((0, []), [])
def linkFull (d : Int) (ps : List Pkt) (tick : Int) : Bool := decide (ps.length = 20) || (decide (0 < ps.length) && decide (tick + d < lastAt ps ps.length))
def linkSend (d : Int) (ps : List Pkt) (tick v : Int) : (Int × List Pkt) × Bool :=
  if (linkOk d ps && inB tick 0 100000) && inB v 0 255 then (if linkFull d ps tick then ((d, ps), false) else ((d, ps ++ [⟨tick + d, v⟩]), true)) else ((0, []), false)

theorem lastAt_succ {ps : List Pkt} {k : Nat} (h : k < ps.length) : lastAt ps (k + 1) = ps[k].due := by
  show (match ps[k]? with | some p => p.due | none => 0) = _
  rw [List.getElem?_eq_getElem h]
theorem pktOk_iff {last : Int} {p : Pkt} : pktOk last p = true ↔ (last ≤ p.due ∧ p.due ≤ 100050) ∧ 0 ≤ p.value ∧ p.value ≤ 255 := by
  unfold pktOk; rw [Bool.and_eq_true, inB_iff, inB_iff]
theorem chainB_iff {ps : List Pkt} : chainB ps = true ↔ ∀ k (h : k < ps.length), pktOk (lastAt ps k) ps[k] = true := by
  unfold chainB
  rw [List.all_eq_true]
  constructor
  · intro h k hk
    have := h k (List.mem_range.2 hk)
    rw [List.getElem?_eq_getElem hk] at this
    exact this
  · intro h k hk
    have hk' := List.mem_range.1 hk
    rw [List.getElem?_eq_getElem hk']
    exact h k hk'
theorem linkOk_iff {d : Int} {ps : List Pkt} : linkOk d ps = true ↔ chainB ps = true ∧ (0 ≤ d ∧ d ≤ 50) ∧ ps.length ≤ 20 := by
  unfold linkOk; rw [Bool.and_eq_true, Bool.and_eq_true, inB_iff, decide_eq_true_iff, and_assoc]
theorem chain_lo {ps : List Pkt} (h : chainB ps = true) : ∀ k, k ≤ ps.length → 0 ≤ lastAt ps k
  | 0, _ => Int.le_refl _
  | k + 1, hk => by
    have ih := chain_lo h k (by omega)
    rw [lastAt_succ (by omega)]
    have := (pktOk_iff.1 (chainB_iff.1 h k (by omega))).1.1
    omega
theorem chain_mono {ps : List Pkt} (h : chainB ps = true) : ∀ (j : Nat) (i : Nat) (hj : j < ps.length) (hi : i ≤ j), ps[i].due ≤ ps[j].due
  | 0, i, hj, hi => by have : i = 0 := by omega
                       subst this; exact Int.le_refl _
  | j + 1, i, hj, hi => by
    by_cases e : i = j + 1
    · subst e; exact Int.le_refl _
    · have ih := chain_mono h j i (by omega) (by omega)
      have := (pktOk_iff.1 (chainB_iff.1 h (j + 1) hj)).1.1
      rw [lastAt_succ (by omega)] at this
      omega
theorem lastAt_app {ps qs : List Pkt} {k : Nat} (hk : k ≤ ps.length) : lastAt (ps ++ qs) k = lastAt ps k := by
  cases k with
  | zero => rfl
  | succ k => rw [lastAt_succ (by rw [List.length_append]; omega), lastAt_succ (by omega), List.getElem_append_left (by omega)]
theorem chain_snoc {ps : List Pkt} {p : Pkt} (h : chainB ps = true) (hp : pktOk (lastAt ps ps.length) p = true) : chainB (ps ++ [p]) = true := by
  refine chainB_iff.2 fun k hk => ?_
  rw [List.length_append] at hk
  simp only [List.length_cons, List.length_nil] at hk
  rw [lastAt_app (by omega)]
  by_cases e : k < ps.length
  · rw [List.getElem_append_left e]; exact chainB_iff.1 h k e
  · have : k = ps.length := by omega
    subst this
    rw [List.getElem_append_right (Nat.le_refl _)]
    simpa using hp
theorem chain_drop {ps : List Pkt} (h : chainB ps = true) (n : Nat) : chainB (ps.drop n) = true := by
  refine chainB_iff.2 fun k hk => ?_
  rw [List.length_drop] at hk
  have := pktOk_iff.1 (chainB_iff.1 h (n + k) (by omega))
  rw [List.getElem_drop]
  refine pktOk_iff.2 ⟨⟨?_, this.1.2⟩, this.2⟩
  cases k with
  | zero => have := chain_lo h (n + 0) (by omega); show 0 ≤ _; omega
  | succ k =>
    rw [lastAt_succ (by rw [List.length_drop]; omega), List.getElem_drop]
    have := this.1.1
    have e : lastAt ps (n + (k + 1)) = ps[n + k].due := lastAt_succ (k := n + k) (by omega)
    rw [e] at this
    exact this

theorem cutN_le (ps : List Pkt) (tick : Int) : cutN ps tick ≤ ps.length := by
  unfold cutN; exact (List.takeWhile_prefix _).length_le
theorem cutN_lt : ∀ (ps : List Pkt) (tick : Int) (i : Nat) (hi : i < cutN ps tick) (h : i < ps.length), ps[i].due ≤ tick
  | [], _, _, _, h => by simp at h
  | p :: ps, tick, i, hi, h => by
    unfold cutN at hi
    rw [List.takeWhile_cons] at hi
    split at hi
    · rename_i hp
      cases i with
      | zero => simpa using hp
      | succ i => exact cutN_lt ps tick i (by unfold cutN; simpa using hi) (by simpa using h)
    · simp at hi
theorem cutN_stop : ∀ (ps : List Pkt) (tick : Int) (h : cutN ps tick < ps.length), tick < ps[cutN ps tick].due
  | [], _, h => by simp at h
  | p :: ps, tick, h => by
    by_cases hp : p.due ≤ tick
    · have e : cutN (p :: ps) tick = cutN ps tick + 1 := by unfold cutN; rw [List.takeWhile_cons, if_pos (by simpa using hp)]; rfl
      have := cutN_stop ps tick (by rw [e] at h; simpa using h)
      simp only [e, List.getElem_cons_succ]
      exact this
    · have e : cutN (p :: ps) tick = 0 := by unfold cutN; rw [List.takeWhile_cons, if_neg (by simpa using hp)]; rfl
      simp only [e, List.getElem_cons_zero]
      omega
theorem cutN_ge {ps : List Pkt} (hc : chainB ps = true) {tick : Int} {i : Nat} (hi : cutN ps tick ≤ i) (h : i < ps.length) : tick < ps[i].due := by
  have a := cutN_stop ps tick (by omega)
  have b := chain_mono hc i (cutN ps tick) h hi
  omega
/-- The cut is where the dues pass the tick. -/
theorem cutN_eq {ps : List Pkt} {tick : Int} {n : Nat} (hn : n ≤ ps.length) (h1 : ∀ i (h : i < ps.length), i < n → ps[i].due ≤ tick) (h2 : ∀ (h : n < ps.length), tick < ps[n].due) : cutN ps tick = n := by
  rcases Nat.lt_trichotomy (cutN ps tick) n with h | h | h
  · have := cutN_stop ps tick (by omega)
    have := h1 (cutN ps tick) (by omega) h
    omega
  · exact h
  · have hl := cutN_le ps tick
    have := cutN_lt ps tick n h (by omega)
    have := h2 (by omega)
    omega

/-! ### The laws -/

theorem take_again {ps : List Pkt} (hc : chainB ps = true) (tick : Int) : cutN (ps.drop (cutN ps tick)) tick = 0 := by
  refine cutN_eq (Nat.zero_le _) (fun i _ hi => by omega) (fun h => ?_)
  rw [List.length_drop] at h
  rw [List.getElem_drop]
  exact cutN_ge hc (by omega) (by omega)
theorem take_later {ps : List Pkt} (hc : chainB ps = true) {tick later : Int} (h : tick ≤ later) : cutN ps tick ≤ cutN ps later ∧ cutN (ps.drop (cutN ps tick)) later = cutN ps later - cutN ps tick := by
  have hl := cutN_le ps later
  have hl1 := cutN_le ps tick
  have hle : cutN ps tick ≤ cutN ps later := by
    rcases Nat.lt_or_ge (cutN ps later) (cutN ps tick) with g | g
    · have a := cutN_stop ps later (by omega)
      have b := cutN_lt ps tick (cutN ps later) g (by omega)
      omega
    · exact g
  refine ⟨hle, cutN_eq (by rw [List.length_drop]; omega) (fun i hi hin => ?_) (fun hh => ?_)⟩
  · rw [List.getElem_drop]; exact cutN_lt ps later _ (by omega) (by rw [List.length_drop] at hi; omega)
  · rw [List.getElem_drop]; rw [List.length_drop] at hh; exact cutN_ge hc (by omega) (by omega)
theorem drop_later {ps : List Pkt} (hc : chainB ps = true) {tick later : Int} (h : tick ≤ later) : (ps.drop (cutN ps tick)).drop (cutN (ps.drop (cutN ps tick)) later) = ps.drop (cutN ps later) ∧
    (ps.take (cutN ps tick)).map Pkt.value ++ ((ps.drop (cutN ps tick)).take (cutN (ps.drop (cutN ps tick)) later)).map Pkt.value = (ps.take (cutN ps later)).map Pkt.value := by
  obtain ⟨h1, h2⟩ := take_later hc h
  rw [h2]
  constructor
  · rw [List.drop_drop]; congr 1; omega
  · rw [← List.map_append]
    congr 1
    have : cutN ps later = cutN ps tick + (cutN ps later - cutN ps tick) := by omega
    rw [this, List.take_add]
    congr 2
    omega
theorem linkTake_ok {d : Int} {ps : List Pkt} (h : linkOk d ps = true) (n : Nat) : linkOk d (ps.drop n) = true := by
  obtain ⟨a, b, c⟩ := linkOk_iff.1 h
  exact linkOk_iff.2 ⟨chain_drop a n, b, by rw [List.length_drop]; omega⟩
theorem linkSend_ok {d : Int} {ps : List Pkt} {tick v : Int} (h : linkOk d ps = true) (ht : inB tick 0 100000 = true) (hv : inB v 0 255 = true) (hf : linkFull d ps tick = false) : linkOk d (ps ++ [⟨tick + d, v⟩]) = true := by
  obtain ⟨a, b, c⟩ := linkOk_iff.1 h
  have t := inB_iff.1 ht
  have vv := inB_iff.1 hv
  unfold linkFull at hf
  rw [Bool.or_eq_false_iff, decide_eq_false_iff_not, Bool.and_eq_false_iff, decide_eq_false_iff_not, decide_eq_false_iff_not] at hf
  refine linkOk_iff.2 ⟨chain_snoc a (pktOk_iff.2 ⟨⟨?_, by show tick + d ≤ 100050; omega⟩, vv⟩), b, by simp; omega⟩
  show lastAt ps ps.length ≤ tick + d
  by_cases h0 : ps.length = 0
  · rw [h0]; show (0 : Int) ≤ _; omega
  · rcases hf.2 with g | g
    · omega
    · omega
/-- At the tick plus the delay all have arrived. -/
theorem linkSend_all {d : Int} {ps : List Pkt} {tick v : Int} (h : linkOk d (ps ++ [⟨tick + d, v⟩]) = true) : cutN (ps ++ [⟨tick + d, v⟩]) (tick + d) = ps.length + 1 := by
  obtain ⟨a, b, c⟩ := linkOk_iff.1 h
  refine cutN_eq (by simp) (fun i hi _ => ?_) (fun hh => by simp at hh)
  have := chain_mono a ps.length i (by simp) (by simp at hi; omega)
  rw [List.getElem_append_right (Nat.le_refl _)] at this
  simpa using this
end Go.Proofs.Ytonhkadbiepedaa
