/- Plain words: runs of links, and what the law says of them. No program stands here. -/
import Derived.Test.YtonhkadbiepedaaLnk
namespace Go.Proofs.Ytonhkadbiepedaa
open Go.RowKit Go.Sort

def sendL (d : Int) (ps : List Pkt) (t v : Int) : List Pkt := if linkFull d ps t then ps else ps ++ [⟨t + d, v⟩]
def midL (d : Int) (vs : List Int) (ps : List Pkt) (t : Nat) : List Pkt := match vs[t]? with | some v => sendL d ps t v | none => ps
/-- The packets on their way and what has arrived, ahead of tick t. -/
def runL (d : Int) (vs : List Int) : Nat → List Pkt × List Int
  | 0 => ([], [])
  | t + 1 => ((midL d vs (runL d vs t).1 t).drop (cutN (midL d vs (runL d vs t).1 t) t), (runL d vs t).2 ++ ((midL d vs (runL d vs t).1 t).take (cutN (midL d vs (runL d vs t).1 t) t)).map Pkt.value)
def vB (v : Int) : Bool := inB v 0 255
def linkRun (d : Int) (vs : List Int) : List Int := if (inB d 0 50 && decide (vs.length ≤ 40)) && vs.all vB then (runL d vs (vs.length + d.toNat)).2 else []

/-- What holds of the packets ahead of tick t. -/
structure RunI (d : Int) (vs : List Int) (t : Nat) (ps : List Pkt) (out : List Int) : Prop where
  ok : linkOk d ps = true
  inc : ps.Pairwise (fun a b => a.due < b.due)
  lo : ∀ p ∈ ps, (t : Int) ≤ p.due
  hi : ∀ p ∈ ps, p.due ≤ (t : Int) + d - 1
  fin : ∀ p ∈ ps, p.due < (vs.length : Int) + d
  sub : (out ++ ps.map Pkt.value).Sublist (vs.take t)
  all : d < 20 → out ++ ps.map Pkt.value = vs.take t

theorem inc_len : ∀ (ps : List Pkt) (a b : Int), ps.Pairwise (fun a b => a.due < b.due) → (∀ p ∈ ps, a ≤ p.due ∧ p.due ≤ b) → (ps.length : Int) ≤ max 0 (b - a + 1)
  | [], a, b, _, _ => by simp; omega
  | p :: r, a, b, h, hr => by
    rw [List.pairwise_cons] at h
    have hp := hr p List.mem_cons_self
    have ih := inc_len r (p.due + 1) b h.2 (fun q hq => ⟨by have := h.1 q hq; omega, (hr q (List.mem_cons_of_mem _ hq)).2⟩)
    simp only [List.length_cons]
    omega
theorem RunI.last {d : Int} {vs : List Int} {t : Nat} {ps : List Pkt} {out : List Int} (h : RunI d vs t ps out) (hd : 0 ≤ d) : lastAt ps ps.length ≤ (t : Int) + d := by
  by_cases e : ps.length = 0
  · rw [e]; show (0 : Int) ≤ _; omega
  · obtain ⟨m, hm⟩ : ∃ m, ps.length = m + 1 := ⟨ps.length - 1, by omega⟩
    rw [hm, lastAt_succ (by omega)]
    have := h.hi ps[m] (List.getElem_mem (by omega))
    omega
/-- Behind the sending at tick t. -/
structure MidI (d : Int) (vs : List Int) (t : Nat) (ps : List Pkt) (out : List Int) : Prop where
  ok : linkOk d ps = true
  inc : ps.Pairwise (fun a b => a.due < b.due)
  lo : ∀ p ∈ ps, (t : Int) ≤ p.due
  hi : ∀ p ∈ ps, p.due ≤ (t : Int) + d
  fin : ∀ p ∈ ps, p.due < (vs.length : Int) + d
  sub : (out ++ ps.map Pkt.value).Sublist (vs.take (t + 1))
  all : d < 20 → out ++ ps.map Pkt.value = vs.take (t + 1)
theorem RunI.mid {d : Int} {vs : List Int} {t : Nat} {ps : List Pkt} {out : List Int} (h : RunI d vs t ps out) (hd0 : 0 ≤ d) (hd1 : d ≤ 50) (ht : t ≤ 1000) (hv : ∀ h : t < vs.length, vB vs[t] = true) : MidI d vs t (midL d vs ps t) out := by
  unfold midL
  by_cases hlt : t < vs.length
  · rw [List.getElem?_eq_getElem hlt]
    simp only
    have hvt : inB vs[t] 0 255 = true := hv hlt
    have ht2 : inB (t : Int) 0 100000 = true := inB_iff.2 ⟨by omega, by omega⟩
    have htake : vs.take (t + 1) = vs.take t ++ [vs[t]] := List.take_succ_eq_append_getElem hlt
    have hlast := h.last hd0
    unfold sendL
    cases hf : linkFull d ps t
    · simp only [Bool.false_eq_true, if_false]
      refine ⟨linkSend_ok h.ok ht2 hvt hf, ?_, ?_, ?_, ?_, ?_, ?_⟩
      · rw [List.pairwise_append]
        refine ⟨h.inc, List.pairwise_singleton _ _, fun a ha b hb => ?_⟩
        rw [List.mem_singleton] at hb
        subst hb
        have := h.hi a ha
        show a.due < (t : Int) + d
        omega
      · intro p hp
        rcases List.mem_append.1 hp with hp | hp
        · exact h.lo p hp
        · rw [List.mem_singleton] at hp; subst hp; show (t : Int) ≤ (t : Int) + d; omega
      · intro p hp
        rcases List.mem_append.1 hp with hp | hp
        · have := h.hi p hp; omega
        · rw [List.mem_singleton] at hp; subst hp; show (t : Int) + d ≤ (t : Int) + d; omega
      · intro p hp
        rcases List.mem_append.1 hp with hp | hp
        · exact h.fin p hp
        · rw [List.mem_singleton] at hp; subst hp; show (t : Int) + d < _; omega
      · rw [List.map_append, ← List.append_assoc, htake]
        exact h.sub.append (List.Sublist.refl _)
      · intro hd
        rw [List.map_append, ← List.append_assoc, htake, h.all hd]
        rfl
    · simp only [if_true]
      refine ⟨h.ok, h.inc, h.lo, fun p hp => by have := h.hi p hp; omega, h.fin, ?_, ?_⟩
      · rw [htake]; exact h.sub.trans (List.sublist_append_left _ _)
      · intro hd
        exfalso
        unfold linkFull at hf
        rw [decide_eq_false (show ¬ (t : Int) + d < lastAt ps ps.length by omega), Bool.and_false, Bool.or_false, decide_eq_true_iff] at hf
        have := inc_len ps (t : Int) ((t : Int) + d - 1) h.inc (fun p hp => ⟨h.lo p hp, h.hi p hp⟩)
        omega
  · rw [List.getElem?_eq_none (by omega)]
    have e : vs.take (t + 1) = vs.take t := by rw [List.take_of_length_le (by omega), List.take_of_length_le (by omega)]
    exact ⟨h.ok, h.inc, h.lo, fun p hp => by have := h.hi p hp; omega, h.fin, by rw [e]; exact h.sub, fun hd => by rw [e]; exact h.all hd⟩
theorem MidI.take {d : Int} {vs : List Int} {t : Nat} {ps : List Pkt} {out : List Int} (h : MidI d vs t ps out) : RunI d vs (t + 1) (ps.drop (cutN ps t)) (out ++ (ps.take (cutN ps t)).map Pkt.value) := by
  have hm : ∀ p ∈ ps.drop (cutN ps t), p ∈ ps := fun p hp => List.mem_of_mem_drop hp
  have e : (out ++ (ps.take (cutN ps t)).map Pkt.value) ++ (ps.drop (cutN ps t)).map Pkt.value = out ++ ps.map Pkt.value := by
    rw [List.append_assoc, ← List.map_append, List.take_append_drop]
  refine ⟨linkTake_ok h.ok _, h.inc.sublist (List.drop_sublist _ _), fun p hp => ?_, fun p hp => ?_, fun p hp => h.fin p (hm p hp), by rw [e]; exact h.sub, fun hd => by rw [e]; exact h.all hd⟩
  · obtain ⟨i, hi, rfl⟩ := List.getElem_of_mem hp
    rw [List.length_drop] at hi
    rw [List.getElem_drop]
    have := cutN_ge (linkOk_iff.1 h.ok).1 (tick := (t : Int)) (i := cutN ps t + i) (by omega) (by omega)
    omega
  · have := h.hi p (hm p hp); omega
theorem runL_ok {d : Int} {vs : List Int} (hd0 : 0 ≤ d) (hd1 : d ≤ 50) (hl : vs.length ≤ 40) : ∀ t, t ≤ 1000 → (∀ i (h : i < vs.length), i < t → vB vs[i] = true) → RunI d vs t (runL d vs t).1 (runL d vs t).2
  | 0, _, _ => (show RunI d vs 0 [] [] from ⟨linkOk_iff.2 ⟨rfl, ⟨hd0, hd1⟩, by simp⟩, List.Pairwise.nil, (fun p h => absurd h List.not_mem_nil), (fun p h => absurd h List.not_mem_nil), (fun p h => absurd h List.not_mem_nil), by simp, (fun _ => by simp)⟩)
  | t + 1, ht, hv => ((runL_ok hd0 hd1 hl t (by omega) (fun i h hi => hv i h (by omega))).mid hd0 hd1 (by omega) (fun h => hv t h (by omega))).take
theorem runL_end {d : Int} {vs : List Int} (hd0 : 0 ≤ d) (hd1 : d ≤ 50) (hl : vs.length ≤ 40) (hv : vs.all vB = true) : (runL d vs (vs.length + d.toNat)).2.Sublist vs ∧ (d < 20 → (runL d vs (vs.length + d.toNat)).2 = vs) := by
  have h := runL_ok hd0 hd1 hl (vs.length + d.toNat) (by omega) (fun i h _ => by rw [List.all_eq_true] at hv; exact hv _ (List.getElem_mem h))
  have e : (runL d vs (vs.length + d.toNat)).1 = [] := by
    apply List.eq_nil_iff_forall_not_mem.2
    intro p hp
    have a := h.lo p hp
    have b := h.fin p hp
    omega
  have s := h.sub
  have a := h.all
  rw [e, List.map_nil, List.append_nil, List.take_of_length_le (by omega)] at s a
  exact ⟨s, a⟩
theorem linkRun_cases (d : Int) (vs : List Int) : linkRun d vs = [] ∨ ((linkRun d vs).Sublist vs ∧ (d < 20 → linkRun d vs = vs) ∧ vs.length ≤ 40) := by
  unfold linkRun
  cases q : ((inB d 0 50 && decide (vs.length ≤ 40)) && vs.all vB)
  · left; rfl
  · right
    rw [Bool.and_eq_true, Bool.and_eq_true, decide_eq_true_iff] at q
    obtain ⟨⟨q1, q2⟩, q3⟩ := q
    have hd := inB_iff.1 q1
    have := runL_end hd.1 hd.2 q2 q3
    exact ⟨this.1, this.2, q2⟩
/-- The greedy search for a list within another one. -/
theorem greedy_eq {x : Int} {A B : List Int} (h : (x :: B).Sublist (x :: A)) : B.Sublist A := by simpa using h
theorem greedy_ne {x y : Int} {A B : List Int} (h : (y :: B).Sublist (x :: A)) (hne : x ≠ y) : (y :: B).Sublist A := by
  cases h with
  | cons _ h => exact h
  | cons_cons _ h => exact absurd rfl hne
theorem midL_len (d : Int) (vs : List Int) (ps : List Pkt) (t : Nat) : (midL d vs ps t).length ≤ ps.length + 1 := by
  unfold midL sendL
  split
  · split <;> simp
  · omega
end Go.Proofs.Ytonhkadbiepedaa
