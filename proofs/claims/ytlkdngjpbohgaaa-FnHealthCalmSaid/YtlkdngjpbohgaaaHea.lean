/- Plain words: the state of a partition for the monitor, faults, and what the laws say of them. No program stands here. -/
import Derived.Test.YtlkdngjpbohgaaaData
namespace Go.Proofs.Ytlkdngjpbohgaaa
open Go.RowKit Go.Sort

structure Hlt where
  frozen : Bool
  restarts : Int
abbrev Hlt.val (h : Hlt) : Value := .agg #[.bool h.frozen, .int .i64 h.restarts]

def hOk (h : Hlt) : Bool := inB h.restarts 0 3 && (h.frozen || decide (h.restarts < 3))
def actOk (n : Int) : Bool := inB n 0 2
def tabOk (t : List Int) : Bool := decide (t.length = 3) && t.all actOk
def fltOk (n : Int) : Bool := inB n 0 3

def hAct (t : List Int) (f : Int) : Int := t.getD (f - 1).toNat 0
def hAfter (h : Hlt) (t : List Int) (f : Int) : Hlt × Int :=
  if f = 0 ∨ h.frozen = true then (h, 0)
  else if hAct t f = 1 then (if h.restarts + 1 = 3 then (⟨true, 3⟩, 2) else (⟨false, h.restarts + 1⟩, 1))
  else if hAct t f = 2 then (⟨true, h.restarts⟩, 2) else (⟨false, h.restarts⟩, 0)
def hRun (h : Hlt) (t : List Int) (fs : List Int) : Hlt := fs.foldl (fun h f => (hAfter h t f).1) h
def hArg (h : Hlt) (t : List Int) : Bool := hOk h && tabOk t
def hAll (h : Hlt) (t fs : List Int) : Bool := hArg h t && decide (fs.length ≤ 30) && fs.all fltOk
def healthRun (h : Hlt) (t fs : List Int) : Hlt := if hAll h t fs then hRun h t fs else ⟨false, 0⟩
def healthStep (h : Hlt) (t : List Int) (f : Int) : Hlt × Int := if hArg h t && fltOk f then hAfter h t f else (⟨false, 0⟩, -1)

theorem hOk_iff {h : Hlt} : hOk h = true ↔ 0 ≤ h.restarts ∧ h.restarts ≤ 3 ∧ (h.frozen = true ∨ h.restarts < 3) := by
  unfold hOk; rw [Bool.and_eq_true, inB_iff, Bool.or_eq_true, decide_eq_true_iff, and_assoc]
theorem tabOk_iff {t : List Int} : tabOk t = true ↔ t.length = 3 ∧ ∀ x ∈ t, 0 ≤ x ∧ x ≤ 2 := by
  unfold tabOk actOk
  rw [Bool.and_eq_true, decide_eq_true_iff, List.all_eq_true]
  constructor
  · rintro ⟨a, b⟩; exact ⟨a, fun x hx => inB_iff.1 (b x hx)⟩
  · rintro ⟨a, b⟩; exact ⟨a, fun x hx => inB_iff.2 (b x hx)⟩
theorem hAct_bd {t : List Int} (ht : tabOk t = true) (f : Int) : 0 ≤ hAct t f ∧ hAct t f ≤ 2 := by
  unfold hAct
  rw [List.getD_eq_getElem?_getD]
  cases h : t[(f - 1).toNat]? with
  | none => simp
  | some x => exact (tabOk_iff.1 ht).2 x (List.mem_of_getElem? h)
theorem hAfter_ok {h : Hlt} {t : List Int} (f : Int) (hh : hOk h = true) : hOk (hAfter h t f).1 = true := by
  obtain ⟨a, b, c⟩ := hOk_iff.1 hh
  unfold hAfter
  split
  · exact hh
  · rename_i hn
    have hf : ¬ h.frozen = true := fun e => hn (.inr e)
    have hr : h.restarts < 3 := by rcases c with c | c; exact absurd c hf; exact c
    split
    · split
      · exact hOk_iff.2 ⟨by decide, by decide, .inl rfl⟩
      · rename_i h3; exact hOk_iff.2 ⟨by show 0 ≤ h.restarts + 1; omega, by show h.restarts + 1 ≤ 3; omega, .inr (by show h.restarts + 1 < 3; omega)⟩
    · split
      · exact hOk_iff.2 ⟨a, b, .inl rfl⟩
      · exact hOk_iff.2 ⟨a, b, .inr hr⟩
theorem hRun_ok {t : List Int} : ∀ (fs : List Int) {h : Hlt}, hOk h = true → hOk (hRun h t fs) = true
  | [], _, hh => hh
  | f :: fs, _, hh => hRun_ok fs (hAfter_ok f hh)
theorem hRun_app (h : Hlt) (t xs ys : List Int) : hRun h t (xs ++ ys) = hRun (hRun h t xs) t ys := by unfold hRun; rw [List.foldl_append]
theorem hRun_snoc (h : Hlt) (t fs : List Int) (k : Nat) (hk : k < fs.length) : hRun h t (fs.take (k + 1)) = (hAfter (hRun h t (fs.take k)) t fs[k]).1 := by
  rw [List.take_succ_eq_append_getElem hk, hRun_app]; rfl
theorem hlt_ext {a b : Hlt} (h1 : a.frozen = b.frozen) (h2 : a.restarts = b.restarts) : a = b := by cases a; cases b; simp_all

/-! ### The laws -/

theorem healthRun_halves {h : Hlt} {t fs : List Int} (hh : hAll h t fs = true) (m : Nat) : healthRun (healthRun h t (fs.take m)) t (fs.drop m) = healthRun h t fs := by
  have hh' := hh
  unfold hAll hArg at hh'
  rw [Bool.and_eq_true, Bool.and_eq_true, Bool.and_eq_true, decide_eq_true_iff, List.all_eq_true] at hh'
  obtain ⟨⟨⟨h1, h2⟩, h3⟩, h4⟩ := hh'
  have q1 : hAll h t (fs.take m) = true := by
    unfold hAll hArg
    rw [h1, h2, decide_eq_true (show (fs.take m).length ≤ 30 by rw [List.length_take]; omega), List.all_eq_true.2 fun x hx => h4 x (List.mem_of_mem_take hx)]; rfl
  have q2 : hAll (hRun h t (fs.take m)) t (fs.drop m) = true := by
    unfold hAll hArg
    rw [hRun_ok _ h1, h2, decide_eq_true (show (fs.drop m).length ≤ 30 by rw [List.length_drop]; omega), List.all_eq_true.2 fun x hx => h4 x (List.mem_of_mem_drop hx)]; rfl
  unfold healthRun
  rw [hh, q1]
  simp only [if_true]
  rw [if_pos q2, ← hRun_app, List.take_append_drop]

theorem hRun_calm : ∀ (fs t : List Int) (h : Hlt), (∀ x ∈ t, x = 0) → hRun h t fs = h
  | [], _, _, _ => rfl
  | f :: fs, t, h, ht => by
    have ha : hAct t f = 0 := by
      unfold hAct
      rw [List.getD_eq_getElem?_getD]
      cases e : t[(f - 1).toNat]? with
      | none => rfl
      | some x => exact ht x (List.mem_of_getElem? e)
    have h1 : (hAfter h t f).1 = h := by
      unfold hAfter
      split
      · rfl
      · rename_i hn
        rw [ha]
        simp only [show ¬ (0 : Int) = 1 by decide, show ¬ (0 : Int) = 2 by decide, if_false]
        exact hlt_ext (by cases hq : h.frozen; rfl; exact absurd (.inr hq) hn) rfl
    show hRun (hAfter h t f).1 t fs = h
    rw [h1]; exact hRun_calm fs t h ht
theorem healthRun_none (h : Hlt) (t : List Int) : healthRun h t [0, 0, 0, 0, 0] = if hArg h t then h else ⟨false, 0⟩ := by
  unfold healthRun hAll
  cases hArg h t
  · rfl
  · show hRun h t [0, 0, 0, 0, 0] = h
    have : ∀ h : Hlt, (hAfter h t 0).1 = h := fun h => by unfold hAfter; simp
    simp [hRun, this]
theorem healthRun_calm {h : Hlt} (hh : hOk h = true) : healthRun h [0, 0, 0] [1, 2, 3, 1] = h := by
  unfold healthRun hAll hArg
  rw [hh, show tabOk [0, 0, 0] = true from by decide]
  exact hRun_calm _ _ _ (by simp)
theorem healthRun_end {h : Hlt} (hh : hOk h = true) : (healthRun h [1, 0, 0] [1, 1, 1]).frozen = true := by
  obtain ⟨a, b, c⟩ := hOk_iff.1 hh
  unfold healthRun hAll hArg
  rw [hh, show tabOk [1, 0, 0] = true from by decide]
  show (hRun h [1, 0, 0] [1, 1, 1]).frozen = true
  have st : ∀ g : Hlt, g.frozen = false → (hAfter g [1, 0, 0] 1).1 = if g.restarts + 1 = 3 then ⟨true, 3⟩ else ⟨false, g.restarts + 1⟩ := fun g hg => by
    unfold hAfter
    rw [if_neg (by rw [hg]; simp), show hAct [1, 0, 0] 1 = 1 from rfl, if_pos rfl]
    split <;> rfl
  have sf : ∀ g : Hlt, g.frozen = true → (hAfter g [1, 0, 0] 1).1 = g := fun g hg => by
    unfold hAfter; rw [if_pos (.inr hg)]
  show ((hAfter (hAfter (hAfter h [1, 0, 0] 1).1 [1, 0, 0] 1).1 [1, 0, 0] 1).1).frozen = true
  cases hq : h.frozen
  · have hr : h.restarts = 0 ∨ h.restarts = 1 ∨ h.restarts = 2 := by rcases c with c | c; rw [hq] at c; cases c; omega
    rcases hr with e | e | e <;> simp [st h hq, e, st ⟨false, 1⟩ rfl, st ⟨false, 2⟩ rfl, sf ⟨true, 3⟩ rfl]
  · rw [sf h hq, sf h hq, sf h hq]; exact hq
end Go.Proofs.Ytlkdngjpbohgaaa
