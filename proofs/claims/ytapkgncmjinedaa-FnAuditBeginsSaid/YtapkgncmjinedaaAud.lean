/- Plain words: chains of sums, logs, and what the laws say of them. No program stands here. -/
import Derived.Test.YtapkgncmjinedaaData
namespace Go.Proofs.Ytapkgncmjinedaa
open Go.RowKit Go.Sort

def mixStep (n x : Int) : Int := (1000003 * n + x % 1048573 + 1) % 1048573
def mixF (key : Int) (l : List Int) : Int := l.foldl mixStep key
def mixN (key : Int) (l : List Int) : Int := if inB key 0 1048572 then mixF key l else -1
def auditOk (key : Int) (es : List Int) (sum : Int) : Bool := (decide (es.length ≤ 60) && inB key 0 1048572) && (sum == mixF key es)
def auditAdd (key : Int) (es : List Int) (sum e : Int) : (Int × List Int × Int) × Bool :=
  if auditOk key es sum then (if es.length = 60 then ((key, es, sum), false) else ((key, es ++ [e], mixStep sum e), true)) else ((0, [], 0), false)
def auditBegins (key : Int) (es : List Int) (sum key' : Int) (es' : List Int) (sum' : Int) : Bool :=
  (((auditOk key es sum && auditOk key' es' sum') && (key == key')) && decide (es'.length ≤ es.length)) && decide (es.take es'.length = es')
def auditSince (key : Int) (es : List Int) (sum n : Int) : List Int × Int :=
  if auditOk key es sum && inB n 0 es.length then (es.drop n.toNat, mixF key (es.take n.toNat)) else ([], -1)

theorem mixStep_in (n x : Int) : inB (mixStep n x) 0 1048572 = true := by
  unfold mixStep; rw [inB_iff]; omega
theorem mixF_in : ∀ (l : List Int) (key : Int), inB key 0 1048572 = true → inB (mixF key l) 0 1048572 = true
  | [], _, h => h
  | x :: l, key, _ => mixF_in l (mixStep key x) (mixStep_in key x)
theorem mixF_snoc (key : Int) (l : List Int) (x : Int) : mixF key (l ++ [x]) = mixStep (mixF key l) x := by
  unfold mixF; rw [List.foldl_append]; rfl
theorem mixF_app (key : Int) (l r : List Int) : mixF key (l ++ r) = mixF (mixF key l) r := by
  unfold mixF; rw [List.foldl_append]
theorem mixF_cut (key : Int) (l : List Int) (n : Nat) : mixF (mixF key (l.take n)) (l.drop n) = mixF key l := by
  rw [← mixF_app, List.take_append_drop]
theorem mixF_one (key x : Int) : mixF key [x] = mixStep key x := rfl
theorem mixN_in {key : Int} (h : inB key 0 1048572 = true) (l : List Int) : mixN key l = mixF key l := by unfold mixN; rw [if_pos h]
theorem mixN_out {key : Int} (h : inB key 0 1048572 = false) (l : List Int) : mixN key l = -1 := by
  unfold mixN; rw [h]; rfl
theorem mixF_take {key : Int} {l : List Int} {k : Nat} (h : k < l.length) : mixF key (l.take (k + 1)) = mixStep (mixF key (l.take k)) l[k] := by
  rw [List.take_succ_eq_append_getElem h, mixF_snoc]
/-- The two ways of the programs to take a number modulo the base. -/
theorem tmod_nonpos {x : Int} (h : x ≤ 0) : x.tmod 1048573 = -((-x) % 1048573) := by
  have : x.tmod 1048573 = -((-x).tmod 1048573) := by rw [Int.neg_tmod, Int.neg_neg]
  rw [this, Int.tmod_eq_emod_of_nonneg (by omega)]
theorem mix_mod (x : Int) : (x.tmod 1048573 + 1048573).tmod 1048573 = x % 1048573 := by
  rcases Int.le_total 0 x with h | h
  · rw [Int.tmod_eq_emod_of_nonneg h, Int.tmod_eq_emod_of_nonneg (by omega)]; omega
  · rw [tmod_nonpos h, Int.tmod_eq_emod_of_nonneg (by omega)]; omega
theorem mix_neg {x : Int} (h : x.tmod 1048573 < 0) : x.tmod 1048573 + 1048573 = x % 1048573 := by
  rcases Int.le_total 0 x with h1 | h1
  · rw [Int.tmod_eq_emod_of_nonneg h1] at h; omega
  · rw [tmod_nonpos h1] at h ⊢; omega
theorem mix_pos {x : Int} (h : 0 ≤ x.tmod 1048573) : x.tmod 1048573 = x % 1048573 := by
  rcases Int.le_total 0 x with h1 | h1
  · rw [Int.tmod_eq_emod_of_nonneg h1]
  · rw [tmod_nonpos h1] at h ⊢; omega
theorem mixStep_bd (n x : Int) (h : inB n 0 1048572 = true) : 0 ≤ 1000003 * n + x % 1048573 + 1 ∧ 1000003 * n + x % 1048573 + 1 ≤ 2000000000000 ∧ 0 ≤ 1000003 * n ∧ 1000003 * n ≤ 1900000000000 ∧ 0 ≤ x % 1048573 ∧ x % 1048573 ≤ 1048572 := by
  rw [inB_iff] at h; omega
theorem mixStep_tmod (n x : Int) (h : inB n 0 1048572 = true) : (1000003 * n + x % 1048573 + 1).tmod 1048573 = mixStep n x := by
  unfold mixStep; exact Int.tmod_eq_emod_of_nonneg (mixStep_bd n x h).1
/-- Entries that differ by 1 lead to different sums. -/
theorem mixStep_ne {n x y : Int} (h : y = x + 1 ∨ y = x - 1) : mixStep n x ≠ mixStep n y := by
  unfold mixStep; rcases h with rfl | rfl <;> omega

theorem auditOk_iff {key : Int} {es : List Int} {sum : Int} : auditOk key es sum = true ↔ es.length ≤ 60 ∧ inB key 0 1048572 = true ∧ sum = mixF key es := by
  unfold auditOk; rw [Bool.and_eq_true, Bool.and_eq_true, decide_eq_true_iff, beq_iff_eq, and_assoc]
theorem auditOk_sum {key : Int} {es : List Int} {sum : Int} (h : auditOk key es sum = true) : inB sum 0 1048572 = true := by
  obtain ⟨_, a, rfl⟩ := auditOk_iff.1 h; exact mixF_in es key a
theorem auditOk_snoc {key : Int} {es : List Int} {sum e : Int} (h : auditOk key es sum = true) (hl : es.length ≠ 60) : auditOk key (es ++ [e]) (mixStep sum e) = true := by
  obtain ⟨a, b, rfl⟩ := auditOk_iff.1 h
  exact auditOk_iff.2 ⟨by simp; omega, b, (mixF_snoc _ _ _).symm⟩
theorem auditBegins_iff {key : Int} {es : List Int} {sum key' : Int} {es' : List Int} {sum' : Int} : auditBegins key es sum key' es' sum' = true ↔ auditOk key es sum = true ∧ auditOk key' es' sum' = true ∧ key = key' ∧ es'.length ≤ es.length ∧ es.take es'.length = es' := by
  unfold auditBegins; rw [Bool.and_eq_true, Bool.and_eq_true, Bool.and_eq_true, Bool.and_eq_true, decide_eq_true_iff, decide_eq_true_iff, beq_iff_eq, and_assoc, and_assoc, and_assoc]
theorem begins_self (key : Int) (es : List Int) (sum : Int) : auditBegins key es sum key es sum = auditOk key es sum := by
  rw [Bool.eq_iff_iff, auditBegins_iff]
  exact ⟨fun h => h.1, fun h => ⟨h, h, rfl, Nat.le_refl _, List.take_length⟩⟩
theorem begins_both {key : Int} {es : List Int} {sum key' : Int} {es' : List Int} {sum' : Int} (h : auditBegins key es sum key' es' sum' = true) (h' : auditBegins key' es' sum' key es sum = true) : key = key' ∧ es = es' ∧ sum = sum' := by
  obtain ⟨a1, a2, rfl, a4, a5⟩ := auditBegins_iff.1 h
  obtain ⟨b1, b2, _, b4, b5⟩ := auditBegins_iff.1 h'
  have he : es = es' := by
    have : es'.length = es.length := by omega
    rw [this, List.take_length] at a5; exact a5
  subst he
  exact ⟨rfl, rfl, by rw [(auditOk_iff.1 a1).2.2, (auditOk_iff.1 a2).2.2]⟩
theorem begins_len {key : Int} {es : List Int} {sum key' : Int} {es' : List Int} {sum' : Int} (h : auditBegins key es sum key' es' sum' = true) : es'.length ≤ es.length := (auditBegins_iff.1 h).2.2.2.1
theorem begins_snoc {key : Int} {es : List Int} {sum e : Int} (h : auditOk key es sum = true) (hl : es.length ≠ 60) : auditBegins key (es ++ [e]) (mixStep sum e) key es sum = true :=
  auditBegins_iff.2 ⟨auditOk_snoc h hl, h, rfl, by simp, by rw [List.take_left]⟩
theorem begins_fork {key : Int} {es : List Int} {s1 s2 e e' : Int} (h : e ≠ e') : auditBegins key (es ++ [e]) s1 key (es ++ [e']) s2 = false := by
  rw [Bool.eq_false_iff]
  intro hb
  have := (auditBegins_iff.1 hb).2.2.2.2
  rw [List.take_of_length_le (by simp)] at this
  exact h (by simpa using this)
end Go.Proofs.Ytapkgncmjinedaa
