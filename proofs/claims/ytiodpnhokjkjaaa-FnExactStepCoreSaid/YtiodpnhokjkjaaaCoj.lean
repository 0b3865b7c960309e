/- Steps of the program's cores, for every input: all instructions. -/
import Derived.Test.YtiodpnhokjkjaaaCo2
namespace Go.Proofs.Ytiodpnhokjkjaaa
open Go.RowKit Go.Sort

theorem callStep (X B0 base Bo : Nat) (A : Option Addr) (c : Nat) (cr : Cor) (Ao : Option Addr) (co : Nat) (os : List Ord3) (cells clock : Int) (w : World) (hX : w.heap[X]? = some (.cells #[.slice A cr.cs.length c, .int .i64 cr.at', .bool cr.stop] 33 (0, 0))) (hown : Own eInt 3 w base (.slice A cr.cs.length c) cr.cs)
    (hok : coreB cr os cells = true) (hck : 0 ≤ clock) (h0 : B0 ≤ X) (h1 : B0 ≤ base) (h2 : B0 ≤ w.heap.size) (hBo : Bo ≤ B0) (hr : Rd eOrd w Bo Ao os) :
    Calls Try.prog 57 #[.pointer (some ⟨X, 0, none⟩), .slice Ao os.length co, .int .i64 clock] w (StepRes w X B0 base A c cr os clock) := by
  cases hst : cr.stop
  · obtain ⟨hp, _, ⟨ha0, ha1⟩, _⟩ := coreB_iff.1 hok
    have hob := (ordAt_ok hp ha0 ha1).1
    have hop : (ordAt os cr.at').op = 1 ∨ (ordAt os cr.at').op = 2 ∨ (ordAt os cr.at').op = 3 ∨ (ordAt os cr.at').op = 7 ∨ (ordAt os cr.at').op = 4 ∨ (ordAt os cr.at').op = 8 ∨ (ordAt os cr.at').op = 5 ∨ (ordAt os cr.at').op = 6 ∨ (ordAt os cr.at').op = 0 := by
      generalize ordAt os cr.at' = o at hob
      obtain ⟨op, a, b⟩ := o
      by_cases h : op ≠ 1 ∧ op ≠ 2 ∧ op ≠ 3 ∧ op ≠ 4 ∧ op ≠ 5 ∧ op ≠ 6 ∧ op ≠ 7 ∧ op ≠ 0 ∧ op ≠ 8
      · rw [ordB_else _ _ _ _ h] at hob; cases hob
      · show op = 1 ∨ op = 2 ∨ op = 3 ∨ op = 7 ∨ op = 4 ∨ op = 8 ∨ op = 5 ∨ op = 6 ∨ op = 0
        omega
    rcases hop with h | h | h | h | h | h | h | h | h
    · exact callStep1 X B0 base Bo A c cr Ao co os cells clock w hX hown hok hck h0 h1 h2 hBo hr hst h
    · exact callStep2 X B0 base Bo A c cr Ao co os cells clock w hX hown hok hck h0 h1 h2 hBo hr hst h
    · exact callStep3 X B0 base Bo A c cr Ao co os cells clock w hX hown hok hck h0 h1 h2 hBo hr hst h
    · exact callStep7 X B0 base Bo A c cr Ao co os cells clock w hX hown hok hck h0 h1 h2 hBo hr hst h
    · exact callStep4 X B0 base Bo A c cr Ao co os cells clock w hX hown hok hck h0 h1 h2 hBo hr hst h
    · exact callStep8 X B0 base Bo A c cr Ao co os cells clock w hX hown hok hck h0 h1 h2 hBo hr hst h
    · exact callStep5 X B0 base Bo A c cr Ao co os cells clock w hX hown hok hck h0 h1 h2 hBo hr hst h
    · exact callStep6 X B0 base Bo A c cr Ao co os cells clock w hX hown hok hck h0 h1 h2 hBo hr hst h
    · exact callStep0 X B0 base Bo A c cr Ao co os cells clock w hX hown hok hck h0 h1 h2 hBo hr hst h
  · exact callStepS X B0 base Bo A c cr Ao co os cells clock w hX hown hok hck h0 h1 h2 hBo hr hst
end Go.Proofs.Ytiodpnhokjkjaaa
