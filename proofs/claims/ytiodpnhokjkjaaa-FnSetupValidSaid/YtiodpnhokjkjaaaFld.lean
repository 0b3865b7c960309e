/- The rounds of influence: the program's functions, for every input. -/
import Derived.Test.YtiodpnhokjkjaaaFlc
import Derived.Deep.LoopGhost
import Derived.Deep.DeepCutAuto
namespace Go.Proofs.Ytiodpnhokjkjaaa
open Go.RowKit Go.Sort

/-- The state in round r, at place a, b. -/
def stF (D : Nat → Nat → Bool) (p n r a b : Nat) : List Bool := fst' D p n ((r * p + a) * p + b)
section
variable {D : Nat → Nat → Bool} {p n : Nat}
theorem stF_len (r a b : Nat) : (stF D p n r a b).length = p := fst_len _
theorem stF_a (r a : Nat) : stF D p n r a p = stF D p n r (a + 1) 0 := by unfold stF; rw [← Nat.add_assoc, Nat.succ_mul, Nat.add_zero]
theorem stF_r (r : Nat) : stF D p n r p 0 = stF D p n (r + 1) 0 0 := by unfold stF; rw [Nat.succ_mul r p, Nat.add_zero, Nat.add_zero]; rfl
theorem stF_0 : stF D p n 0 0 0 = (List.replicate p false).set n true := by unfold stF; rw [Nat.zero_mul, Nat.zero_add, Nat.zero_mul]; rfl
theorem stF_end : stF D p n p 0 0 = flowsB D p n := by unfold stF flowsB; rw [Nat.add_zero, Nat.add_zero]
theorem stF_step {a b : Nat} (r : Nat) (ha : a < p) (hb : b < p) : stF D p n r a (b + 1) = (stF D p n r a b).set a ((stF D p n r a b).getD a false || ((stF D p n r a b).getD b false && D a b)) := by
  unfold stF
  show fstep D (fst' D p n ((r * p + a) * p + b)) ((((r * p + a) * p + b) / p) % p) (((r * p + a) * p + b) % p) = _
  have q1 : ((r * p + a) * p + b) / p = r * p + a := by rw [Nat.add_comm, Nat.add_mul_div_right _ _ (by omega), Nat.div_eq_of_lt hb, Nat.zero_add]
  have q2 : ((r * p + a) * p + b) % p = b := by rw [Nat.add_comm, Nat.add_mul_mod_self_right, Nat.mod_eq_of_lt hb]
  have q3 : (r * p + a) % p = a := by rw [Nat.add_comm, Nat.add_mul_mod_self_right, Nat.mod_eq_of_lt ha]
  rw [q1, q2, q3]; rfl
theorem getD_get {o : List Bool} {i : Nat} (h : i < o.length) : o.getD i false = o[i] := by
  rw [List.getD_eq_getElem?_getD, List.getElem?_eq_getElem h]; rfl
end
/-- The flags that the call owns. -/
structure FS (w0 : World) (g p : Nat) (o : List Bool) (wx : World) : Prop where
  bel : Below w0.heap.size w0 wx
  own : Own eBool 4 wx w0.heap.size (.slice (some ⟨g, 0, none⟩) p p) o
  len : o.length = p
section
variable {w0 wx w' : World} {g p : Nat} {o : List Bool}
theorem FS.next (s : FS w0 g p o wx) (hb : Below wx.heap.size wx w') : FS w0 g p o w' := ⟨s.bel.trans (hb.mono s.bel.size), s.own.next hb, s.len⟩
theorem FS.at (s : FS w0 g p o wx) {k : Nat} (hk : k < o.length) : wx.cell? ⟨g, k, none⟩ = some (.bool o[k]) ∧ wx.frozen? ⟨g, k, none⟩ = false ∧ w0.heap.size ≤ g ∧ g < wx.heap.size := by
  have hne : o ≠ [] := by intro e; simp [e] at hk
  obtain ⟨b, off, hA, hlt, e0⟩ := s.own.rd.at1 rfl hk rfl
  simp only [Option.some.injEq, Addr.mk.injEq, and_true] at hA
  obtain ⟨rfl, rfl⟩ := hA
  rw [Nat.zero_add] at e0
  exact ⟨e0, s.own.frozen hne, (s.own.blk hne).1, hlt⟩
theorem FS.set (s : FS w0 g p o wx) {k : Nat} (hk : k < o.length) (v : Bool) : FS w0 g p (o.set k v) (wx.setCell ⟨g, k, none⟩ (.bool v)) := by
  have h3 := s.own.set (i := k) (j := 0) (x := o[k]) (y := v) (u := .bool v) (List.getElem?_eq_getElem hk) (by decide) rfl
  exact ⟨s.bel.setCell (p := ⟨g, k, none⟩) (s.at hk).2.2.1 _, by simpa using h3, by rw [List.length_set]; exact s.len⟩
end
set_option maxRecDepth 100000 in
set_option maxHeartbeats 3200000 in
theorem callFlows (A : Option Addr) (c : Nat) (cs : List Chn) (p n : Nat) (w : World) (B : Nat) (hB : B ≤ w.heap.size) (hm : cs.length ≤ 1048576) (hp : p ≤ 5) (hn : n < p) (hr : Rd eChn w B A cs) :
    Calls Try.prog 50 #[.slice A cs.length c, .int .i64 p, .int .i64 n] w fun e w' => ∃ g, e = .returned (.slice (some ⟨g, 0, none⟩) p p) ∧ FS w g p (flowsB (fun (a b : Nat) => dirB cs a b) p n) w' := by
  obtain ⟨D, hD⟩ : ∃ D : Nat → Nat → Bool, D = fun (a b : Nat) => dirB cs a b := ⟨_, rfl⟩
  have HC : Hid (∀ (a b : Nat) (W : World), Below w.heap.size w W → Calls Try.prog 62 #[.slice A cs.length c, .int .i64 a, .int .i64 b] W fun e w' => e = .returned (.bool (D a b)) ∧ Below W.heap.size W w') := fun a b W hW => by
    rw [hD]; exact callDirect A c cs a b W B (Nat.le_trans hB hW.size) hm (hr.below (hW.mono hB))
  have HEND : Hid (stF D p n p 0 0 = flowsB (fun (a b : Nat) => dirB cs a b) p n) := by show _ = _; rw [← hD]; exact stF_end
  obtain ⟨fin, hfin⟩ : ∃ fin, fin = flowsB (fun (a b : Nat) => dirB cs a b) p n := ⟨_, rfl⟩
  rw [← hfin] at HEND ⊢
  clear hr hD hfin
  go_enter Try.func50, Try.ntmps50
  go_upto_region 3 with (at_make; refine wpList_mkE (E := eBool) _ Try.underlying26 (z := .bool false) (m := 1) (by kernel_rfl) (by decide) false rfl rfl _ _ rfl w.heap.size p p p rfl rfl rfl rfl (by omega) (Nat.le_refl _) ?_; intro w1 hown1 hb1; have S1 : Hid (FS w w.heap.size p (List.replicate p false) w1) := ⟨hb1, hown1, by simp⟩; clear hown1 hb1; have hnl : n < (List.replicate p false).length := (by simp; exact hn); obtain ⟨x0, x1, x2, x3⟩ := S1.out.at hnl; have hni : (n : Int) < (p : Int) := (by omega); have hni0 : (0 : Int) ≤ (n : Int) := (by omega); have hdn : decide (n < p) = true := decide_eq_true hn)
  have S2 := Lib.hid (S1.out.set hnl true)
  have E0 := Lib.hid (stF_0 (D := D) (p := p) (n := n))
  rw [← E0.out] at S2
  obtain ⟨w2, hw2⟩ : ∃ w2, w2 = w1.setCell ⟨w.heap.size, n, none⟩ (.bool true) := ⟨_, rfl⟩
  obtain ⟨g, hg⟩ : ∃ g, g = w.heap.size := ⟨_, rfl⟩
  rw [← hg] at S2 x0 x1 x2 x3 hw2 ⊢
  rw [← hw2] at S2 ⊢
  have HBW : Hid (∀ wx o, FS w g p o wx → Below w.heap.size w wx) := fun _ _ h => h.bel
  clear hw2 hg S1 E0 x0 x1 x2 x3 hnl
  go_wp2_with fail
  go_loopw [8, 9, 16] (fun _ _ i wr => ∃ r : Nat, i = .int .i64 r ∧ r ≤ p ∧ Hid (FS w g p (stF D p n r 0 0) wr)) (fun _ _ i _ => p - (intOf i).toNat)
  case atStart => exact ⟨0, rfl, by omega, S2.out⟩
  case round =>
    clear S2
    obtain ⟨r, rfl, hrp, SR⟩ := hrel
    by_cases hlt : r < p
    · have hd : decide (r < p) = true := decide_eq_true hlt
      have hdi : decide ((r : Int) < (p : Int)) = true := decide_eq_true (by omega)
      go_wp2_with fail
      go_loopw [8, 9, 19] (fun _ _ i wr => ∃ a : Nat, i = .int .i64 a ∧ a ≤ p ∧ Hid (FS w g p (stF D p n r a 0) wr)) (fun _ _ i _ => p - (intOf i).toNat)
      case atStart => exact ⟨0, rfl, by omega, SR.out⟩
      case round =>
        clear SR hd hdi
        obtain ⟨a, rfl, hap, SA⟩ := hrel
        by_cases hla : a < p
        · have hd : decide (a < p) = true := decide_eq_true hla
          have hdi : decide ((a : Int) < (p : Int)) = true := decide_eq_true (by omega)
          go_wp2_with fail
          go_loopw [9, 23] (fun _ i wr => ∃ b : Nat, i = .int .i64 b ∧ b ≤ p ∧ Hid (FS w g p (stF D p n r a b) wr)) (fun _ i _ => p - (intOf i).toNat)
          case atStart => exact ⟨0, rfl, by omega, SA.out⟩
          case round =>
            clear SA hd hdi
            obtain ⟨b, rfl, hbp, SB⟩ := hrel
            by_cases hlb : b < p
            · have hd : decide (b < p) = true := decide_eq_true hlb
              have hdi : decide ((b : Int) < (p : Int)) = true := decide_eq_true (by omega)
              have hda : decide (a < p) = true := decide_eq_true hla
              have ia0 : (0 : Int) ≤ (a : Int) := by omega
              have ia1 : (a : Int) < (p : Int) := by omega
              have ib0 : (0 : Int) ≤ (b : Int) := by omega
              have ib1 : (b : Int) < (p : Int) := by omega
              have ES := Lib.hid (stF_step (D := D) (n := n) r hla hlb)
              obtain ⟨o, ho⟩ : ∃ o, o = stF D p n r a b := ⟨_, rfl⟩
              rw [← ho] at SB ES
              clear ho
              have hlo := SB.out.len
              have hao : a < o.length := by omega
              have hbo : b < o.length := by omega
              obtain ⟨x0, x1, x2, x3⟩ := SB.out.at hao
              obtain ⟨y0, y1, _, _⟩ := SB.out.at hbo
              rw [getD_get hao, getD_get hbo] at ES
              obtain ⟨oa, hoa⟩ : ∃ oa, oa = o[a] := ⟨_, rfl⟩
              obtain ⟨ob, hob⟩ : ∃ ob, ob = o[b] := ⟨_, rfl⟩
              rw [← hoa] at x0 ES
              rw [← hob] at y0 ES
              have HLO := Lib.hid hlo
              clear hoa hob hlo
              cases oa
              · cases ob
                · have SN := Lib.hid (SB.out.set hao false)
                  go_wp2_with fail
                  go_roundw
                  case rel => exact ⟨b + 1, by go_num, by omega, by rw [ES.out]; exact SN.out⟩
                  case measure => simp [intOf]; omega
                · go_wp2_with fail
                  refine (HC.out a b _ SB.out.bel).mono ?_
                  rintro e w5 ⟨rfl, hb5⟩
                  have S5 := Lib.hid (SB.out.next hb5)
                  clear hb5 x0 x1 x2 x3 y0 y1
                  obtain ⟨x0, x1, x2, x3⟩ := S5.out.at hao
                  have SN := Lib.hid (S5.out.set hao (D a b))
                  obtain ⟨d, hd'⟩ : ∃ d, d = D a b := ⟨_, rfl⟩
                  rw [← hd'] at SN ES ⊢
                  clear hd'
                  cases d
                  all_goals
                    go_wp2_with fail
                    go_roundw
                    case rel => exact ⟨b + 1, by go_num, by omega, by rw [ES.out]; exact SN.out⟩
                    case measure => simp [intOf]; omega
              · have SN := Lib.hid (SB.out.set hao true)
                go_wp2_with fail
                go_roundw
                case rel => exact ⟨b + 1, by go_num, by omega, by rw [ES.out]; exact SN.out⟩
                case measure => simp [intOf]; omega
            · have hd : decide (b < p) = false := decide_eq_false hlb
              have hdi : decide ((b : Int) < (p : Int)) = false := decide_eq_false (by omega)
              obtain rfl : b = p := by omega
              have EA := Lib.hid (stF_a (D := D) (p := b) (n := n) r a)
              go_wp2_with fail
              go_roundw
              case rel => exact ⟨a + 1, by go_num, by omega, by rw [← EA.out]; exact SB.out⟩
              case measure => simp [intOf]; omega
        · have hd : decide (a < p) = false := decide_eq_false hla
          have hdi : decide ((a : Int) < (p : Int)) = false := decide_eq_false (by omega)
          obtain rfl : a = p := by omega
          have ER := Lib.hid (stF_r (D := D) (p := a) (n := n) r)
          go_wp2_with fail
          go_roundw
          case rel => exact ⟨r + 1, by go_num, by omega, by rw [← ER.out]; exact SA.out⟩
          case measure => simp [intOf]; omega
    · have hd : decide (r < p) = false := decide_eq_false hlt
      have hdi : decide ((r : Int) < (p : Int)) = false := decide_eq_false (by omega)
      obtain rfl : r = p := by omega
      have SF := SR.out
      rw [HEND.out] at SF
      have HSF := Lib.hid SF
      clear SF SR
      go_wp2_with fail
      go_ret
      exact ⟨g, rfl, HSF.out⟩
end Go.Proofs.Ytiodpnhokjkjaaa
