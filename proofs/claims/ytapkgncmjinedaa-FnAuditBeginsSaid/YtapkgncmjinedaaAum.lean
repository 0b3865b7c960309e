/- Sums of numbers: MixNumbers, chain, ChainSums, for every input. -/
import Derived.Test.YtapkgncmjinedaaAud
import Derived.Test.YtapkgncmjinedaaWin
import Derived.Test.YtapkgncmjinedaaLib
import Derived.Test.YtapkgncmjinedaaBox
namespace Go.Proofs.Ytapkgncmjinedaa
open Go.RowKit Go.Sort

theorem wrap64_at (x : Int) : wrap64 x = IntKind.i64.wrap x := by rw [IntKind.wrap_i64, wrap64]
theorem callIsKey (n : Int) (w : World) : Calls Try.prog 69 #[.int .i64 n] w fun e w' => e = .returned (.bool (inB n 0 1048572)) ∧ w = w' := by
  go_enter Try.func69, Try.ntmps69
  go_wp2_with (go_at_call 62; refine (callIn _ _ _ _).mono ?_; rintro e w' ⟨rfl, rfl⟩)
  go_ret
  exact ⟨rfl, rfl⟩
/-- The numbers of one step, each a name of its own. -/
theorem mix_one {K x : Int} (hK : inB K 0 1048572 = true) : ∃ T R N : Int, N = mixStep K x ∧ Int.tmod x 1048573 = T ∧ -1048573 < T ∧ T < 1048573 ∧ Int.tmod (T + 1048573) 1048573 = R ∧ 0 ≤ R ∧ R ≤ 1048572 ∧ Int.tmod (1000003 * K + R + 1) 1048573 = N ∧ (1000003 * K + R + 1) % 1048573 = N ∧ (T < 0 → T + 1048573 = R) ∧ (0 ≤ T → T = R) ∧ (T + 1048573) % 1048573 = R := by
  refine ⟨_, _, _, rfl, rfl, Int.lt_tmod_of_pos x (by decide), Int.tmod_lt_of_pos x (by decide), mix_mod x, by omega, by omega, mixStep_tmod K x hK, rfl, mix_neg, mix_pos, ?_⟩
  have h1 := Int.lt_tmod_of_pos x (show (0:Int) < 1048573 by decide)
  have h2 := Int.tmod_eq_emod_of_nonneg (a := x.tmod 1048573 + 1048573) (b := 1048573) (by omega)
  rw [← h2]; exact mix_mod x
set_option maxHeartbeats 800000 in
theorem callMix (A : Option Addr) (c : Nat) (xs : List Int) (key : Int) (w : World) (B : Nat) (hm : xs.length ≤ 1048576) (hr : Rd eInt w B A xs) :
    Calls Try.prog 25 #[.int .i64 key, .slice A xs.length c] w fun e w' => e = .returned (.int .i64 (mixN key xs)) ∧ w = w' := by
  cases hk : inB key 0 1048572
  · have E := Lib.hid (mixN_out hk xs)
    go_enter Try.func25, Try.ntmps25
    go_wp2_with (go_at_call 69; refine (callIsKey _ _).mono ?_; rintro e w' ⟨rfl, rfl⟩)
    go_ret
    exact ⟨by rw [E.out] <;> rfl, rfl⟩
  · have E := Lib.hid (mixN_in hk xs)
    have HK := Lib.hid hk
    have HR := Lib.hid hr
    clear hr
    go_enter Try.func25, Try.ntmps25
    go_wp2_with (go_at_call 69; refine (callIsKey _ _).mono ?_; rintro e w' ⟨rfl, rfl⟩)
    go_loopw [0, 6, 12] (fun s n i wr => ∃ k : Nat, k ≤ xs.length ∧ i = .int .i64 k ∧ s = .int .i64 (mixF key (xs.take k)) ∧ wr = w) (fun _ _ i _ => xs.length - (intOf i).toNat)
    case atStart => exact ⟨0, by omega, rfl, rfl, rfl⟩
    case round =>
      obtain ⟨k, hk, rfl, rfl, rfl⟩ := hrel
      by_cases hlt : k < xs.length
      · have hd : decide (k < xs.length) = true := decide_eq_true hlt
        have hdi : decide ((k : Int) < (xs.length : Int)) = true := decide_eq_true (by omega)
        have HT := Lib.hid (mixF_take (key := key) hlt)
        have hin := mixF_in (xs.take k) key HK.out
        obtain ⟨T, R, N, hN, t1, t2, t3, t4, t5, t6, t7, t8, _, _, t9⟩ := mix_one (x := xs[k]) hin
        rw [← hN] at HT
        have HN := Lib.hid hN
        have hb := inB_iff.1 hin
        obtain ⟨K, hK⟩ : ∃ K, K = mixF key (xs.take k) := ⟨_, rfl⟩
        rw [← hK] at hb t7 t8
        obtain ⟨b, off, rfl, hbB, o1⟩ := HR.out.at1 rfl hlt rfl
        obtain ⟨x, hx⟩ : ∃ x, x = xs[k] := ⟨_, rfl⟩
        rw [← hx] at t1 o1
        rw [← hK]
        clear hN hin hx hK
        go_wp2_with fail
        go_roundw
        case rel => exact ⟨k + 1, by omega, by go_num, by rw [HT.out], by first | rfl | trivial⟩
        case measure => simp [intOf]; omega
      · have hd : decide (k < xs.length) = false := decide_eq_false hlt
        have hdi : decide ((k : Int) < (xs.length : Int)) = false := decide_eq_false (by omega)
        have HTT : Hid (mixF key (xs.take k) = mixF key xs) := by show _ = _; rw [List.take_of_length_le (by omega)]
        rw [HTT.out]
        go_wp2
        go_ret
        exact ⟨by rw [E.out] <;> rfl, rfl⟩
set_option maxHeartbeats 800000 in
theorem callChain (A : Option Addr) (c : Nat) (xs : List Int) (key : Int) (w : World) (B : Nat) (hB : B ≤ w.heap.size) (hm : xs.length ≤ 1048576) (hk : inB key 0 1048572 = true) (hr : Rd eInt w B A xs) :
    Calls Try.prog 65 #[.int .i64 key, .slice A xs.length c] w fun e w' => e = .returned (.int .i64 (mixF key xs)) ∧ Below w.heap.size w w' := by
  have HK := Lib.hid hk
  have HR := Lib.hid hr
  clear hr hk
  have M : Hid (∀ (key x : Int) (W : World), inB key 0 1048572 = true → Calls Try.prog 25 #[.int .i64 key, .slice (some ⟨W.heap.size, 0, none⟩) 1 1] (W.alloc (.cells #[.int .i64 x] 3)) fun e w' => e = .returned (.int .i64 (mixStep key x)) ∧ W.alloc (.cells #[.int .i64 x] 3) = w') := fun key x W h => by
    have := callMix (some ⟨W.heap.size, 0, none⟩) 1 [x] key (W.alloc (.cells #[.int .i64 x] 3)) _ (by simp) (Rd.new (E := eInt) (xs := [x]) W _ _ rfl)
    rw [mixN_in h, mixF_one] at this
    exact this
  go_enter Try.func65, Try.ntmps65
  go_wp2_with fail
  go_loopw [0, 6, 9] (fun s n i wr => ∃ k : Nat, k ≤ xs.length ∧ i = .int .i64 k ∧ s = .int .i64 (mixF key (xs.take k)) ∧ Hid (Below w.heap.size w wr)) (fun _ _ i _ => xs.length - (intOf i).toNat)
  case atStart => exact ⟨0, by omega, rfl, rfl, Below.refl _ _⟩
  case round =>
    obtain ⟨k, hk, rfl, rfl, HB⟩ := hrel
    by_cases hlt : k < xs.length
    · have hd : decide (k < xs.length) = true := decide_eq_true hlt
      have hdi : decide ((k : Int) < (xs.length : Int)) = true := decide_eq_true (by omega)
      have HT := Lib.hid (mixF_take (key := key) hlt)
      have HIN := Lib.hid (mixF_in (xs.take k) key HK.out)
      obtain ⟨K, hK⟩ : ∃ K, K = mixF key (xs.take k) := ⟨_, rfl⟩
      rw [← hK] at HT HIN
      obtain ⟨b, off, rfl, hbB, o1⟩ := (HR.out.below (HB.out.mono hB)).at1 rfl hlt rfl
      obtain ⟨x, hx⟩ : ∃ x, x = xs[k] := ⟨_, rfl⟩
      rw [← hx] at o1 HT
      rw [← hK]
      clear hx hK
      have C := Lib.hid (M.out K x wr HIN.out)
      go_wp2_with fail
      refine C.out.mono ?_
      rintro e w5 ⟨rfl, rfl⟩
      have HB5 := Lib.hid (bel_trans HB.out (below1 wr (.cells #[.int .i64 x] 3)))
      go_wp2_with fail
      go_roundw
      case rel => exact ⟨k + 1, by omega, by go_num, by rw [HT.out], HB5.out⟩
      case measure => simp [intOf]; omega
    · have hd : decide (k < xs.length) = false := decide_eq_false hlt
      have hdi : decide ((k : Int) < (xs.length : Int)) = false := decide_eq_false (by omega)
      have HTT : Hid (mixF key (xs.take k) = mixF key xs) := by show _ = _; rw [List.take_of_length_le (by omega)]
      rw [HTT.out]
      go_wp2
      go_ret
      exact ⟨rfl, HB.out⟩
set_option maxHeartbeats 800000 in
theorem callSMix (A : Option Addr) (c : Nat) (xs : List Int) (key : Int) (w : World) (B : Nat) (hm : xs.length ≤ 1048576) (hr : Rd eInt w B A xs) :
    Calls Try.prog 71 #[.int .i64 key, .slice A xs.length c] w fun e w' => e = .returned (.int .i64 (mixN key xs)) ∧ w = w' := by
  cases hk : inB key 0 1048572
  · have E := Lib.hid (mixN_out hk xs)
    go_enter Try.func71, Try.ntmps71
    go_wp2_with (go_at_call 67; refine (callL1In _ _ _ _).mono ?_; rintro e w' ⟨rfl, rfl⟩)
    go_ret
    exact ⟨by rw [E.out] <;> rfl, rfl⟩
  · have E := Lib.hid (mixN_in hk xs)
    have HK := Lib.hid hk
    have HR := Lib.hid hr
    clear hr
    go_enter Try.func71, Try.ntmps71
    go_wp2_with (go_at_call 67; refine (callL1In _ _ _ _).mono ?_; rintro e w' ⟨rfl, rfl⟩)
    go_loopw [5, 6, 7] (fun s i n wr => ∃ k : Nat, k ≤ xs.length ∧ i = .int .i64 k ∧ s = .int .i64 (mixF key (xs.take k)) ∧ wr = w) (fun _ i _ _ => xs.length - (intOf i).toNat)
    case atStart => exact ⟨0, by omega, rfl, rfl, rfl⟩
    case round =>
      obtain ⟨k, hk, rfl, rfl, rfl⟩ := hrel
      by_cases hlt : k < xs.length
      · have hd : decide (k < xs.length) = true := decide_eq_true hlt
        have hdi : decide ((k : Int) < (xs.length : Int)) = true := decide_eq_true (by omega)
        have HT := Lib.hid (mixF_take (key := key) hlt)
        have hin := mixF_in (xs.take k) key HK.out
        obtain ⟨T, R, N, hN, t1, t2, t3, t4, t5, t6, t7, t8, t10, t11, t9⟩ := mix_one (x := xs[k]) hin
        rw [← hN] at HT
        have hb := inB_iff.1 hin
        obtain ⟨K, hK⟩ : ∃ K, K = mixF key (xs.take k) := ⟨_, rfl⟩
        rw [← hK] at hb t7 t8
        obtain ⟨b, off, rfl, hbB, o1⟩ := HR.out.at1 rfl hlt rfl
        obtain ⟨x, hx⟩ : ∃ x, x = xs[k] := ⟨_, rfl⟩
        rw [← hx] at t1 o1
        rw [← hK]
        clear hN hin hx hK t4 t9
        by_cases hT : T < 0
        · have hd2 : decide (T < 0) = true := decide_eq_true hT
          have e1 := t10 hT
          clear t10 t11
          go_wp2_with fail
          go_roundw
          case rel => exact ⟨k + 1, by omega, by go_num, by rw [HT.out], by first | rfl | trivial⟩
          case measure => simp [intOf]; omega
        · have hd2 : decide (T < 0) = false := decide_eq_false hT
          obtain rfl := t11 (by omega)
          clear t10 t11
          go_wp2_with fail
          go_roundw
          case rel => exact ⟨k + 1, by omega, by go_num, by rw [HT.out], by first | rfl | trivial⟩
          case measure => simp [intOf]; omega
      · have hd : decide (k < xs.length) = false := decide_eq_false hlt
        have hdi : decide ((k : Int) < (xs.length : Int)) = false := decide_eq_false (by omega)
        have HTT : Hid (mixF key (xs.take k) = mixF key xs) := by show _ = _; rw [List.take_of_length_le (by omega)]
        rw [HTT.out]
        go_wp2
        go_ret
        exact ⟨by rw [E.out] <;> rfl, rfl⟩
def chainL (key : Int) (xs : List Int) (n : Nat) : List Int := (List.range n).map fun k => mixF key (xs.take (k + 1))
theorem chainL_succ (key : Int) (xs : List Int) (n : Nat) : chainL key xs (n + 1) = chainL key xs n ++ [mixF key (xs.take (n + 1))] := by unfold chainL; rw [List.range_succ, List.map_append]; rfl
theorem chainL_len (key : Int) (xs : List Int) (n : Nat) : (chainL key xs n).length = n := by unfold chainL; simp
set_option maxRecDepth 100000 in
set_option maxHeartbeats 1600000 in
theorem callChainSums (A : Option Addr) (c : Nat) (xs : List Int) (key : Int) (w : World) (B : Nat) (hB : B ≤ w.heap.size) (hm : xs.length ≤ 1000) (hk : inB key 0 1048572 = true) (hr : Rd eInt w B A xs) :
    Calls Try.prog 96 #[.int .i64 key, .slice A xs.length c] w fun e w' => ∃ A' c', e = .returned (.slice A' (chainL key xs xs.length).length c') ∧ Own eInt 3 w' w.heap.size (.slice A' (chainL key xs xs.length).length c') (chainL key xs xs.length) ∧ Below w.heap.size w w' := by
  have HK := Lib.hid hk
  have HR := Lib.hid hr
  clear hr hk
  have M : Hid (∀ (key x : Int) (W : World), inB key 0 1048572 = true → Calls Try.prog 71 #[.int .i64 key, .slice (some ⟨W.heap.size, 0, none⟩) 1 1] (W.alloc (.cells #[.int .i64 x] 3)) fun e w' => e = .returned (.int .i64 (mixStep key x)) ∧ W.alloc (.cells #[.int .i64 x] 3) = w') := fun key x W h => by
    have := callSMix (some ⟨W.heap.size, 0, none⟩) 1 [x] key (W.alloc (.cells #[.int .i64 x] 3)) _ (by simp) (Rd.new (E := eInt) (xs := [x]) W _ _ rfl)
    rw [mixN_in h, mixF_one] at this
    exact this
  go_enter Try.func96, Try.ntmps96
  go_wp2_with fail
  go_loopw [0, 5, 6] (fun s v i wr => ∃ k : Nat, k ≤ xs.length ∧ i = .int .i64 k ∧ s = .int .i64 (mixF key (xs.take k)) ∧ Hid (Own eInt 3 wr w.heap.size v (chainL key xs k) ∧ Below w.heap.size w wr)) (fun _ _ i _ => xs.length - (intOf i).toNat)
  case atStart => exact ⟨0, by omega, rfl, rfl, ⟨Own.none_, below1 _ _⟩⟩
  case round =>
    obtain ⟨k, hk, rfl, rfl, HB⟩ := hrel
    have HIN := Lib.hid (mixF_in (xs.take k) key HK.out)
    by_cases hlt : k < xs.length
    · have hd : decide (k < xs.length) = true := decide_eq_true hlt
      have hdi : decide ((k : Int) < (xs.length : Int)) = true := decide_eq_true (by omega)
      have HT := Lib.hid (mixF_take (key := key) hlt)
      obtain ⟨K, hK⟩ : ∃ K, K = mixF key (xs.take k) := ⟨_, rfl⟩
      rw [← hK] at HT HIN
      obtain ⟨b, off, rfl, hbB, o1⟩ := (HR.out.below (HB.out.2.mono hB)).at1 rfl hlt rfl
      obtain ⟨x, hx⟩ : ∃ x, x = xs[k] := ⟨_, rfl⟩
      rw [← hx] at o1 HT
      rw [← hK]
      clear hx hK
      have C := Lib.hid (M.out K x wr HIN.out)
      have HS := Lib.hid (chainL_succ key xs k)
      rw [HT.out] at HS
      have hkl : (chainL key xs k).length ≤ 1000 := by rw [chainL_len]; omega
      have hin := HIN.out
      go_wp2_with (go_at_call 67; refine (callL1In _ _ _ _).mono ?_; rintro e w' ⟨rfl, rfl⟩)
      refine C.out.mono ?_
      rintro e w5 ⟨rfl, rfl⟩
      clear hin C
      have HB5 : Hid (Own eInt 3 (wr.alloc (.cells #[.int .i64 x] 3)) w.heap.size _ (chainL key xs k) ∧ Below w.heap.size w (wr.alloc (.cells #[.int .i64 x] 3))) := ⟨HB.out.1.alloc _, bel_trans HB.out.2 (below1 wr _)⟩
      obtain ⟨w5, hw5⟩ : ∃ w5, w5 = wr.alloc (.cells #[.int .i64 x] 3) := ⟨_, rfl⟩
      rw [← hw5] at HB5 ⊢
      clear hw5
      obtain ⟨N, hN⟩ : ∃ N, N = mixStep K x := ⟨_, rfl⟩
      rw [← hN] at HT HS
      rw [← hN]
      clear hN
      go_wp2_with (at_builtin; (refine wpList_app _ eiInt rfl (.tmp 25) (.tmp 27) rfl w.heap.size (HB5.out.1.alloc _) (Rd.new (E := eInt) (xs := [N]) _ _ _ rfl) rfl rfl rfl (by simp; omega) (by have := HB5.out.2.size; simp; omega) ?_; intro v' w7 row hown7 hg7 hrow7; have H7 : Hid (Own eInt 3 w7 w.heap.size v' (chainL key xs (k + 1)) ∧ Below w.heap.size w w7) := ⟨by rw [HS.out]; exact hown7, (bel_trans HB5.out.2 (below1 w5 _)).grown hg7 (by have := HB5.out.2.size; simp; omega) (fun k hk => (hrow7 k hk).1)⟩; clear hown7 hg7 hrow7))
      go_roundw
      case rel => exact ⟨k + 1, by omega, by go_num, by rw [HT.out], H7.out⟩
      case measure => simp [intOf]; omega
    · have hd : decide (k < xs.length) = false := decide_eq_false hlt
      have hdi : decide ((k : Int) < (xs.length : Int)) = false := decide_eq_false (by omega)
      obtain rfl : k = xs.length := by omega
      obtain ⟨A0, c0, hv, hc0, _⟩ := HB.out.1.form
      subst hv
      go_wp2
      go_ret
      exact ⟨A0, c0, rfl, HB.out.1, HB.out.2⟩
set_option maxHeartbeats 800000 in
theorem callL12Sum (A : Option Addr) (c : Nat) (xs : List Int) (key : Int) (w : World) (B : Nat) (hB : B ≤ w.heap.size) (hm : xs.length ≤ 1000) (hk : inB key 0 1048572 = true) (hr : Rd eInt w B A xs) :
    Calls Try.prog 68 #[.int .i64 key, .slice A xs.length c] w fun e w' => e = .returned (.int .i64 (mixF key xs)) ∧ Below w.heap.size w w' := by
  have C := Lib.hid (callChainSums A c xs key w B hB hm hk hr)
  have HL : Hid (0 < xs.length → (chainL key xs xs.length)[xs.length - 1]? = some (mixF key xs)) := fun h0 => by
    show (List.map _ _)[_]? = _
    rw [List.getElem?_map, List.getElem?_range (by omega)]
    show some (mixF key (xs.take (xs.length - 1 + 1))) = _
    rw [List.take_of_length_le (by omega)]
  have HN : Hid (xs.length = 0 → mixF key xs = key) := fun h => by rw [List.length_eq_zero_iff.1 h]; rfl
  have hcl := chainL_len key xs xs.length
  obtain ⟨ss, hss⟩ : ∃ ss, ss = chainL key xs xs.length := ⟨_, rfl⟩
  rw [← hss] at C HL hcl
  clear hss hr
  obtain ⟨r, hr⟩ : ∃ r, r = mixF key xs := ⟨_, rfl⟩
  rw [← hr] at HL HN ⊢
  have HCL := Lib.hid hcl
  clear hr hcl
  go_enter Try.func68, Try.ntmps68
  go_wp2_with fail
  refine C.out.mono ?_
  rintro e w1 ⟨A1, c1, rfl, hown1, hb1⟩
  have H1 := Lib.hid (And.intro hown1.rd hb1)
  clear hown1 hb1
  by_cases h0 : xs.length = 0
  · have e1 := HN.out h0
    subst e1
    have hs0 : ss.length = 0 := by have := HCL.out; omega
    have hs1 : ((ss.length : Int) == 0) = true := by rw [hs0]; rfl
    go_wp2
    go_ret
    exact ⟨rfl, H1.out.2⟩
  · have hs0 : 0 < ss.length := by have := HCL.out; omega
    obtain ⟨n, hn⟩ : ∃ n, ss.length = n + 1 := ⟨ss.length - 1, by omega⟩
    have hnx : xs.length - 1 = n := by have := HCL.out; omega
    have hln : n < ss.length := by omega
    have HE : Hid (ss[n] = r) := by
      have h := HL.out (by omega)
      rw [hnx, List.getElem?_eq_getElem hln] at h
      exact Option.some.inj h
    have hs1 : ((ss.length : Int) == 0) = false := by rw [beq_eq_false_iff_ne]; omega
    have hs2 : (ss.length : Int) - 1 = (n : Int) := by omega
    obtain ⟨b, off, rfl, hbB, o1⟩ := H1.out.1.at1 rfl hln rfl
    rw [HE.out] at o1
    have HNN := Lib.hid hn
    have hs3 : wrap64 (n : Int) = (n : Int) := (wrap64_at _).trans (IntWalk.i64_in _ (by omega))
    clear hn hnx HE HL
    go_wp2
    go_ret
    exact ⟨rfl, H1.out.2⟩
end Go.Proofs.Ytapkgncmjinedaa
