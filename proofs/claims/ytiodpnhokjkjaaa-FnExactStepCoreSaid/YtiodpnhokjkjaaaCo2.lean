/- Steps of the program's cores: the instruction that adds, for every input. -/
import Derived.Test.YtiodpnhokjkjaaaCoi
import Derived.Test.YtiodpnhokjkjaaaRgd
namespace Go.Proofs.Ytiodpnhokjkjaaa
open Go.RowKit Go.Sort

set_option maxRecDepth 100000 in
set_option maxHeartbeats 3200000 in
theorem callStep2 (X B0 base Bo : Nat) (A : Option Addr) (c : Nat) (cr : Cor) (Ao : Option Addr) (co : Nat) (os : List Ord3) (cells clock : Int) (w : World) (hX : w.heap[X]? = some (.cells #[.slice A cr.cs.length c, .int .i64 cr.at', .bool cr.stop] 33 (0, 0))) (hown : Own eInt 3 w base (.slice A cr.cs.length c) cr.cs)
    (hok : coreB cr os cells = true) (_hck : 0 ≤ clock) (h0 : B0 ≤ X) (h1 : B0 ≤ base) (h2 : B0 ≤ w.heap.size) (hBo : Bo ≤ B0) (hr : Rd eOrd w Bo Ao os) (hst : cr.stop = false) (hopx : (ordAt os cr.at').op = 2) :
    Calls Try.prog 57 #[.pointer (some ⟨X, 0, none⟩), .slice Ao os.length co, .int .i64 clock] w (StepRes w X B0 base A c cr os clock) := by
  obtain ⟨hp, hl, ⟨ha0, ha1⟩, hv⟩ := coreB_iff.1 hok
  obtain ⟨⟨hn0, hn1⟩, ⟨hc0, hc1⟩, _⟩ := progB_iff.1 hp
  obtain ⟨k, hk⟩ := Int.eq_ofNat_of_zero_le ha0
  have hkl : k < os.length := by omega
  have hob := (ordAt_ok hp ha0 ha1).1
  have hXw := (cell3 hX).2.2.2.2.2.2
  obtain ⟨cs, at0, st⟩ := cr
  simp only at hst
  subst hst
  simp only at hX hown hl ha0 ha1 hv hk hob hopx
  subst hk
  have HCO : Hid (corOrd ⟨cs, (k : Int), false⟩ os = ordAt os k) := rfl
  have HCS : Hid (corStep ⟨cs, (k : Int), false⟩ os clock = corDo ⟨cs, (k : Int), false⟩ os clock (ordAt os k)) := rfl
  have HOA := Lib.hid (ordAt_get hkl)
  obtain ⟨b, off, rfl, hbB, o1, o2, o3⟩ := hr.at3 rfl hkl rfl
  rw [← HOA.out] at o1 o2 o3
  obtain ⟨o, ho⟩ : ∃ o, o = ordAt os (k : Int) := ⟨_, rfl⟩
  rw [← ho] at HCO HCS hob o1 o2 o3 hopx
  clear ho HOA
  obtain ⟨op, a, b'⟩ := o
  simp only at o1 o2 o3 hopx
  subst hopx
  obtain ⟨x0, x1, x2, x3, x4, x5, x6⟩ := cell3 hX
  have HX := Lib.hid hX
  have HO := Lib.hid hown
  have hbw : b < w.heap.size := by omega
  clear hX hown hok hp
  go_enter Try.func57, Try.ntmps57
  go_upto_region 5 with (fail)
  have S0 : Hid (STC w X B0 base A c (k : Int) false cs (w.heap.size + 1) ⟨2, a, b'⟩ ((w.alloc (.cells #[.int .i64 0, .int .i64 0, .int .i64 0] 41)).alloc (.cells #[.int .i64 2, .int .i64 a, .int .i64 b'] 41))) :=
    ⟨(below2 _ _ _).mono h2, blkc HX.out (below2 _ _ _), HO.out.next (below2 _ _ _), alloc_at0 _ _ _, alloc_at1 _ _ _, h0, h1, Nat.lt_succ_self _⟩
  obtain ⟨u, hu⟩ : ∃ u, u = ((w.alloc (.cells #[.int .i64 0, .int .i64 0, .int .i64 0] 41)).alloc (.cells #[.int .i64 2, .int .i64 a, .int .i64 b'] 41)) := ⟨_, rfl⟩
  rw [← hu] at S0 ⊢
  clear hu x0 x1 x2 x3 x4 x5 x6 HX HO o1 o2 o3
  obtain ⟨nx, hnx⟩ : ∃ nx, nx = ((k : Int) + 1) % (os.length : Int) := ⟨_, rfl⟩
  rw [← hnx]
  have HNX := Lib.hid hnx
  clear hnx
  obtain ⟨x0, x1, x2, x3, x4, x5, x6⟩ := cell3 S0.out.box
  obtain ⟨z0, z1, z2, z3, z4, z5, z6⟩ := cell3 S0.out.ord
  have hcl : 0 < cs.length := by omega
  have hcne : cs ≠ [] := by intro e; simp [e] at hcl
  obtain ⟨A', c', hA, _, hgg⟩ := S0.out.own.form
  injection hA with hA1 hA2 hA3
  subst hA1 hA3
  obtain ⟨g, rfl, hg1, hg2⟩ := hgg hcne
  clear hA2 hgg
  have HOB := Lib.hid hob
  have HFR := Lib.hid (fun i => S0.out.own.frozen (o := i) hcne)
  have HCE := Lib.hid (fun i (hi : i < cs.length) => S0.out.own.rd.at1 rfl hi rfl)
  clear hob hcne
  have habi := ordB_a HOB.out (.inr (.inl rfl))
  simp only at habi
  obtain ⟨i, rfl⟩ := Int.eq_ofNat_of_zero_le habi.1
  have hic : i < cs.length := by omega
  have hi1 : (i : Int) < (cs.length : Int) := by omega
  have hi0 : (0 : Int) ≤ (i : Int) := by omega
  have habj := ordB_b HOB.out (.inl rfl)
  simp only at habj
  obtain ⟨j, rfl⟩ := Int.eq_ofNat_of_zero_le habj.1
  have hjc : j < cs.length := by omega
  have hj1 : (j : Int) < (cs.length : Int) := by omega
  have hj0 : (0 : Int) ≤ (j : Int) := by omega
  have hfr := HFR.out i
  obtain ⟨_, _, hA, _, hcei⟩ := HCE.out i hic
  simp only [Option.some.injEq, Addr.mk.injEq, and_true] at hA
  obtain ⟨rfl, rfl⟩ := hA
  rw [Nat.zero_add] at hcei
  have hvi := inB_iff.1 (hv _ (List.getElem_mem hic))
  have HGi := Lib.hid (celAt_get hic)
  obtain ⟨ci, hci⟩ : ∃ ci, ci = cs[i] := ⟨_, rfl⟩
  rw [← hci] at hcei HGi hvi
  clear hci
  obtain ⟨_, _, hA, _, hcej⟩ := HCE.out j hjc
  simp only [Option.some.injEq, Addr.mk.injEq, and_true] at hA
  obtain ⟨rfl, rfl⟩ := hA
  rw [Nat.zero_add] at hcej
  have hvj := inB_iff.1 (hv _ (List.getElem_mem hjc))
  have HGj := Lib.hid (celAt_get hjc)
  obtain ⟨cj, hcj⟩ : ∃ cj, cj = cs[j] := ⟨_, rfl⟩
  rw [← hcj] at hcej HGj hvj
  clear hcj
  obtain ⟨s, hs⟩ : ∃ s, s = (ci + cj) % 256 := ⟨_, rfl⟩
  have hw1 : IntKind.i64.wrap (ci + cj) = ci + cj := IntWalk.i64_in _ (by omega)
  have hw2 : (ci + cj).tmod 256 = s := by rw [hs]; exact Int.tmod_eq_emod_of_nonneg (by omega)
  have hw3 : IntKind.i64.wrap s = s := IntWalk.i64_in _ (by omega)
  have HCD : Hid (corDo ⟨cs, (k : Int), false⟩ os clock ⟨2, (i : Int), (j : Int)⟩ = ⟨cs.set i s, nx, false⟩) := by
    show corDo _ _ _ _ = _
    have e : corDo ⟨cs, (k : Int), false⟩ os clock ⟨2, (i : Int), (j : Int)⟩ = ⟨cs.set i ((celAt cs i + celAt cs j) % 256), ((k : Int) + 1) % (os.length : Int), false⟩ := rfl
    rw [e, HGi.out, HGj.out, ← hs, HNX.out]
  clear hs
  have HLL := Lib.hid hl
  clear hl
  go_upto_region 9 with (fail)
  obtain ⟨U, hU⟩ : ∃ U, U = u.drew := ⟨_, rfl⟩
  obtain ⟨FW, hFW⟩ : ∃ FW, FW = (u.setCell ⟨g, i, none⟩ (.int .i64 s)).drew := ⟨_, rfl⟩
  refine wp_region_each (N := 124) (kk := 25) (J := fun _ s W => s = false → W = U) (V := VAt [fun _ v => v = (.pointer (some ⟨X, 0, none⟩)), fun _ v => v = (.pointer (some ⟨X, 0, none⟩)), fun _ v => v = (.pointer (some ⟨X, 0, none⟩)), fun _ v => v = (.slice (some ⟨g, 0, none⟩) cs.length c), fun _ v => v = (.pointer (some ⟨w.heap.size + 1, 1, none⟩)), fun _ v => v = (.int .i64 (i : Int)), fun _ v => v = (.pointer (some ⟨X, 0, none⟩)), fun _ v => v = (.pointer (some ⟨X, 0, none⟩)), fun _ v => v = (.pointer (some ⟨X, 0, none⟩)), fun _ v => v = (.slice (some ⟨g, 0, none⟩) cs.length c), fun _ v => v = (.pointer (some ⟨w.heap.size + 1, 1, none⟩)), fun _ v => v = (.int .i64 (i : Int)), fun _ v => v = (.pointer (some ⟨g, i, none⟩)), fun _ v => v = (.int .i64 ci), fun _ v => v = (.pointer (some ⟨X, 0, none⟩)), fun _ v => v = (.pointer (some ⟨X, 0, none⟩)), fun _ v => v = (.pointer (some ⟨X, 0, none⟩)), fun _ v => v = (.slice (some ⟨g, 0, none⟩) cs.length c), fun _ v => v = (.pointer (some ⟨w.heap.size + 1, 2, none⟩)), fun _ v => v = (.int .i64 (j : Int)), fun _ v => v = (.pointer (some ⟨g, j, none⟩)), fun _ v => v = (.int .i64 cj), fun _ v => v = (.int .i64 (ci + cj)), fun _ v => v = (.int .i64 s), fun _ v => v = (.pointer (some ⟨g, i, none⟩)), fun W _ => W = FW]) (Ext := fun w w' => w = FW → w' = FW) (by kernel_rfl) (by kernel_rfl) (by rfl) ?_ (fun _ => hU.symm) ?_ ?_
  · have hs : ∀ (Vs : List (World → Value → Prop)), AllP (fun p => ∀ w w' u, (w = FW → w' = FW) → p w u → p w' u) Vs → ∀ j w w' u, (w = FW → w' = FW) → VAt Vs j w u → VAt Vs j w' u := fun Vs hV j w w' u e h => by
      unfold VAt at *
      rw [List.getD_eq_getElem?_getD] at *
      cases hj : Vs[j]? with
      | none => trivial
      | some p => rw [hj] at h; exact AllP.mem hV p (List.mem_of_getElem? hj) w w' u e h
    exact hs _ ⟨(fun _ _ _ _ h => h), (fun _ _ _ _ h => h), (fun _ _ _ _ h => h), (fun _ _ _ _ h => h), (fun _ _ _ _ h => h), (fun _ _ _ _ h => h), (fun _ _ _ _ h => h), (fun _ _ _ _ h => h), (fun _ _ _ _ h => h), (fun _ _ _ _ h => h), (fun _ _ _ _ h => h), (fun _ _ _ _ h => h), (fun _ _ _ _ h => h), (fun _ _ _ _ h => h), (fun _ _ _ _ h => h), (fun _ _ _ _ h => h), (fun _ _ _ _ h => h), (fun _ _ _ _ h => h), (fun _ _ _ _ h => h), (fun _ _ _ _ h => h), (fun _ _ _ _ h => h), (fun _ _ _ _ h => h), (fun _ _ _ _ h => h), (fun _ _ _ _ h => h), (fun _ _ _ _ h => h), (fun _ _ _ e h => e h), trivial⟩
  · refine ⟨?_, ?_, ?_, ?_, ?_, ?_, ?_, ?_, ?_, ?_, ?_, ?_, ?_, ?_, ?_, ?_, ?_, ?_, ?_, ?_, ?_, ?_, ?_, ?_, ?_, ?_, trivial⟩
    all_goals intro nn sf aa WW hJ hks hkd hold hdep K hK
    · have e0 := ev (show aa.eval (.tmp 0) = .pointer (some ⟨X, 0, none⟩) from hold 0 (by kernel_rfl))
      have hW := hJ (hkd (by kernel_rfl))
      subst hW
      rw [hU]
      unfold Oper.wp execOp
      go_simp
      rw [← hU]
      exact hK (.pointer (some ⟨X, 0, none⟩)) _ (fun _ => rfl) rfl (fun h => h)
    · have e44 := ev (show aa.eval (.tmp 44) = .pointer (some ⟨X, 0, none⟩) from hdep 0 (by kernel_rfl) _ rfl)
      have hW := hJ (hkd (by kernel_rfl))
      subst hW
      rw [hU]
      unfold Oper.wp execOp
      go_simp
      rw [← hU]
      exact hK (.pointer (some ⟨X, 0, none⟩)) _ (fun _ => rfl) rfl (fun h => h)
    · have e45 := ev (show aa.eval (.tmp 45) = .pointer (some ⟨X, 0, none⟩) from hdep 1 (by kernel_rfl) _ rfl)
      have hW := hJ (hkd (by kernel_rfl))
      subst hW
      rw [hU]
      unfold Oper.wp execOp
      go_simp
      rw [← hU]
      exact hK (.pointer (some ⟨X, 0, none⟩)) _ (fun _ => rfl) rfl (fun h => h)
    · have e46 := ev (show aa.eval (.tmp 46) = .pointer (some ⟨X, 0, none⟩) from hdep 2 (by kernel_rfl) _ rfl)
      have hW := hJ (hkd (by kernel_rfl))
      subst hW
      rw [hU]
      unfold Oper.wp execOp
      go_simp
      rw [← hU]
      exact hK (.slice (some ⟨g, 0, none⟩) cs.length c) _ (fun _ => rfl) rfl (fun h => h)
    · have e7 := ev (show aa.eval (.tmp 7) = .pointer (some ⟨w.heap.size + 1, 0, none⟩) from hold 7 (by kernel_rfl))
      have hW := hJ (hkd (by kernel_rfl))
      subst hW
      rw [hU]
      unfold Oper.wp execOp
      go_simp
      rw [← hU]
      exact hK (.pointer (some ⟨w.heap.size + 1, 1, none⟩)) _ (fun _ => rfl) rfl (fun h => h)
    · have e48 := ev (show aa.eval (.tmp 48) = .pointer (some ⟨w.heap.size + 1, 1, none⟩) from hdep 4 (by kernel_rfl) _ rfl)
      have hW := hJ (hkd (by kernel_rfl))
      subst hW
      rw [hU]
      unfold Oper.wp execOp
      go_simp
      rw [← hU]
      exact hK (.int .i64 (i : Int)) _ (fun _ => rfl) rfl (fun h => h)
    · have e0 := ev (show aa.eval (.tmp 0) = .pointer (some ⟨X, 0, none⟩) from hold 0 (by kernel_rfl))
      have hW := hJ (hkd (by kernel_rfl))
      subst hW
      rw [hU]
      unfold Oper.wp execOp
      go_simp
      rw [← hU]
      exact hK (.pointer (some ⟨X, 0, none⟩)) _ (fun _ => rfl) rfl (fun h => h)
    · have e50 := ev (show aa.eval (.tmp 50) = .pointer (some ⟨X, 0, none⟩) from hdep 6 (by kernel_rfl) _ rfl)
      have hW := hJ (hkd (by kernel_rfl))
      subst hW
      rw [hU]
      unfold Oper.wp execOp
      go_simp
      rw [← hU]
      exact hK (.pointer (some ⟨X, 0, none⟩)) _ (fun _ => rfl) rfl (fun h => h)
    · have e51 := ev (show aa.eval (.tmp 51) = .pointer (some ⟨X, 0, none⟩) from hdep 7 (by kernel_rfl) _ rfl)
      have hW := hJ (hkd (by kernel_rfl))
      subst hW
      rw [hU]
      unfold Oper.wp execOp
      go_simp
      rw [← hU]
      exact hK (.pointer (some ⟨X, 0, none⟩)) _ (fun _ => rfl) rfl (fun h => h)
    · have e52 := ev (show aa.eval (.tmp 52) = .pointer (some ⟨X, 0, none⟩) from hdep 8 (by kernel_rfl) _ rfl)
      have hW := hJ (hkd (by kernel_rfl))
      subst hW
      rw [hU]
      unfold Oper.wp execOp
      go_simp
      rw [← hU]
      exact hK (.slice (some ⟨g, 0, none⟩) cs.length c) _ (fun _ => rfl) rfl (fun h => h)
    · have e7 := ev (show aa.eval (.tmp 7) = .pointer (some ⟨w.heap.size + 1, 0, none⟩) from hold 7 (by kernel_rfl))
      have hW := hJ (hkd (by kernel_rfl))
      subst hW
      rw [hU]
      unfold Oper.wp execOp
      go_simp
      rw [← hU]
      exact hK (.pointer (some ⟨w.heap.size + 1, 1, none⟩)) _ (fun _ => rfl) rfl (fun h => h)
    · have e54 := ev (show aa.eval (.tmp 54) = .pointer (some ⟨w.heap.size + 1, 1, none⟩) from hdep 10 (by kernel_rfl) _ rfl)
      have hW := hJ (hkd (by kernel_rfl))
      subst hW
      rw [hU]
      unfold Oper.wp execOp
      go_simp
      rw [← hU]
      exact hK (.int .i64 (i : Int)) _ (fun _ => rfl) rfl (fun h => h)
    · have e53 := ev (show aa.eval (.tmp 53) = .slice (some ⟨g, 0, none⟩) cs.length c from hdep 9 (by kernel_rfl) _ rfl)
      have e55 := ev (show aa.eval (.tmp 55) = .int .i64 (i : Int) from hdep 11 (by kernel_rfl) _ rfl)
      have hW := hJ (hkd (by kernel_rfl))
      subst hW
      rw [hU]
      unfold Oper.wp execOp
      go_simp
      rw [← hU]
      exact hK (.pointer (some ⟨g, i, none⟩)) _ (fun _ => rfl) rfl (fun h => h)
    · have e56 := ev (show aa.eval (.tmp 56) = .pointer (some ⟨g, i, none⟩) from hdep 12 (by kernel_rfl) _ rfl)
      have hW := hJ (hkd (by kernel_rfl))
      subst hW
      rw [hU]
      unfold Oper.wp execOp
      go_simp
      rw [← hU]
      exact hK (.int .i64 ci) _ (fun _ => rfl) rfl (fun h => h)
    · have e0 := ev (show aa.eval (.tmp 0) = .pointer (some ⟨X, 0, none⟩) from hold 0 (by kernel_rfl))
      have hW := hJ (hkd (by kernel_rfl))
      subst hW
      rw [hU]
      unfold Oper.wp execOp
      go_simp
      rw [← hU]
      exact hK (.pointer (some ⟨X, 0, none⟩)) _ (fun _ => rfl) rfl (fun h => h)
    · have e58 := ev (show aa.eval (.tmp 58) = .pointer (some ⟨X, 0, none⟩) from hdep 14 (by kernel_rfl) _ rfl)
      have hW := hJ (hkd (by kernel_rfl))
      subst hW
      rw [hU]
      unfold Oper.wp execOp
      go_simp
      rw [← hU]
      exact hK (.pointer (some ⟨X, 0, none⟩)) _ (fun _ => rfl) rfl (fun h => h)
    · have e59 := ev (show aa.eval (.tmp 59) = .pointer (some ⟨X, 0, none⟩) from hdep 15 (by kernel_rfl) _ rfl)
      have hW := hJ (hkd (by kernel_rfl))
      subst hW
      rw [hU]
      unfold Oper.wp execOp
      go_simp
      rw [← hU]
      exact hK (.pointer (some ⟨X, 0, none⟩)) _ (fun _ => rfl) rfl (fun h => h)
    · have e60 := ev (show aa.eval (.tmp 60) = .pointer (some ⟨X, 0, none⟩) from hdep 16 (by kernel_rfl) _ rfl)
      have hW := hJ (hkd (by kernel_rfl))
      subst hW
      rw [hU]
      unfold Oper.wp execOp
      go_simp
      rw [← hU]
      exact hK (.slice (some ⟨g, 0, none⟩) cs.length c) _ (fun _ => rfl) rfl (fun h => h)
    · have e7 := ev (show aa.eval (.tmp 7) = .pointer (some ⟨w.heap.size + 1, 0, none⟩) from hold 7 (by kernel_rfl))
      have hW := hJ (hkd (by kernel_rfl))
      subst hW
      rw [hU]
      unfold Oper.wp execOp
      go_simp
      rw [← hU]
      exact hK (.pointer (some ⟨w.heap.size + 1, 2, none⟩)) _ (fun _ => rfl) rfl (fun h => h)
    · have e62 := ev (show aa.eval (.tmp 62) = .pointer (some ⟨w.heap.size + 1, 2, none⟩) from hdep 18 (by kernel_rfl) _ rfl)
      have hW := hJ (hkd (by kernel_rfl))
      subst hW
      rw [hU]
      unfold Oper.wp execOp
      go_simp
      rw [← hU]
      exact hK (.int .i64 (j : Int)) _ (fun _ => rfl) rfl (fun h => h)
    · have e61 := ev (show aa.eval (.tmp 61) = .slice (some ⟨g, 0, none⟩) cs.length c from hdep 17 (by kernel_rfl) _ rfl)
      have e63 := ev (show aa.eval (.tmp 63) = .int .i64 (j : Int) from hdep 19 (by kernel_rfl) _ rfl)
      have hW := hJ (hkd (by kernel_rfl))
      subst hW
      rw [hU]
      unfold Oper.wp execOp
      go_simp
      rw [← hU]
      exact hK (.pointer (some ⟨g, j, none⟩)) _ (fun _ => rfl) rfl (fun h => h)
    · have e64 := ev (show aa.eval (.tmp 64) = .pointer (some ⟨g, j, none⟩) from hdep 20 (by kernel_rfl) _ rfl)
      have hW := hJ (hkd (by kernel_rfl))
      subst hW
      rw [hU]
      unfold Oper.wp execOp
      go_simp
      rw [← hU]
      exact hK (.int .i64 cj) _ (fun _ => rfl) rfl (fun h => h)
    · have e57 := ev (show aa.eval (.tmp 57) = .int .i64 ci from hdep 13 (by kernel_rfl) _ rfl)
      have e65 := ev (show aa.eval (.tmp 65) = .int .i64 cj from hdep 21 (by kernel_rfl) _ rfl)
      have hW := hJ (hkd (by kernel_rfl))
      subst hW
      rw [hU]
      unfold Oper.wp execOp
      go_simp
      rw [← hU]
      exact hK (.int .i64 (ci + cj)) _ (fun _ => rfl) rfl (fun h => h)
    · have e66 := ev (show aa.eval (.tmp 66) = .int .i64 (ci + cj) from hdep 22 (by kernel_rfl) _ rfl)
      have hW := hJ (hkd (by kernel_rfl))
      subst hW
      rw [hU]
      unfold Oper.wp execOp
      go_simp
      rw [← hU]
      exact hK (.int .i64 s) _ (fun _ => rfl) rfl (fun h => h)
    · have e47 := ev (show aa.eval (.tmp 47) = .slice (some ⟨g, 0, none⟩) cs.length c from hdep 3 (by kernel_rfl) _ rfl)
      have e49 := ev (show aa.eval (.tmp 49) = .int .i64 (i : Int) from hdep 5 (by kernel_rfl) _ rfl)
      have hW := hJ (hkd (by kernel_rfl))
      subst hW
      rw [hU]
      unfold Oper.wp execOp
      go_simp
      rw [← hU]
      exact hK (.pointer (some ⟨g, i, none⟩)) _ (fun _ => rfl) rfl (fun h => h)
    · have e68 := ev (show aa.eval (.tmp 68) = .pointer (some ⟨g, i, none⟩) from hdep 24 (by kernel_rfl) _ rfl)
      have e67 := ev (show aa.eval (.tmp 67) = .int .i64 s from hdep 23 (by kernel_rfl) _ rfl)
      have hW := hJ (hks rfl)
      subst hW
      rw [hU]
      unfold Oper.wp execOp
      go_simp
      exact hK undef _ (fun e => by simp at e) (by rw [hFW] <;> rfl) (fun _ => by rw [hFW] <;> rfl)
  · intro vs nn sf wx hJ hv
    have hfin : wx = FW := hv 25 _ rfl
    subst hfin
    clear hv hJ
    rw [hFW]
    clear hFW hU
    simp only [putAll]
    clear hcei hcej hfr hw1 hw2 hw3
    have S1a := Lib.hid (S0.out.setc hic s).drew
    obtain ⟨u1, hu1⟩ : ∃ u1, u1 = (u.setCell ⟨g, i, none⟩ (.int .i64 s)).drew := ⟨_, rfl⟩
    rw [← hu1] at S1a ⊢
    have S1 := S1a
    clear hu1
    have S2 := Lib.hid (S1.out.at nx hXw)
    have HF := Lib.hid (S2.out.fin hXw h2 (.int .i64 2) (.int .i64 (i : Int)) (.int .i64 (j : Int)))
    clear x0 x1 x2 x3 x4 x5 x6 z0 z1 z2 z3 z4 z5 z6
    obtain ⟨x0, x1, x2, x3, x4, x5, x6⟩ := cell3 S1.out.box
    obtain ⟨z0, z1, z2, z3, z4, z5, z6⟩ := cell3 S2.out.ord
    obtain ⟨w0', w1', w2', w3', w4', w5', w6'⟩ := cell3 S1.out.ord
    obtain ⟨y0, y1, y2, y3, y4, y5, y6⟩ := cell3 S2.out.res
    obtain ⟨s0, s1, s2⟩ := res3 S2.out.res (.int .i64 2) (.int .i64 (i : Int)) (.int .i64 (j : Int))
    go_wp2
    exact bodyPost_ret (v := .agg #[.int .i64 2, .int .i64 (i : Int), .int .i64 (j : Int)]) (by simp [results, Try.results57, go_sem, s0, s1, s2]) rfl ⟨by rw [HCO.out], by rw [HCS.out, HCD.out]; exact HF.out.1, by rw [HCS.out, HCD.out]; exact HF.out.2.1, HF.out.2.2⟩
end Go.Proofs.Ytiodpnhokjkjaaa
