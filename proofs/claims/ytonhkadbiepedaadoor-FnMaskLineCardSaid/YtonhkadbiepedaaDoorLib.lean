/- slices.Clip, slices.Clone and the program's clone at the element types of this seat; what the append law asks of each type. -/
import Derived.Test.YtonhkadbiepedaaDoorRows
import Derived.Test.YtonhkadbiepedaaDoorData
namespace Go.Proofs.YtonhkadbiepedaaDoor
open Go.RowKit Go.Sort

theorem eiWin : EI Tryd.prog 48 47 eWin := EI.mk' Tryd.underlying48 (z := .agg #[.int .i64 0, .int .i64 0, .bool false]) (n := 24) (by kernel_rfl) (by decide) rfl
theorem infoWin : (Tryd.prog.info? 47).map (fun i => (i.zero, i.size, i.bytes)) = some (some (.agg #[.int .i64 0, .int .i64 0, .bool false]), eWin.sz, 24) := by kernel_rfl





theorem eiInt : EI Tryd.prog 30 3 eInt := EI.mk' Tryd.underlying30 (z := .int .i64 0) (n := 8) (by kernel_rfl) (by decide) rfl
theorem infoInt : (Tryd.prog.info? 3).map (fun i => (i.zero, i.size, i.bytes)) = some (some (.int .i64 0), eInt.sz, 8) := by kernel_rfl
theorem callClipInt (A : Option Addr) (n c : Nat) (hn : n ≤ c) (w : World) :
    Calls Tryd.prog 36 #[.slice A n c] w fun e w' => e = .returned (.slice A n n) ∧ w = w' := by
  go_enter Tryd.func36, Tryd.ntmps36
  go_wp2
  go_ret
  refine ⟨?_, rfl⟩
  rcases A with _ | a
  · simp
  · simp
theorem callCloneInt (A : Option Addr) (c : Nat) (xs : List Int) (w : World) (B : Nat) (hB : B ≤ w.heap.size) (hc : xs.length ≤ c) (hm : xs.length ≤ 1048576) (hr : Rd eInt w B A xs) :
    Calls Tryd.prog 37 #[.slice A xs.length c] w fun e w' => ∃ v, e = .returned v ∧ Own eInt 3 w' w.heap.size v xs ∧ Below w.heap.size w w' := by
  have hnil := fun W => Lib.run_eql_slice_nil (P := Tryd.prog) W 30 3 A xs.length c 0 0 Tryd.underlying30
  cases hA : A.isNone
  · have hd : A.isNone = false := hA
    rw [hA] at hnil
    have HR : Hid (Rd eInt (w.alloc (.cells #[] 3)) (w.alloc (.cells #[] 3)).heap.size A xs) := (hr.below ((below1 _ _).mono hB)).mono (by simp; omega)
    clear hr
    go_enter Tryd.func37, Tryd.ntmps37
    go_wp2_with (at_builtin; refine wpList_app _ eiInt rfl (.tmp 5) (.tmp 6) rfl w.heap.size Own.none_ HR.out rfl rfl rfl (by simp; omega) (by simp) ?_; intro v' w4 row hown4 hg4 hrow4)
    go_ret
    exact ⟨v', rfl, by simpa using hown4, (below1 _ _).trans (below_of_row hg4 (fun k hk => (hrow4 k hk).1) (by simp))⟩
  · have hx : xs = [] := by
      apply Classical.byContradiction
      intro h
      obtain ⟨b, off, hA2, _⟩ := hr h
      rw [hA2] at hA; cases hA
    have hAn : A = none := by simpa using hA
    subst hx
    subst hAn
    clear hnil hA
    have hnil := fun W => Lib.run_eql_slice_nil (P := Tryd.prog) W 30 3 none 0 c 0 0 Tryd.underlying30
    go_enter Tryd.func37, Tryd.ntmps37
    go_wp2
    go_ret
    exact ⟨_, rfl, Own.nil, Below.refl _ _⟩
theorem callCopyInt (A : Option Addr) (c : Nat) (xs : List Int) (w : World) (B : Nat) (hB : B ≤ w.heap.size) (hc : xs.length ≤ c) (hm : xs.length ≤ 1048576) (hr : Rd eInt w B A xs) :
    Calls Tryd.prog 27 #[.slice A xs.length c] w fun e w' => ∃ A', e = .returned (.slice A' xs.length xs.length) ∧ Own eInt 3 w' w.heap.size (.slice A' xs.length xs.length) xs ∧ Below w.heap.size w w' := by
  go_enter Tryd.func27, Tryd.ntmps27
  go_wp2_with fail
  refine (callCloneInt A c xs _ B hB hc hm hr).mono ?_
  rintro e w1 ⟨v, rfl, hown, hb1⟩
  obtain ⟨A', c', hv, hc', _⟩ := hown.form
  subst hv
  have HO := Lib.hid hown.clip
  clear hown
  go_wp2_with fail
  refine (callClipInt A' xs.length c' hc' _).mono ?_
  rintro e w2 ⟨rfl, rfl⟩
  go_wp2
  go_ret
  exact ⟨A', rfl, HO.out, hb1⟩




end Go.Proofs.YtonhkadbiepedaaDoor
