/- slices.Clip, slices.Clone and the program's clone at the element types of this seat; what the append law asks of each type. -/
import Derived.Test.YtapkgncmjinedaaRows
import Derived.Test.YtapkgncmjinedaaData
namespace Go.Proofs.Ytapkgncmjinedaa
open Go.RowKit Go.Sort

theorem eiWin : EI Try.prog 79 78 eWin := EI.mk' Try.underlying79 (z := .agg #[.int .i64 0, .int .i64 0, .bool false]) (n := 24) (by kernel_rfl) (by decide) rfl
theorem infoWin : (Try.prog.info? 78).map (fun i => (i.zero, i.size, i.bytes)) = some (some (.agg #[.int .i64 0, .int .i64 0, .bool false]), eWin.sz, 24) := by kernel_rfl


theorem eiSlt : EI Try.prog 33 96 eSlt := EI.mk' Try.underlying33 (z := .agg #[.int .i64 0, .int .i64 0]) (n := 16) (by kernel_rfl) (by decide) rfl
theorem infoSlt : (Try.prog.info? 96).map (fun i => (i.zero, i.size, i.bytes)) = some (some (.agg #[.int .i64 0, .int .i64 0]), eSlt.sz, 16) := by kernel_rfl
theorem callClipSlt (A : Option Addr) (n c : Nat) (hn : n ≤ c) (w : World) :
    Calls Try.prog 112 #[.slice A n c] w fun e w' => e = .returned (.slice A n n) ∧ w = w' := by
  go_enter Try.func112, Try.ntmps112
  go_wp2
  go_ret
  refine ⟨?_, rfl⟩
  rcases A with _ | a
  · simp
  · simp
theorem callCloneSlt (A : Option Addr) (c : Nat) (xs : List Slt) (w : World) (B : Nat) (hB : B ≤ w.heap.size) (hc : xs.length ≤ c) (hm : xs.length ≤ 1048576) (hr : Rd eSlt w B A xs) :
    Calls Try.prog 113 #[.slice A xs.length c] w fun e w' => ∃ v, e = .returned v ∧ Own eSlt 96 w' w.heap.size v xs ∧ Below w.heap.size w w' := by
  have hnil := fun W => Lib.run_eql_slice_nil (P := Try.prog) W 33 96 A xs.length c 0 0 Try.underlying33
  cases hA : A.isNone
  · have hd : A.isNone = false := hA
    rw [hA] at hnil
    have HR : Hid (Rd eSlt (w.alloc (.cells #[] 96)) (w.alloc (.cells #[] 96)).heap.size A xs) := (hr.below ((below1 _ _).mono hB)).mono (by simp; omega)
    clear hr
    go_enter Try.func113, Try.ntmps113
    go_wp2_with (at_builtin; refine wpList_app _ eiSlt rfl (.tmp 5) (.tmp 6) rfl w.heap.size Own.none_ HR.out rfl rfl rfl (by simp; omega) (by simp) ?_; intro v' w4 row hown4 hg4 hrow4)
    go_ret
    exact ⟨v', rfl, by simpa using hown4, (below1 _ _).trans (below_of_row hg4 (fun k hk => (hrow4 k hk).1) (by simp))⟩
  · have hx : xs = [] := by
      apply Classical.byContradiction
      intro h
      obtain ⟨b, off, hA2, _⟩ := hr h
      rw [hA2] at hA; cases hA
    have hAn : A = none := by simpa using hA
    subst hx
    subst hAn
    clear hnil hA
    have hnil := fun W => Lib.run_eql_slice_nil (P := Try.prog) W 33 96 none 0 c 0 0 Try.underlying33
    go_enter Try.func113, Try.ntmps113
    go_wp2
    go_ret
    exact ⟨_, rfl, Own.nil, Below.refl _ _⟩
theorem callCopySlt (A : Option Addr) (c : Nat) (xs : List Slt) (w : World) (B : Nat) (hB : B ≤ w.heap.size) (hc : xs.length ≤ c) (hm : xs.length ≤ 1048576) (hr : Rd eSlt w B A xs) :
    Calls Try.prog 98 #[.slice A xs.length c] w fun e w' => ∃ A', e = .returned (.slice A' xs.length xs.length) ∧ Own eSlt 96 w' w.heap.size (.slice A' xs.length xs.length) xs ∧ Below w.heap.size w w' := by
  go_enter Try.func98, Try.ntmps98
  go_wp2_with fail
  refine (callCloneSlt A c xs _ B hB hc hm hr).mono ?_
  rintro e w1 ⟨v, rfl, hown, hb1⟩
  obtain ⟨A', c', hv, hc', _⟩ := hown.form
  subst hv
  have HO := Lib.hid hown.clip
  clear hown
  go_wp2_with fail
  refine (callClipSlt A' xs.length c' hc' _).mono ?_
  rintro e w2 ⟨rfl, rfl⟩
  go_wp2
  go_ret
  exact ⟨A', rfl, HO.out, hb1⟩



theorem eiInt : EI Try.prog 26 3 eInt := EI.mk' Try.underlying26 (z := .int .i64 0) (n := 8) (by kernel_rfl) (by decide) rfl
theorem infoInt : (Try.prog.info? 3).map (fun i => (i.zero, i.size, i.bytes)) = some (some (.int .i64 0), eInt.sz, 8) := by kernel_rfl
theorem callClipInt (A : Option Addr) (n c : Nat) (hn : n ≤ c) (w : World) :
    Calls Try.prog 58 #[.slice A n c] w fun e w' => e = .returned (.slice A n n) ∧ w = w' := by
  go_enter Try.func58, Try.ntmps58
  go_wp2
  go_ret
  refine ⟨?_, rfl⟩
  rcases A with _ | a
  · simp
  · simp
theorem callCloneInt (A : Option Addr) (c : Nat) (xs : List Int) (w : World) (B : Nat) (hB : B ≤ w.heap.size) (hc : xs.length ≤ c) (hm : xs.length ≤ 1048576) (hr : Rd eInt w B A xs) :
    Calls Try.prog 95 #[.slice A xs.length c] w fun e w' => ∃ v, e = .returned v ∧ Own eInt 3 w' w.heap.size v xs ∧ Below w.heap.size w w' := by
  have hnil := fun W => Lib.run_eql_slice_nil (P := Try.prog) W 26 3 A xs.length c 0 0 Try.underlying26
  cases hA : A.isNone
  · have hd : A.isNone = false := hA
    rw [hA] at hnil
    have HR : Hid (Rd eInt (w.alloc (.cells #[] 3)) (w.alloc (.cells #[] 3)).heap.size A xs) := (hr.below ((below1 _ _).mono hB)).mono (by simp; omega)
    clear hr
    go_enter Try.func95, Try.ntmps95
    go_wp2_with (at_builtin; refine wpList_app _ eiInt rfl (.tmp 5) (.tmp 6) rfl w.heap.size Own.none_ HR.out rfl rfl rfl (by simp; omega) (by simp) ?_; intro v' w4 row hown4 hg4 hrow4)
    go_ret
    exact ⟨v', rfl, by simpa using hown4, (below1 _ _).trans (below_of_row hg4 (fun k hk => (hrow4 k hk).1) (by simp))⟩
  · have hx : xs = [] := by
      apply Classical.byContradiction
      intro h
      obtain ⟨b, off, hA2, _⟩ := hr h
      rw [hA2] at hA; cases hA
    have hAn : A = none := by simpa using hA
    subst hx
    subst hAn
    clear hnil hA
    have hnil := fun W => Lib.run_eql_slice_nil (P := Try.prog) W 26 3 none 0 c 0 0 Try.underlying26
    go_enter Try.func95, Try.ntmps95
    go_wp2
    go_ret
    exact ⟨_, rfl, Own.nil, Below.refl _ _⟩
theorem callCopyInt (A : Option Addr) (c : Nat) (xs : List Int) (w : World) (B : Nat) (hB : B ≤ w.heap.size) (hc : xs.length ≤ c) (hm : xs.length ≤ 1048576) (hr : Rd eInt w B A xs) :
    Calls Try.prog 64 #[.slice A xs.length c] w fun e w' => ∃ A', e = .returned (.slice A' xs.length xs.length) ∧ Own eInt 3 w' w.heap.size (.slice A' xs.length xs.length) xs ∧ Below w.heap.size w w' := by
  go_enter Try.func64, Try.ntmps64
  go_wp2_with fail
  refine (callCloneInt A c xs _ B hB hc hm hr).mono ?_
  rintro e w1 ⟨v, rfl, hown, hb1⟩
  obtain ⟨A', c', hv, hc', _⟩ := hown.form
  subst hv
  have HO := Lib.hid hown.clip
  clear hown
  go_wp2_with fail
  refine (callClipInt A' xs.length c' hc' _).mono ?_
  rintro e w2 ⟨rfl, rfl⟩
  go_wp2
  go_ret
  exact ⟨A', rfl, HO.out, hb1⟩

theorem eiTab : EI Try.prog 23 33 eTab := EI.mk' Try.underlying23 (z := .slice none 0 0) (n := 24) (by kernel_rfl) (by decide) rfl
theorem infoTab : (Try.prog.info? 33).map (fun i => (i.zero, i.size, i.bytes)) = some (some (.slice none 0 0), eTab.sz, 24) := by kernel_rfl
theorem callClipTab (A : Option Addr) (n c : Nat) (hn : n ≤ c) (w : World) :
    Calls Try.prog 110 #[.slice A n c] w fun e w' => e = .returned (.slice A n n) ∧ w = w' := by
  go_enter Try.func110, Try.ntmps110
  go_wp2
  go_ret
  refine ⟨?_, rfl⟩
  rcases A with _ | a
  · simp
  · simp
theorem callCloneTab (A : Option Addr) (c : Nat) (xs : List Tab) (w : World) (B : Nat) (hB : B ≤ w.heap.size) (hc : xs.length ≤ c) (hm : xs.length ≤ 1048576) (hr : Rd eTab w B A xs) :
    Calls Try.prog 111 #[.slice A xs.length c] w fun e w' => ∃ v, e = .returned v ∧ Own eTab 33 w' w.heap.size v xs ∧ Below w.heap.size w w' := by
  have hnil := fun W => Lib.run_eql_slice_nil (P := Try.prog) W 23 33 A xs.length c 0 0 Try.underlying23
  cases hA : A.isNone
  · have hd : A.isNone = false := hA
    rw [hA] at hnil
    have HR : Hid (Rd eTab (w.alloc (.cells #[] 33)) (w.alloc (.cells #[] 33)).heap.size A xs) := (hr.below ((below1 _ _).mono hB)).mono (by simp; omega)
    clear hr
    go_enter Try.func111, Try.ntmps111
    go_wp2_with (at_builtin; refine wpList_app _ eiTab rfl (.tmp 5) (.tmp 6) rfl w.heap.size Own.none_ HR.out rfl rfl rfl (by simp; omega) (by simp) ?_; intro v' w4 row hown4 hg4 hrow4)
    go_ret
    exact ⟨v', rfl, by simpa using hown4, (below1 _ _).trans (below_of_row hg4 (fun k hk => (hrow4 k hk).1) (by simp))⟩
  · have hx : xs = [] := by
      apply Classical.byContradiction
      intro h
      obtain ⟨b, off, hA2, _⟩ := hr h
      rw [hA2] at hA; cases hA
    have hAn : A = none := by simpa using hA
    subst hx
    subst hAn
    clear hnil hA
    have hnil := fun W => Lib.run_eql_slice_nil (P := Try.prog) W 23 33 none 0 c 0 0 Try.underlying23
    go_enter Try.func111, Try.ntmps111
    go_wp2
    go_ret
    exact ⟨_, rfl, Own.nil, Below.refl _ _⟩
theorem callCopyTab (A : Option Addr) (c : Nat) (xs : List Tab) (w : World) (B : Nat) (hB : B ≤ w.heap.size) (hc : xs.length ≤ c) (hm : xs.length ≤ 1048576) (hr : Rd eTab w B A xs) :
    Calls Try.prog 97 #[.slice A xs.length c] w fun e w' => ∃ A', e = .returned (.slice A' xs.length xs.length) ∧ Own eTab 33 w' w.heap.size (.slice A' xs.length xs.length) xs ∧ Below w.heap.size w w' := by
  go_enter Try.func97, Try.ntmps97
  go_wp2_with fail
  refine (callCloneTab A c xs _ B hB hc hm hr).mono ?_
  rintro e w1 ⟨v, rfl, hown, hb1⟩
  obtain ⟨A', c', hv, hc', _⟩ := hown.form
  subst hv
  have HO := Lib.hid hown.clip
  clear hown
  go_wp2_with fail
  refine (callClipTab A' xs.length c' hc' _).mono ?_
  rintro e w2 ⟨rfl, rfl⟩
  go_wp2
  go_ret
  exact ⟨A', rfl, HO.out, hb1⟩



end Go.Proofs.Ytapkgncmjinedaa
