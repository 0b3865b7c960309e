/- Plain laws of modes: no program in sight. -/
import Derived.Test.YtapkgncmjinedaaMsa
import Derived.Test.YtapkgncmjinedaaMdt
namespace Go.Proofs.Ytapkgncmjinedaa
open Go.RowKit Go.Sort
theorem tabsOk_map {ts us : List Tab} {parts : Int} (h : us.map Tab.slots = ts.map Tab.slots) : tabsOk us parts = tabsOk ts parts := by
  have : ∀ l : List Tab, tabsOk l parts = (l.map Tab.slots).all fun s => sltsOk s parts := fun l => by
    unfold tabsOk; rw [List.all_map]; rfl
  rw [this, this, h]
theorem map_len {ts us : List Tab} (h : us.map Tab.slots = ts.map Tab.slots) : us.length = ts.length := by have := congrArg List.length h; simpa using this
theorem modOk_map {ts us : List Tab} {now next parts : Int} (h : us.map Tab.slots = ts.map Tab.slots) : modOk us now next parts = modOk ts now next parts := by
  unfold modOk
  rw [tabsOk_map h, map_len h]
theorem modOk_mk {ts : List Tab} {now next now' next' parts : Int} (h : modOk ts now next parts = true) (h1 : 0 ≤ now') (h2 : now' ≤ (ts.length : Int) - 1) (h3 : -1 ≤ next') (h4 : next' ≤ (ts.length : Int) - 1) : modOk ts now' next' parts = true := by
  have := modOk_next h
  unfold modOk at h ⊢
  rw [Bool.and_eq_true, Bool.and_eq_true, Bool.and_eq_true] at h ⊢
  exact ⟨⟨⟨h.1.1.1, inB_iff.2 ⟨h1, h2⟩⟩, inB_iff.2 ⟨h3, h4⟩⟩, h.2⟩
theorem endNow_bd {ts : List Tab} {now next parts : Int} (h : modOk ts now next parts = true) : 0 ≤ endNow now next ∧ endNow now next ≤ (ts.length : Int) - 1 := by
  have := modOk_next h
  unfold endNow; split <;> omega
theorem modOk_end {ts : List Tab} {now next parts : Int} (h : modOk ts now next parts = true) : modOk ts (endNow now next) (-1) parts = true := by
  have := modOk_next h
  have := endNow_bd h
  exact modOk_mk h this.1 this.2 (by omega) (by omega)
theorem endFrame_ok {ts : List Tab} {now next parts : Int} (h : modOk ts now next parts = true) : endFrame ts now next parts = (ts.map Tab.slots, endNow now next, -1) := by
  unfold endFrame; rw [if_pos h]
theorem endFrame_bad {ts : List Tab} {now next parts : Int} (h : modOk ts now next parts = false) : endFrame ts now next parts = ([], 0, 0) := by
  unfold endFrame; rw [h]; rfl
/-- A second end changes nothing. -/
theorem endFrame_again {ts us : List Tab} {now next parts : Int} (h : modOk ts now next parts = true) (hm : us.map Tab.slots = ts.map Tab.slots) : endFrame us (endNow now next) (-1) parts = (us.map Tab.slots, endNow now next, -1) := by
  rw [endFrame_ok (by rw [modOk_map hm]; exact modOk_end h)]
  rfl
theorem askMode_ok {ts : List Tab} {now next parts n : Int} (h : modOk ts now next parts = true) : askMode ts now next parts n = (ts.map Tab.slots, now, askNext ts.length next n, inB n 0 ((ts.length : Int) - 1)) := by
  unfold askMode; rw [if_pos h]
theorem askMode_bad {ts : List Tab} {now next parts n : Int} (h : modOk ts now next parts = false) : askMode ts now next parts n = ([], 0, 0, false) := by
  unfold askMode; rw [h]; rfl
theorem tabAt_map {ts us : List Tab} {now : Int} (h : us.map Tab.slots = ts.map Tab.slots) : (tabAt us now).slots = (tabAt ts now).slots := by
  unfold tabAt
  rw [List.getD_eq_getElem?_getD, List.getD_eq_getElem?_getD]
  have : (us[now.toNat]?).map Tab.slots = (ts[now.toNat]?).map Tab.slots := by rw [← List.getElem?_map, ← List.getElem?_map, h]
  rcases e1 : us[now.toNat]? with _ | a <;> rcases e2 : ts[now.toNat]? with _ | b <;> rw [e1, e2] at this <;> simp at this ⊢
  exact this
theorem modeTick_map {ts us : List Tab} {now next next' parts t : Int} (h : us.map Tab.slots = ts.map Tab.slots) (hv : modOk us now next' parts = modOk ts now next parts) : modeTick us now next' parts t = modeTick ts now next parts t := by
  unfold modeTick
  rw [tabAt_map h, hv]
end Go.Proofs.Ytapkgncmjinedaa
