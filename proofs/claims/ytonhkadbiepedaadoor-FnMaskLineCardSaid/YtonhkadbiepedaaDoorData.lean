/- Plain words: the data of the program (windows, slots, channels ..) as Lean structures, how each lies in cells, and the search for a first place. No program stands here. -/
import Derived.Test.YtonhkadbiepedaaDoorMem
namespace Go.Proofs.YtonhkadbiepedaaDoor
open Go.RowKit Go.Sort

/-! ### Plain words -/

/-- n is in lo..hi. -/
def inB (n lo hi : Int) : Bool := decide (lo ≤ n) && decide (n ≤ hi)
theorem inB_iff {n lo hi : Int} : inB n lo hi = true ↔ lo ≤ n ∧ n ≤ hi := by simp [inB]
theorem inB_not {n lo hi : Int} : inB n lo hi = false ↔ n < lo ∨ hi < n := by
  unfold inB
  rw [Bool.and_eq_false_iff, decide_eq_false_iff_not, decide_eq_false_iff_not]
  omega

structure Win where
  base : Int
  size : Int
  write : Bool

def Win.cells (x : Win) : List Value := [.int .i64 x.base, .int .i64 x.size, .bool x.write]
abbrev eWin : Enc Win := ⟨3, Win.cells, fun _ => rfl, fun x u h => by simp only [Win.cells, List.mem_cons, List.mem_nil_iff, or_false] at h; rcases h with rfl | rfl | rfl <;> rfl, by decide⟩
abbrev Win.val (x : Win) : Value := .agg #[.int .i64 x.base, .int .i64 x.size, .bool x.write]

def winOk (x : Win) : Bool := inB x.base 0 4095 && inB x.size 1 (4096 - x.base)
theorem winOk_iff {x : Win} : winOk x = true ↔ 0 ≤ x.base ∧ x.base ≤ 4095 ∧ 1 ≤ x.size ∧ x.size ≤ 4096 - x.base := by
  unfold winOk; rw [Bool.and_eq_true, inB_iff, inB_iff]; omega

def winsOk (xs : List Win) : Bool := decide (xs.length ≤ 12) && xs.all winOk
theorem winsOk_len {xs : List Win} (h : winsOk xs = true) : xs.length ≤ 12 := by
  unfold winsOk at h; rw [Bool.and_eq_true] at h; simpa using h.1
theorem winsOk_mem {xs : List Win} (h : winsOk xs = true) {x : Win} (hx : x ∈ xs) : winOk x = true := by
  unfold winsOk at h; rw [Bool.and_eq_true, List.all_eq_true] at h; exact h.2 x hx

def winHas (place : Int) (x : Win) : Bool := inB place x.base (x.base + x.size - 1)
def winFits (place : Int) (wr : Bool) (x : Win) : Bool := winHas place x && (x.write || !wr)

/-- The first place at which p holds, or -1. -/
def idx {α : Type} (p : α → Bool) (xs : List α) : Int := match xs.findIdx? p with | some i => i | none => -1
theorem idx_at {α : Type} {p : α → Bool} {xs : List α} {k : Nat} (hk : k < xs.length) (hp : p xs[k] = true) (hl : ∀ i (_ : i < k) (h : i < xs.length), p xs[i] = false) : idx p xs = k := by
  have : xs.findIdx? p = some k := by
    rw [List.findIdx?_eq_some_iff_getElem]
    exact ⟨hk, hp, fun j hj => by simpa using hl j hj (by omega)⟩
  simp [idx, this]
theorem idx_none {α : Type} {p : α → Bool} {xs : List α} (hl : ∀ i (h : i < xs.length), p xs[i] = false) : idx p xs = -1 := by
  have : xs.findIdx? p = none := by
    rw [List.findIdx?_eq_none_iff]
    intro x hx
    obtain ⟨i, hi, rfl⟩ := List.getElem_of_mem hx
    exact hl i hi
  simp [idx, this]
theorem idx_any {α : Type} {p : α → Bool} {xs : List α} : decide (0 ≤ idx p xs) = xs.any p := by
  unfold idx
  cases h : xs.findIdx? p with
  | none =>
    rw [List.findIdx?_eq_none_iff] at h
    symm
    simpa using h
  | some i =>
    rw [List.findIdx?_eq_some_iff_getElem] at h
    obtain ⟨hi, hp, _⟩ := h
    have : xs.any p = true := by rw [List.any_eq_true]; exact ⟨_, List.getElem_mem hi, hp⟩
    simp [this]

def winAt (xs : List Win) (place : Int) (wr : Bool) : Int := if winsOk xs then idx (winFits place wr) xs else -1

theorem all_snoc_false {α : Type} {p : α → Bool} {xs : List α} {k : Nat} (hk : k < xs.length) (h : p xs[k] = false) : xs.all p = false := by
  rw [List.all_eq_false]; exact ⟨_, List.getElem_mem hk, by simp [h]⟩
theorem all_of_get {α : Type} {p : α → Bool} {xs : List α} (h : ∀ i (hi : i < xs.length), p xs[i] = true) : xs.all p = true := by
  rw [List.all_eq_true]; intro x hx; obtain ⟨i, hi, rfl⟩ := List.getElem_of_mem hx; exact h i hi


/-! ### The other structures -/

abbrev eInt : Enc Int := ⟨1, fun n => [.int .i64 n], fun _ => rfl, fun x u h => by simp only [List.mem_cons, List.mem_nil_iff, or_false] at h; subst h; rfl, by decide⟩
abbrev eBool : Enc Bool := ⟨1, fun n => [.bool n], fun _ => rfl, fun x u h => by simp only [List.mem_cons, List.mem_nil_iff, or_false] at h; subst h; rfl, by decide⟩

structure Slt where
  who : Int
  ticks : Int
def Slt.cells (x : Slt) : List Value := [.int .i64 x.who, .int .i64 x.ticks]
abbrev eSlt : Enc Slt := ⟨2, Slt.cells, fun _ => rfl, fun x u h => by simp only [Slt.cells, List.mem_cons, List.mem_nil_iff, or_false] at h; rcases h with rfl | rfl <;> rfl, by decide⟩
abbrev Slt.val (x : Slt) : Value := .agg #[.int .i64 x.who, .int .i64 x.ticks]

structure Chn where
  kind : Int
  src : Int
  dst : Int
  size : Int
def Chn.cells (x : Chn) : List Value := [.int .i64 x.kind, .int .i64 x.src, .int .i64 x.dst, .int .i64 x.size]
abbrev eChn : Enc Chn := ⟨4, Chn.cells, fun _ => rfl, fun x u h => by simp only [Chn.cells, List.mem_cons, List.mem_nil_iff, or_false] at h; rcases h with rfl | rfl | rfl | rfl <;> rfl, by decide⟩
abbrev Chn.val (x : Chn) : Value := .agg #[.int .i64 x.kind, .int .i64 x.src, .int .i64 x.dst, .int .i64 x.size]

structure Ord3 where
  op : Int
  a : Int
  b : Int
def Ord3.cells (x : Ord3) : List Value := [.int .i64 x.op, .int .i64 x.a, .int .i64 x.b]
abbrev eOrd : Enc Ord3 := ⟨3, Ord3.cells, fun _ => rfl, fun x u h => by simp only [Ord3.cells, List.mem_cons, List.mem_nil_iff, or_false] at h; rcases h with rfl | rfl | rfl <;> rfl, by decide⟩
abbrev Ord3.val (x : Ord3) : Value := .agg #[.int .i64 x.op, .int .i64 x.a, .int .i64 x.b]

structure Pkt where
  due : Int
  value : Int
def Pkt.cells (x : Pkt) : List Value := [.int .i64 x.due, .int .i64 x.value]
abbrev ePkt : Enc Pkt := ⟨2, Pkt.cells, fun _ => rfl, fun x u h => by simp only [Pkt.cells, List.mem_cons, List.mem_nil_iff, or_false] at h; rcases h with rfl | rfl <;> rfl, by decide⟩
abbrev Pkt.val (x : Pkt) : Value := .agg #[.int .i64 x.due, .int .i64 x.value]

structure Trn where
  place : Int
  count : Int
  write : Bool
def Trn.cells (x : Trn) : List Value := [.int .i64 x.place, .int .i64 x.count, .bool x.write]
abbrev eTrn : Enc Trn := ⟨3, Trn.cells, fun _ => rfl, fun x u h => by simp only [Trn.cells, List.mem_cons, List.mem_nil_iff, or_false] at h; rcases h with rfl | rfl | rfl <;> rfl, by decide⟩
abbrev Trn.val (x : Trn) : Value := .agg #[.int .i64 x.place, .int .i64 x.count, .bool x.write]

/-- A partition: the slice value of its windows (address and capacity), what it reads as, and its number of cells. -/
structure Prt where
  A : Option Addr
  c : Nat
  wins : List Win
  cells : Int
def Prt.enc (x : Prt) : List Value := [.slice x.A x.wins.length x.c, .int .i64 x.cells]
abbrev ePrt : Enc Prt := ⟨2, Prt.enc, fun _ => rfl, fun x u h => by simp only [Prt.enc, List.mem_cons, List.mem_nil_iff, or_false] at h; rcases h with rfl | rfl <;> rfl, by decide⟩
abbrev Prt.val (x : Prt) : Value := .agg #[.slice x.A x.wins.length x.c, .int .i64 x.cells]

/-- A slice of slots as an element. -/
structure Tab where
  A : Option Addr
  c : Nat
  slots : List Slt
def Tab.enc (x : Tab) : List Value := [.slice x.A x.slots.length x.c]
abbrev eTab : Enc Tab := ⟨1, Tab.enc, fun _ => rfl, fun x u h => by simp only [Tab.enc, List.mem_cons, List.mem_nil_iff, or_false] at h; subst h; rfl, by decide⟩
abbrev Tab.val (x : Tab) : Value := .slice x.A x.slots.length x.c

theorem below1 (w : World) (o : Obj) : Below w.heap.size w (w.alloc o) := (Below.refl _ _).alloc (Nat.le_refl _) o
theorem below2 (w : World) (o o' : Obj) : Below w.heap.size w ((w.alloc o).alloc o') := bel_trans (below1 w o) (below1 _ o')
theorem below3 (w : World) (o o' o'' : Obj) : Below w.heap.size w (((w.alloc o).alloc o').alloc o'') := bel_trans (below2 w o o') (below1 _ o'')
end Go.Proofs.YtonhkadbiepedaaDoor
