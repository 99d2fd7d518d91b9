/- Plain words for the laws' helpers: equality as a Bool ('same'), what is left of a budget ('szSub'), bulks. Of no program. -/
import Derived.Test.YtjlmoghifkgehaaDoorRead
namespace Go.Proofs.YtjlmoghifkgehaaDoor
open Go.RowKit
open Classical in
/-- Equality, as a Bool that the walk does not open. -/
noncomputable def same {α : Type} (a b : α) : Bool := decide (a = b)
theorem same_self {α : Type} (a : α) : same a a = true := by simp [same]
theorem same_ne {α : Type} {a b : α} (h : a ≠ b) : same a b = false := by simp [same, h]
theorem same_iff {α : Type} {a b : α} : same a b = true ↔ a = b := by simp [same]
theorem same_congr {α β : Type} {a b : α} {c d : β} (h : a = b ↔ c = d) : same a b = same c d := by simp [same, h]
/-- What is left of a budget behind n; -1 if it is used up. -/
def szSub (left : Int) (n : Nat) : Int := if left < n then -1 else left - n
theorem szSub_no {left : Int} {n : Nat} (h : left < n) : szSub left n = -1 := by unfold szSub; rw [if_pos h]
theorem szSub_yes {left : Int} {n : Nat} (h : (n : Int) ≤ left) : szSub left n = left - n := by unfold szSub; rw [if_neg (by omega)]
def bulkS (s : ByteArray) : Nat := s.size
def bulkC (c : ByteArray × ByteArray) : Nat := c.1.size + c.2.size
def bulkA (x : Ans) : Nat := x.text.size
def bulkCal (c : Cal) : Nat := c.name.size + c.dest.size + c.text.size
def bulkP (s : Stp) : Nat := bulkCal s.call
def bulkL {α : Type} (f : α → Nat) (xs : List α) : Nat := xs.length + (xs.map f).sum
theorem toList_eq_iff {a b : ByteArray} : a.toList = b.toList ↔ a = b := by
  rw [Lib.toList_data, Lib.toList_data]
  exact ⟨fun h => ByteArray.ext (Array.ext' h), fun h => by rw [h]⟩
theorem beq_toList_false {a b : ByteArray} (h : a ≠ b) : (a.toList == b.toList) = false := by
  rw [beq_eq_false_iff_ne]; exact fun e => h (toList_eq_iff.1 e)
theorem bne_toList_true {a b : ByteArray} (h : a ≠ b) : (a.toList != b.toList) = true := by
  rw [bne, beq_toList_false h]; rfl
theorem toList_ne {a b : ByteArray} (h : a ≠ b) : ¬ a.toList = b.toList := fun e => h (toList_eq_iff.1 e)

section
variable {α : Type}
theorem take_snoc_of {xs : List α} {k : Nat} {x : α} (h : xs[k]? = some x) : xs.take (k + 1) = xs.take k ++ [x] := by
  rw [List.take_add_one, h]; rfl
theorem some_of_lt {xs : List α} {k : Nat} (h : k < xs.length) : ∃ x, xs[k]? = some x := ⟨xs[k], List.getElem?_eq_getElem h⟩
theorem lt_of_some {xs : List α} {k : Nat} {x : α} (h : xs[k]? = some x) : k < xs.length := (List.getElem?_eq_some_iff.1 h).1
theorem mem_of_some {xs : List α} {k : Nat} {x : α} (h : xs[k]? = some x) : x ∈ xs := List.mem_of_getElem? h
theorem same_len {xs ys : List α} (h : xs.length ≠ ys.length) : same xs ys = false := same_ne fun e => h (by rw [e])
theorem same_at {xs ys : List α} {k : Nat} {x y : α} (hx : xs[k]? = some x) (hy : ys[k]? = some y) (h : same x y = false) : same xs ys = false :=
  same_ne fun e => by
    rw [e, hy] at hx
    obtain rfl := Option.some.inj hx
    rw [same_self] at h
    cases h
def upTo (xs ys : List α) (k : Nat) : Prop := xs.take k = ys.take k
theorem upTo_zero (xs ys : List α) : upTo xs ys 0 := by simp [upTo]
theorem upTo_succ {xs ys : List α} {k : Nat} {x y : α} (hk : upTo xs ys k) (hx : xs[k]? = some x) (hy : ys[k]? = some y) (h : same x y = true) : upTo xs ys (k + 1) := by
  unfold upTo at *
  rw [take_snoc_of hx, take_snoc_of hy, hk, same_iff.1 h]
theorem same_end {xs ys : List α} {k : Nat} (hk : upTo xs ys k) (h1 : xs.length ≤ k) (h2 : ys.length ≤ k) : same xs ys = true := by
  unfold upTo at hk
  rw [List.take_of_length_le h1, List.take_of_length_le h2] at hk
  rw [hk]; exact same_self _
/-- The bulk of the first k elements, and the length of all. -/
def bulkUp (f : α → Nat) (xs : List α) (k : Nat) : Nat := xs.length + ((xs.take k).map f).sum
theorem bulkUp_zero (f : α → Nat) (xs : List α) : bulkUp f xs 0 = xs.length := by simp [bulkUp]
theorem bulkUp_succ {f : α → Nat} {xs : List α} {k : Nat} {x : α} (hx : xs[k]? = some x) : bulkUp f xs (k + 1) = bulkUp f xs k + f x := by
  unfold bulkUp; rw [take_snoc_of hx]; simp; omega
theorem bulkUp_end {f : α → Nat} {xs : List α} {k : Nat} (h : xs.length ≤ k) : bulkUp f xs k = bulkL f xs := by
  unfold bulkUp bulkL; rw [List.take_of_length_le h]
theorem bulkUp_le (f : α → Nat) (xs : List α) (k : Nat) : bulkUp f xs k ≤ bulkL f xs := by
  unfold bulkUp bulkL
  have e : (xs.map f).sum = ((xs.take k).map f).sum + ((xs.drop k).map f).sum := by rw [← List.sum_append, ← List.map_append, List.take_append_drop]
  omega
theorem bulkL_ge (f : α → Nat) (xs : List α) : xs.length ≤ bulkL f xs := by unfold bulkL; omega
theorem bulkL_mem (f : α → Nat) {xs : List α} {x : α} (h : x ∈ xs) : f x ≤ bulkL f xs := by
  unfold bulkL
  obtain ⟨s, r, rfl⟩ := List.append_of_mem h
  simp
  omega
end
end Go.Proofs.YtjlmoghifkgehaaDoor
