/- The order of texts ('ltB'), a text put into a rising list ('addS'), a value put into a store ('putK'), as plain functions on lists. Of no program. -/
import Derived.Test.YtjlmoghifkgehaaDoorSame
import Derived.Test.YtjlmoghifkgehaaDoorFind
namespace Go.Proofs.YtjlmoghifkgehaaDoor
open Go.RowKit
/-- a comes before b. -/
def ltB (a b : ByteArray) : Bool := Op.bytesLess a.toList b.toList
def eqB (a b : ByteArray) : Bool := a.toList == b.toList
theorem eqB_iff {a b : ByteArray} : eqB a b = true ↔ a = b := by unfold eqB; rw [beq_iff_eq]; exact toList_eq_iff
theorem eqB_self (a : ByteArray) : eqB a a = true := eqB_iff.2 rfl
theorem eqB_false {a b : ByteArray} : eqB a b = false ↔ a ≠ b := by
  rw [← Bool.not_eq_true, eqB_iff]
theorem less_irr : ∀ x : List UInt8, Op.bytesLess x x = false
  | [] => rfl
  | a :: x => by
    have h : ¬ a < a := by rw [UInt8.lt_iff_toNat_lt]; omega
    simp [Op.bytesLess, h, less_irr x]
theorem less_trans : ∀ x y z : List UInt8, Op.bytesLess x y = true → Op.bytesLess y z = true → Op.bytesLess x z = true
  | _, [], _, h, _ => by cases ‹List UInt8› <;> simp [Op.bytesLess] at h
  | _, _ :: _, [], _, h => by simp [Op.bytesLess] at h
  | [], _ :: _, _ :: _, _, _ => rfl
  | a :: x, b :: y, c :: z, h1, h2 => by
    simp only [Op.bytesLess, Bool.or_eq_true, decide_eq_true_eq, Bool.and_eq_true, beq_iff_eq] at h1 h2 ⊢
    rcases h1 with h1 | ⟨rfl, h1⟩
    · rcases h2 with h2 | ⟨rfl, h2⟩
      · left; rw [UInt8.lt_iff_toNat_lt] at *; omega
      · exact .inl h1
    · rcases h2 with h2 | ⟨rfl, h2⟩
      · exact .inl h2
      · exact .inr ⟨rfl, less_trans x y z h1 h2⟩
theorem less_tri : ∀ x y : List UInt8, Op.bytesLess x y = false → Op.bytesLess y x = false → x = y
  | [], [], _, _ => rfl
  | [], _ :: _, h, _ => by simp [Op.bytesLess] at h
  | _ :: _, [], _, h => by simp [Op.bytesLess] at h
  | a :: x, b :: y, h1, h2 => by
    simp only [Op.bytesLess, Bool.or_eq_false_iff, decide_eq_false_iff_not] at h1 h2
    have e : a = b := by
      have u := h1.1; have v := h2.1
      rw [UInt8.lt_iff_toNat_lt] at u v
      exact UInt8.toNat_inj.1 (by omega)
    subst e
    rw [less_tri x y (by simpa using h1.2) (by simpa using h2.2)]
theorem ltB_irr (a : ByteArray) : ltB a a = false := less_irr _
theorem ltB_trans {a b c : ByteArray} (h : ltB a b = true) (k : ltB b c = true) : ltB a c = true := less_trans _ _ _ h k
theorem ltB_asym {a b : ByteArray} (h : ltB a b = true) : ltB b a = false := by
  rw [← Bool.not_eq_true]; intro k
  have := ltB_trans h k
  rw [ltB_irr] at this; cases this
theorem ltB_ne {a b : ByteArray} (h : ltB a b = true) : a ≠ b := by rintro rfl; rw [ltB_irr] at h; cases h
theorem ltB_tri {a b : ByteArray} (h : ltB a b = false) (k : ltB b a = false) : a = b := toList_eq_iff.1 (less_tri _ _ h k)
theorem ltB_tri' {a b : ByteArray} (h : ltB a b = false) (k : a ≠ b) : ltB b a = true := by
  cases e : ltB b a with
  | true => rfl
  | false => exact absurd (ltB_tri h e) k

theorem gt_is (x y : List UInt8) : (!(Op.bytesLess x y || x == y)) = Op.bytesLess y x := by
  cases h : Op.bytesLess x y with
  | true =>
    cases k : Op.bytesLess y x with
    | false => rfl
    | true => have := less_trans _ _ _ h k; rw [less_irr] at this; cases this
  | false =>
    by_cases e : x = y
    · subst e; simp [less_irr]
    · cases k : Op.bytesLess y x with
      | true => simp [e]
      | false => exact absurd (less_tri _ _ h k) e
/-- The place of x in a rising list. -/
def geP (x y : ByteArray) : Bool := !(ltB y x)
def addAt (xs : List ByteArray) (x : ByteArray) : Nat := xs.findIdx (geP x)
/-- x put into a rising list, once. -/
def addS : List ByteArray → ByteArray → List ByteArray
  | [], x => [x]
  | y :: ys, x => if ltB y x then y :: addS ys x else if eqB y x then y :: ys else x :: y :: ys
theorem addS_cut {α : Type} (p : α → Bool) : ∀ xs : List α, ∃ k, k = xs.findIdx p ∧ noneUp p xs k ∧ k ≤ xs.length
  | xs => ⟨_, rfl, fun j y hj hy => by
      have := List.not_of_lt_findIdx hj
      obtain ⟨hl, rfl⟩ := List.getElem?_eq_some_iff.1 hy
      simpa using this, List.findIdx_le_length⟩
theorem addS_is (x : ByteArray) : ∀ xs : List ByteArray, addS xs x = if (match xs[addAt xs x]? with | some y => eqB y x | none => false) then xs else xs.take (addAt xs x) ++ x :: xs.drop (addAt xs x)
  | [] => by simp [addS, addAt]
  | y :: ys => by
    have ih := addS_is x ys
    unfold addS
    cases h : ltB y x with
    | true =>
      have e : addAt (y :: ys) x = addAt ys x + 1 := by simp [addAt, List.findIdx_cons, geP, h]
      rw [e, if_pos rfl, ih, List.getElem?_cons_succ, List.take_succ_cons, List.drop_succ_cons]
      cases (match ys[addAt ys x]? with | some y => eqB y x | none => false) <;> simp
    | false =>
      have e : addAt (y :: ys) x = 0 := by simp [addAt, List.findIdx_cons, geP, h]
      rw [e]
      simp
theorem addS_here {xs : List ByteArray} {x y : ByteArray} {k : Nat} (hk : xs.findIdx (geP x) = k) (hy : xs[k]? = some y) (he : eqB y x = true) : addS xs x = xs := by
  rw [addS_is]; unfold addAt; rw [hk, hy]; simp [he]
theorem addS_in {xs : List ByteArray} {x y : ByteArray} {k : Nat} (hk : xs.findIdx (geP x) = k) (hy : xs[k]? = some y) (he : eqB y x = false) : addS xs x = xs.take k ++ x :: xs.drop k := by
  rw [addS_is]; unfold addAt; rw [hk, hy]; simp [he]
theorem addS_end {xs : List ByteArray} {x : ByteArray} (hk : xs.findIdx (geP x) = xs.length) : addS xs x = xs ++ [x] := by
  rw [addS_is]; unfold addAt; rw [hk, List.getElem?_eq_none (Nat.le_refl _)]; simp
theorem addS_len (xs : List ByteArray) (x : ByteArray) : (addS xs x).length ≤ xs.length + 1 := by
  rw [addS_is]; split
  · split <;> simp <;> omega
  · simp; omega
theorem addS_mem {xs : List ByteArray} {x z : ByteArray} (h : z ∈ addS xs x) : z = x ∨ z ∈ xs := by
  induction xs with
  | nil => simp [addS] at h; exact .inl h
  | cons y ys ih =>
    unfold addS at h
    split at h
    · rcases List.mem_cons.1 h with rfl | h
      · exact .inr (by simp)
      · rcases ih h with h | h
        · exact .inl h
        · exact .inr (by simp [h])
    · split at h
      · exact .inr h
      · rcases List.mem_cons.1 h with rfl | h
        · exact .inl rfl
        · exact .inr h

/-- The cell's key is behind the key. -/
def gtP (key : ByteArray) (c : ByteArray × ByteArray) : Bool := ltB key c.1
def delK (xs : List (ByteArray × ByteArray)) (key : ByteArray) : List (ByteArray × ByteArray) := xs.filter (fun c => !(eqB c.1 key))
/-- A cell put ahead of the first one whose key is behind. -/
def insK (c : ByteArray × ByteArray) : List (ByteArray × ByteArray) → List (ByteArray × ByteArray)
  | [] => [c]
  | y :: ys => if ltB c.1 y.1 then c :: y :: ys else y :: insK c ys
def putV (xs : List (ByteArray × ByteArray)) (key val : ByteArray) : List (ByteArray × ByteArray) := if val.size = 0 then delK xs key else insK (key, val) (delK xs key)
theorem insK_is (c : ByteArray × ByteArray) : ∀ xs : List (ByteArray × ByteArray), insK c xs = xs.take (xs.findIdx (gtP c.1)) ++ c :: xs.drop (xs.findIdx (gtP c.1))
  | [] => by simp [insK]
  | y :: ys => by
    unfold insK
    rw [insK_is c ys]
    cases h : ltB c.1 y.1 with
    | true => simp [List.findIdx_cons, gtP, h]
    | false => simp [List.findIdx_cons, gtP, h]
theorem insK_len (c : ByteArray × ByteArray) (xs : List (ByteArray × ByteArray)) : (insK c xs).length = xs.length + 1 := by
  rw [insK_is]; simp; omega
theorem delK_len (xs : List (ByteArray × ByteArray)) (key : ByteArray) : (delK xs key).length ≤ xs.length := List.length_filter_le _ _
theorem putV_len (xs : List (ByteArray × ByteArray)) (key val : ByteArray) : (putV xs key val).length ≤ xs.length + 1 := by
  unfold putV
  have := delK_len xs key
  split
  · omega
  · rw [insK_len]; omega
theorem insK_mem {c z : ByteArray × ByteArray} {xs : List (ByteArray × ByteArray)} (h : z ∈ insK c xs) : z = c ∨ z ∈ xs := by
  rw [insK_is] at h
  rcases List.mem_append.1 h with h | h
  · exact .inr (List.mem_of_mem_take h)
  · rcases List.mem_cons.1 h with h | h
    · exact .inl h
    · exact .inr (List.mem_of_mem_drop h)
theorem putV_mem {z : ByteArray × ByteArray} {xs : List (ByteArray × ByteArray)} {key val : ByteArray} (h : z ∈ putV xs key val) : z = (key, val) ∨ z ∈ xs := by
  unfold putV at h
  split at h
  · exact .inr ((List.mem_filter.1 h).1)
  · rcases insK_mem h with h | h
    · exact .inl h
    · exact .inr ((List.mem_filter.1 h).1)
end Go.Proofs.YtjlmoghifkgehaaDoor
