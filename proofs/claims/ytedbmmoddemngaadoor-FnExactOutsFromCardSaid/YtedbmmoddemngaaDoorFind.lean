/- Where a list first meets a test (List.findIdx), and contracts of the library's IndexFunc and ContainsFunc for every closure that leaves what lay. Conditions: only the bounds that any Go slice meets. -/
import Derived.Test.YtedbmmoddemngaaDoorProg
import Derived.WalkKit
import Derived.WalkSpells
import Derived.WalkLawsBesides
import Derived.Shelf.Abstract
import Derived.Test.YtedbmmoddemngaaDoorOwn
import Derived.Lib.Hide
import Derived.Deep.RegionHeld3
import Derived.Deep.DrawnRows
namespace Go.Proofs.YtedbmmoddemngaaDoor
open Go.RowKit
attribute [local go_sem ↓] Go.wp_at_zero Go.wp_at_succ
/-- The place, or -1 if it is the length. -/
def idxI (n i : Nat) : Int := if i < n then (i : Int) else -1
theorem idxI_lt {n i : Nat} (h : i < n) : idxI n i = (i : Int) := by simp [idxI, h]
theorem idxI_ge {n i : Nat} (h : n ≤ i) : idxI n i = -1 := by simp [idxI, Nat.not_lt.2 h]
section
variable {α : Type}
/-- No element ahead of k meets the test. -/
def noneUp (p : α → Bool) (xs : List α) (k : Nat) : Prop := ∀ j y, j < k → xs[j]? = some y → p y = false
theorem noneUp_zero (p : α → Bool) (xs : List α) : noneUp p xs 0 := fun _ _ h => absurd h (Nat.not_lt_zero _)
theorem noneUp_succ {p : α → Bool} {xs : List α} {k : Nat} {x : α} (h : noneUp p xs k) (hx : xs[k]? = some x) (hp : p x = false) : noneUp p xs (k + 1) := by
  intro j y hj hy
  by_cases e : j = k
  · subst e; rw [hx] at hy; cases hy; exact hp
  · exact h j y (by omega) hy
theorem find_hit {p : α → Bool} {xs : List α} {k : Nat} {x : α} (h : noneUp p xs k) (hx : xs[k]? = some x) (hp : p x = true) : xs.findIdx p = k := by
  obtain ⟨hlt, rfl⟩ := List.getElem?_eq_some_iff.1 hx
  rw [List.findIdx_eq hlt]
  exact ⟨hp, fun j hj => h j _ hj (List.getElem?_eq_getElem _)⟩
theorem find_miss {p : α → Bool} {xs : List α} {k : Nat} (h : noneUp p xs k) (hk : xs.length ≤ k) : xs.findIdx p = xs.length := by
  rw [List.findIdx_eq_length]
  intro x hx
  obtain ⟨j, hj⟩ := List.mem_iff_getElem?.1 hx
  have := lt_of_some hj
  exact h j x (by omega) hj
theorem any_find (p : α → Bool) (xs : List α) : xs.any p = decide (xs.findIdx p < xs.length) := by
  rw [Bool.eq_iff_iff, List.any_eq_true, decide_eq_true_iff, List.findIdx_lt_length]
theorem any_hit {p : α → Bool} {xs : List α} {k : Nat} {x : α} (hx : xs[k]? = some x) (hp : p x = true) : xs.any p = true :=
  List.any_eq_true.2 ⟨x, List.mem_of_getElem? hx, hp⟩
theorem any_miss {p : α → Bool} {xs : List α} {k : Nat} (h : noneUp p xs k) (hk : xs.length ≤ k) : xs.any p = false := by
  rw [List.any_eq_false]
  intro x hx
  obtain ⟨j, hj⟩ := List.mem_iff_getElem?.1 hx
  have := lt_of_some hj
  simp [h j x (by omega) hj]
end
/-- What is asked of a closure: at each element, in every world in which what lay in w lies unturned. -/
def PredB {α : Type} (g : Nat) (lb : Array Value) (enc : α → Value) (p : α → Bool) (xs : List α) (w : World) : Prop :=
  ∀ (W : World) (x : α), x ∈ xs → Below w.heap.size w W → Calls Tryd.prog g (#[enc x] ++ lb) W fun e w' => e = .returned (.bool (p x)) ∧ Below W.heap.size W w'
theorem readFC {w wr : World} {a : Option Addr} {xs : List (ByteArray × ByteArray)} (hr : Reads w a 2 encC xs) (hb : Below w.heap.size w wr) {k : Nat} {x : (ByteArray × ByteArray)} (hx : xs[k]? = some x) :
    ∃ b off, a = some ⟨b, off, none⟩ ∧ wr.cell? ⟨b, off + k * 2, none⟩ = some (.string x.1) ∧ wr.cell? ⟨b, off + k * 2 + 1, none⟩ = some (.string x.2) := by
  rcases hr.below hb with rfl | ⟨b, off, h1, _, h3⟩
  · simp at hx
  · exact ⟨b, off, h1, by simpa [Nat.add_assoc] using h3 k x hx 0 _ rfl, by simpa [Nat.add_assoc] using h3 k x hx 1 _ rfl⟩
theorem readFS {w wr : World} {a : Option Addr} {xs : List ByteArray} (hr : Reads w a 1 encS xs) (hb : Below w.heap.size w wr) {k : Nat} {x : ByteArray} (hx : xs[k]? = some x) :
    ∃ b off, a = some ⟨b, off, none⟩ ∧ wr.cell? ⟨b, off + k, none⟩ = some (.string x) := by
  rcases hr.below hb with rfl | ⟨b, off, h1, _, h3⟩
  · simp at hx
  · exact ⟨b, off, h1, by simpa using h3 k x hx 0 _ rfl⟩

set_option maxRecDepth 100000 in
set_option maxHeartbeats 2000000 in
theorem indexFuncC_c (a : Option Addr) (cap : Nat) (xs : List (ByteArray × ByteArray)) (p : ByteArray × ByteArray → Bool) (g : Nat) (lb : Array Value) (eg : ∀ args w, (callFunc g args).run Tryd.prog w = .ok (.enter g args) w) (w : World)
    (hp : PredB g lb (fun x : ByteArray × ByteArray => .agg #[.string x.1, .string x.2]) p xs w) (hlen : xs.length ≤ maxLen) (hr : Reads w a 2 encC xs) :
    Calls Tryd.prog 100 #[.slice a xs.length cap, .func (.func g) #[] lb] w fun e w' => e = .returned (.int .i64 (idxI xs.length (xs.findIdx p))) ∧ Below w.heap.size w w' := by
  have HR := Lib.hid hr
  have HP := Lib.hid hp
  clear hr hp
  unfold maxLen at hlen
  go_enter Tryd.func100, Tryd.ntmps100
  go_wp2
  go_loopw [8] (fun i wr => ∃ k : Nat, k ≤ xs.length ∧ i = .int .i64 k ∧ noneUp p xs k ∧ Below w.heap.size w wr) (fun i _ => xs.length - (intOf i).toNat)
  case atStart => exact ⟨0, Nat.zero_le _, rfl, noneUp_zero _ _, (by repeat (first | exact Below.refl _ _ | assumption | refine Below.alloc ?_ (by simp <;> omega) _ | refine Below.setCell ?_ (by simp <;> omega) _ | refine Below.drew ?_))⟩
  case round =>
    obtain ⟨k, hk, rfl, hup, hb⟩ := hrel
    by_cases hlt : k < xs.length
    · obtain ⟨x, hx⟩ := some_of_lt hlt
      obtain ⟨b, off, rfl, c0, c1⟩ := readFC HR.out hb hx
      have p1 : (0 : Int) ≤ (k : Int) := by omega
      have p2 : (k : Int) < (xs.length : Int) := by omega
      have hcall := HP.out wr x (List.mem_of_getElem? hx) hb
      have HX := Lib.hid hx
      clear hx
      cases hq : p x with
      | true =>
        rw [hq] at hcall
        go_wp2_with (go_at_fn g; refine hcall.mono ?_; rintro e w1 ⟨rfl, hb1⟩)
        go_ret
        exact ⟨by rw [find_hit hup HX.out hq, idxI_lt hlt]; rfl, (by repeat (first | exact Below.refl _ _ | refine Below.drew ?_ | refine below_drewN ?_ _ | refine Below.allocC ?_ _ | refine Below.setCell ?_ (by first | (simp; done) | (simp; omega)) _ | refine Below.chain ?_ (by assumption)))⟩
      | false =>
        rw [hq] at hcall
        have hs := noneUp_succ hup HX.out hq
        go_wp2_with (go_at_fn g; refine hcall.mono ?_; rintro e w1 ⟨rfl, hb1⟩)
        go_roundw
        case rel => exact ⟨k + 1, by omega, by go_num, hs, (by repeat (first | exact Below.refl _ _ | refine Below.drew ?_ | refine below_drewN ?_ _ | refine Below.allocC ?_ _ | refine Below.setCell ?_ (by first | (simp; done) | (simp; omega)) _ | refine Below.chain ?_ (by assumption)))⟩
        case measure => simp [intOf]; omega
    · have HS := Lib.hid (find_miss hup (by omega))
      have p2 : ¬ (k : Int) < (xs.length : Int) := by omega
      go_wp2
      go_ret
      exact ⟨by rw [HS.out, idxI_ge (Nat.le_refl _)]; rfl, hb⟩

end Go.Proofs.YtedbmmoddemngaaDoor
