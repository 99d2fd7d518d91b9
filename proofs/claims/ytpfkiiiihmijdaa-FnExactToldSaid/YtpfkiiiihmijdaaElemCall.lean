/- Contracts for the laws' helpers on a Call: toCall copies it, szCall counts it, eqCall compares two. Conditions: only the bounds that any Go string meets. -/
import Derived.Test.YtpfkiiiihmijdaaProg
import Derived.WalkKit
import Derived.WalkSpells
import Derived.WalkLawsBesides
import Derived.Test.YtpfkiiiihmijdaaSame
import Derived.Lib.Hide
namespace Go.Proofs.Ytpfkiiiihmijdaa
open Go.RowKit

set_option maxHeartbeats 800000 in
theorem toCall_c (x : Cal) (w : World) : Calls Try.prog 19 #[.agg #[.int .i64 x.kind, .string x.name, .string x.dest, .int .i64 x.a, .int .i64 x.b, .string x.text]] w fun e w' => e = .returned (.agg #[.int .i64 x.kind, .string x.name, .string x.dest, .int .i64 x.a, .int .i64 x.b, .string x.text]) ∧ Below w.heap.size w w' := by go_enter Try.func19, Try.ntmps19; go_wp2; exact bodyPost_ret (v := .agg #[.int .i64 x.kind, .string x.name, .string x.dest, .int .i64 x.a, .int .i64 x.b, .string x.text]) (by simp [results, Try.results19, go_sem]) rfl ⟨rfl, (by repeat (first | exact Below.refl _ _ | assumption | refine Below.alloc ?_ (by simp <;> omega) _ | refine Below.setCell ?_ (by simp <;> omega) _ | refine Below.drew ?_))⟩

set_option maxHeartbeats 800000 in
theorem szCall_c (x : Cal) (left : Int) (l0 : 0 ≤ left) (l1 : left ≤ 1048576) (b0 : x.name.size ≤ maxLen) (b1 : x.dest.size ≤ maxLen) (b2 : x.text.size ≤ maxLen) (w : World) :
    Calls Try.prog 17 #[.agg #[.int .i64 x.kind, .string x.name, .string x.dest, .int .i64 x.a, .int .i64 x.b, .string x.text], .int .i64 left] w fun e w' => e = .returned (.int .i64 (szSub left (bulkCal x))) ∧ Below w.heap.size w w' := by
  unfold maxLen at b0 b1 b2
  by_cases h1 : left < x.name.size
  · have hs : szSub left (bulkCal x) = -1 := szSub_no (by unfold bulkCal; omega)
    have HS := Lib.hid hs
    clear hs
    go_enter Try.func17, Try.ntmps17
    go_wp2
    go_ret
    exact ⟨by rw [HS.out]; rfl, (by repeat (first | exact Below.refl _ _ | assumption | refine Below.alloc ?_ (by simp <;> omega) _ | refine Below.setCell ?_ (by simp <;> omega) _ | refine Below.drew ?_))⟩
  · skip
    by_cases h2 : left - x.name.size < x.dest.size
    · have hs : szSub left (bulkCal x) = -1 := szSub_no (by unfold bulkCal; omega)
      have HS := Lib.hid hs
      clear hs
      go_enter Try.func17, Try.ntmps17
      go_wp2
      go_ret
      exact ⟨by rw [HS.out]; rfl, (by repeat (first | exact Below.refl _ _ | assumption | refine Below.alloc ?_ (by simp <;> omega) _ | refine Below.setCell ?_ (by simp <;> omega) _ | refine Below.drew ?_))⟩
    · skip
      by_cases h3 : left - x.name.size - x.dest.size < x.text.size
      · have hs : szSub left (bulkCal x) = -1 := szSub_no (by unfold bulkCal; omega)
        have HS := Lib.hid hs
        clear hs
        go_enter Try.func17, Try.ntmps17
        go_wp2
        go_ret
        exact ⟨by rw [HS.out]; rfl, (by repeat (first | exact Below.refl _ _ | assumption | refine Below.alloc ?_ (by simp <;> omega) _ | refine Below.setCell ?_ (by simp <;> omega) _ | refine Below.drew ?_))⟩
      · have hs : szSub left (bulkCal x) = left - x.name.size - x.dest.size - x.text.size := by rw [szSub_yes (by unfold bulkCal; omega)]; unfold bulkCal; omega
        have HS := Lib.hid hs
        clear hs
        go_enter Try.func17, Try.ntmps17
        go_wp2
        go_ret
        exact ⟨by rw [HS.out]; rfl, (by repeat (first | exact Below.refl _ _ | assumption | refine Below.alloc ?_ (by simp <;> omega) _ | refine Below.setCell ?_ (by simp <;> omega) _ | refine Below.drew ?_))⟩

set_option maxHeartbeats 1600000 in
theorem eqCall_c (x y : Cal) (w : World) :
    Calls Try.prog 56 #[.agg #[.int .i64 x.kind, .string x.name, .string x.dest, .int .i64 x.a, .int .i64 x.b, .string x.text], .agg #[.int .i64 y.kind, .string y.name, .string y.dest, .int .i64 y.a, .int .i64 y.b, .string y.text]] w fun e w' => e = .returned (.bool (same x y)) ∧ Below w.heap.size w w' := by
  obtain ⟨a0, a1, a2, a3, a4, a5⟩ := x
  obtain ⟨c0, c1, c2, c3, c4, c5⟩ := y
  dsimp only
  by_cases h0 : a0 = c0
  rotate_left
  · have hs : same (α := Cal) ⟨a0, a1, a2, a3, a4, a5⟩ ⟨c0, c1, c2, c3, c4, c5⟩ = false := same_ne (by simp [h0])
    have HS := Lib.hid hs
    have q1 : (a0 != c0) = true := by simp [h0]
    clear hs h0
    go_enter Try.func56, Try.ntmps56
    go_wp2
    go_ret
    exact ⟨by rw [HS.out]; rfl, (by repeat (first | exact Below.refl _ _ | assumption | refine Below.alloc ?_ (by simp <;> omega) _ | refine Below.setCell ?_ (by simp <;> omega) _ | refine Below.drew ?_))⟩
  subst h0
  by_cases h1 : a1 = c1
  rotate_left
  · have hs : same (α := Cal) ⟨a0, a1, a2, a3, a4, a5⟩ ⟨a0, c1, c2, c3, c4, c5⟩ = false := same_ne (by simp [h1])
    have HS := Lib.hid hs
    have q1 := toList_ne h1
    have q2 := beq_toList_false h1
    clear hs h1
    go_enter Try.func56, Try.ntmps56
    go_wp2
    go_ret
    exact ⟨by rw [HS.out]; rfl, (by repeat (first | exact Below.refl _ _ | assumption | refine Below.alloc ?_ (by simp <;> omega) _ | refine Below.setCell ?_ (by simp <;> omega) _ | refine Below.drew ?_))⟩
  subst h1
  by_cases h2 : a2 = c2
  rotate_left
  · have hs : same (α := Cal) ⟨a0, a1, a2, a3, a4, a5⟩ ⟨a0, a1, c2, c3, c4, c5⟩ = false := same_ne (by simp [h2])
    have HS := Lib.hid hs
    have q1 := toList_ne h2
    have q2 := beq_toList_false h2
    clear hs h2
    go_enter Try.func56, Try.ntmps56
    go_wp2
    go_ret
    exact ⟨by rw [HS.out]; rfl, (by repeat (first | exact Below.refl _ _ | assumption | refine Below.alloc ?_ (by simp <;> omega) _ | refine Below.setCell ?_ (by simp <;> omega) _ | refine Below.drew ?_))⟩
  subst h2
  by_cases h3 : a3 = c3
  rotate_left
  · have hs : same (α := Cal) ⟨a0, a1, a2, a3, a4, a5⟩ ⟨a0, a1, a2, c3, c4, c5⟩ = false := same_ne (by simp [h3])
    have HS := Lib.hid hs
    have q1 : (a3 != c3) = true := by simp [h3]
    clear hs h3
    go_enter Try.func56, Try.ntmps56
    go_wp2
    go_ret
    exact ⟨by rw [HS.out]; rfl, (by repeat (first | exact Below.refl _ _ | assumption | refine Below.alloc ?_ (by simp <;> omega) _ | refine Below.setCell ?_ (by simp <;> omega) _ | refine Below.drew ?_))⟩
  subst h3
  by_cases h4 : a4 = c4
  rotate_left
  · have hs : same (α := Cal) ⟨a0, a1, a2, a3, a4, a5⟩ ⟨a0, a1, a2, a3, c4, c5⟩ = false := same_ne (by simp [h4])
    have HS := Lib.hid hs
    have q1 : (a4 != c4) = true := by simp [h4]
    clear hs h4
    go_enter Try.func56, Try.ntmps56
    go_wp2
    go_ret
    exact ⟨by rw [HS.out]; rfl, (by repeat (first | exact Below.refl _ _ | assumption | refine Below.alloc ?_ (by simp <;> omega) _ | refine Below.setCell ?_ (by simp <;> omega) _ | refine Below.drew ?_))⟩
  subst h4
  by_cases h5 : a5 = c5
  rotate_left
  · have hs : same (α := Cal) ⟨a0, a1, a2, a3, a4, a5⟩ ⟨a0, a1, a2, a3, a4, c5⟩ = false := same_ne (by simp [h5])
    have HS := Lib.hid hs
    have q1 := toList_ne h5
    have q2 := beq_toList_false h5
    clear hs h5
    go_enter Try.func56, Try.ntmps56
    go_wp2
    go_ret
    exact ⟨by rw [HS.out]; rfl, (by repeat (first | exact Below.refl _ _ | assumption | refine Below.alloc ?_ (by simp <;> omega) _ | refine Below.setCell ?_ (by simp <;> omega) _ | refine Below.drew ?_))⟩
  subst h5
  have hs := same_self (α := Cal) ⟨a0, a1, a2, a3, a4, a5⟩
  have HS := Lib.hid hs
  clear hs
  go_enter Try.func56, Try.ntmps56
  go_wp2
  go_ret
  exact ⟨by rw [HS.out]; rfl, (by repeat (first | exact Below.refl _ _ | assumption | refine Below.alloc ?_ (by simp <;> omega) _ | refine Below.setCell ?_ (by simp <;> omega) _ | refine Below.drew ?_))⟩
end Go.Proofs.Ytpfkiiiihmijdaa
