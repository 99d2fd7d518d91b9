/- Equations: how the language compares two calls. No conditions. -/
import Derived.Test.YtedbmmoddemngaaDoorElemCall
namespace Go.Proofs.YtedbmmoddemngaaDoor
open Go.RowKit
set_option maxHeartbeats 1600000 in
theorem eqCal_run (x y : Cal) (W : World) :
    (binOp .eql 59 (.agg #[.int .i64 x.kind, .string x.name, .string x.dest, .int .i64 x.a, .int .i64 x.b, .string x.text]) (.agg #[.int .i64 y.kind, .string y.name, .string y.dest, .int .i64 y.a, .int .i64 y.b, .string y.text])).run Tryd.prog W = .ok (.bool (same x y)) W := by
  obtain ⟨a0, a1, a2, a3, a4, a5⟩ := x
  obtain ⟨c0, c1, c2, c3, c4, c5⟩ := y
  dsimp only
  by_cases h0 : a0 = c0
  rotate_left
  · rw [show same (Cal.mk a0 a1 a2 a3 a4 a5) (Cal.mk c0 c1 c2 c3 c4 c5) = false from same_ne (by simp [h0])]
    have q1 : (a0 == c0) = false := by simp [h0]
    go_simp
  subst h0
  by_cases h1 : a1 = c1
  rotate_left
  · rw [show same (Cal.mk a0 a1 a2 a3 a4 a5) (Cal.mk a0 c1 c2 c3 c4 c5) = false from same_ne (by simp [h1])]
    have q1 := toList_ne h1
    have q2 := beq_toList_false h1
    clear h1
    go_simp
  subst h1
  by_cases h2 : a2 = c2
  rotate_left
  · rw [show same (Cal.mk a0 a1 a2 a3 a4 a5) (Cal.mk a0 a1 c2 c3 c4 c5) = false from same_ne (by simp [h2])]
    have q1 := toList_ne h2
    have q2 := beq_toList_false h2
    clear h2
    go_simp
  subst h2
  by_cases h3 : a3 = c3
  rotate_left
  · rw [show same (Cal.mk a0 a1 a2 a3 a4 a5) (Cal.mk a0 a1 a2 c3 c4 c5) = false from same_ne (by simp [h3])]
    have q1 : (a3 == c3) = false := by simp [h3]
    go_simp
  subst h3
  by_cases h4 : a4 = c4
  rotate_left
  · rw [show same (Cal.mk a0 a1 a2 a3 a4 a5) (Cal.mk a0 a1 a2 a3 c4 c5) = false from same_ne (by simp [h4])]
    have q1 : (a4 == c4) = false := by simp [h4]
    go_simp
  subst h4
  by_cases h5 : a5 = c5
  rotate_left
  · rw [show same (Cal.mk a0 a1 a2 a3 a4 a5) (Cal.mk a0 a1 a2 a3 a4 c5) = false from same_ne (by simp [h5])]
    have q1 := toList_ne h5
    have q2 := beq_toList_false h5
    clear h5
    go_simp
  subst h5
  rw [same_self]
  go_simp
end Go.Proofs.YtedbmmoddemngaaDoor
