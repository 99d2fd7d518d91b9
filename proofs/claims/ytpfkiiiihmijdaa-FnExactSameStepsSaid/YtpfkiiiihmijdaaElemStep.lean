/- Contracts for the laws' helpers on a Step: toStep copies it, szStep counts it, eqStep compares two. Conditions: only the bounds that any Go string meets. -/
import Derived.Test.YtpfkiiiihmijdaaElemCall
namespace Go.Proofs.Ytpfkiiiihmijdaa
open Go.RowKit

/-- The very world that toCall leaves. -/
theorem toCall_w (x : Cal) (w : World) : Calls Try.prog 19 #[.agg #[.int .i64 x.kind, .string x.name, .string x.dest, .int .i64 x.a, .int .i64 x.b, .string x.text]] w fun e w' => e = .returned (.agg #[.int .i64 x.kind, .string x.name, .string x.dest, .int .i64 x.a, .int .i64 x.b, .string x.text]) ∧ ((w.alloc (.cells #[.int .i64 x.kind, .string x.name, .string x.dest, .int .i64 x.a, .int .i64 x.b, .string x.text] 24)).alloc (.cells #[.int .i64 x.kind, .string x.name, .string x.dest, .int .i64 x.a, .int .i64 x.b, .string x.text] 27)).alloc (.cells #[.int .i64 x.kind, .string x.name, .string x.dest, .int .i64 x.a, .int .i64 x.b, .string x.text] 27) = w' := by
  go_enter Try.func19, Try.ntmps19
  go_wp2
  exact bodyPost_ret (v := .agg #[.int .i64 x.kind, .string x.name, .string x.dest, .int .i64 x.a, .int .i64 x.b, .string x.text]) (by simp [results, Try.results19, go_sem]) rfl ⟨rfl, rfl⟩

set_option maxHeartbeats 1600000 in
theorem toStep_c (x : Stp) (w : World) : Calls Try.prog 76 #[.agg #[.int .i64 x.proc, .int .i64 x.call.kind, .string x.call.name, .string x.call.dest, .int .i64 x.call.a, .int .i64 x.call.b, .string x.call.text]] w fun e w' =>
    e = .returned (.agg #[.int .i64 x.proc, .int .i64 x.call.kind, .string x.call.name, .string x.call.dest, .int .i64 x.call.a, .int .i64 x.call.b, .string x.call.text]) ∧ Below w.heap.size w w' := by
  go_enter Try.func76, Try.ntmps76
  go_wp2_with fail
  refine (toCall_w x.call _).mono ?_
  rintro e w1 ⟨rfl, rfl⟩
  go_wp2
  exact bodyPost_ret (v := .agg #[.int .i64 x.proc, .int .i64 x.call.kind, .string x.call.name, .string x.call.dest, .int .i64 x.call.a, .int .i64 x.call.b, .string x.call.text]) (by simp [results, Try.results76, go_sem]) rfl ⟨rfl, (by repeat (first | exact Below.refl _ _ | refine Below.drew ?_ | refine Below.allocC ?_ _ | refine Below.setCell ?_ (by first | (simp; done) | (simp; omega)) _ | refine Below.chain ?_ (by assumption)))⟩

set_option maxHeartbeats 1600000 in
theorem szStep_c (x : Stp) (left : Int) (l0 : 0 ≤ left) (l1 : left ≤ 1048576) (b0 : x.call.name.size ≤ maxLen) (b1 : x.call.dest.size ≤ maxLen) (b2 : x.call.text.size ≤ maxLen) (w : World) :
    Calls Try.prog 75 #[.agg #[.int .i64 x.proc, .int .i64 x.call.kind, .string x.call.name, .string x.call.dest, .int .i64 x.call.a, .int .i64 x.call.b, .string x.call.text], .int .i64 left] w fun e w' => e = .returned (.int .i64 (szSub left (bulkP x))) ∧ Below w.heap.size w w' := by
  by_cases h : left < (bulkCal x.call : Nat)
  · have HS := Lib.hid (szSub_no h)
    have HT := Lib.hid (show szSub left (bulkP x) = -1 from szSub_no h)
    clear h
    go_enter Try.func75, Try.ntmps75
    go_wp2_with fail
    refine (szCall_c x.call left l0 l1 b0 b1 b2 _).mono ?_
    rintro e w1 ⟨rfl, hb1⟩
    rw [HS.out]
    go_wp2
    go_ret
    exact ⟨by rw [HT.out]; rfl, (by repeat (first | exact Below.refl _ _ | refine Below.drew ?_ | refine Below.allocC ?_ _ | refine Below.setCell ?_ (by first | (simp; done) | (simp; omega)) _ | refine Below.chain ?_ (by assumption)))⟩
  · have HS := Lib.hid (szSub_yes (left := left) (n := bulkCal x.call) (by omega))
    have HT := Lib.hid (show szSub left (bulkP x) = left - (bulkCal x.call : Nat) from szSub_yes (show ((bulkCal x.call : Nat) : Int) ≤ left by omega))
    go_enter Try.func75, Try.ntmps75
    go_wp2_with fail
    refine (szCall_c x.call left l0 l1 b0 b1 b2 _).mono ?_
    rintro e w1 ⟨rfl, hb1⟩
    rw [HS.out]
    go_wp2
    go_ret
    exact ⟨by rw [HT.out]; rfl, (by repeat (first | exact Below.refl _ _ | refine Below.drew ?_ | refine Below.allocC ?_ _ | refine Below.setCell ?_ (by first | (simp; done) | (simp; omega)) _ | refine Below.chain ?_ (by assumption)))⟩

set_option maxHeartbeats 1600000 in
theorem eqStep_c (x y : Stp) (w : World) :
    Calls Try.prog 78 #[.agg #[.int .i64 x.proc, .int .i64 x.call.kind, .string x.call.name, .string x.call.dest, .int .i64 x.call.a, .int .i64 x.call.b, .string x.call.text], .agg #[.int .i64 y.proc, .int .i64 y.call.kind, .string y.call.name, .string y.call.dest, .int .i64 y.call.a, .int .i64 y.call.b, .string y.call.text]] w fun e w' => e = .returned (.bool (same x y)) ∧ Below w.heap.size w w' := by
  obtain ⟨p, c⟩ := x
  obtain ⟨q, d⟩ := y
  dsimp only
  by_cases h0 : p = q
  · subst h0
    have HS := Lib.hid (show same (Stp.mk p c) (Stp.mk p d) = same c d from same_congr (by simp))
    go_enter Try.func78, Try.ntmps78
    go_wp2_with fail
    refine (eqCall_c c d _).mono ?_
    rintro e w1 ⟨rfl, hb1⟩
    cases hcd : same c d
    · go_wp2
      go_ret
      exact ⟨by rw [HS.out, hcd]; rfl, (by repeat (first | exact Below.refl _ _ | refine Below.drew ?_ | refine Below.allocC ?_ _ | refine Below.setCell ?_ (by first | (simp; done) | (simp; omega)) _ | refine Below.chain ?_ (by assumption)))⟩
    · go_wp2
      go_ret
      exact ⟨by rw [HS.out, hcd]; rfl, (by repeat (first | exact Below.refl _ _ | refine Below.drew ?_ | refine Below.allocC ?_ _ | refine Below.setCell ?_ (by first | (simp; done) | (simp; omega)) _ | refine Below.chain ?_ (by assumption)))⟩
  · have HS := Lib.hid (show same (Stp.mk p c) (Stp.mk q d) = false from same_ne (by simp [h0]))
    have q1 : (p != q) = true := by simp [h0]
    clear h0
    go_enter Try.func78, Try.ntmps78
    go_wp2
    go_ret
    exact ⟨by rw [HS.out]; rfl, (by repeat (first | exact Below.refl _ _ | refine Below.drew ?_ | refine Below.allocC ?_ _ | refine Below.setCell ?_ (by first | (simp; done) | (simp; omega)) _ | refine Below.chain ?_ (by assumption)))⟩
end Go.Proofs.Ytpfkiiiihmijdaa
