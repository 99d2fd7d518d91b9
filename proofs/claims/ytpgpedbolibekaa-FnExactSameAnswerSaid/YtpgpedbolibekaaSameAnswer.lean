/- FnExactSameAnswer: for every input the program's SameAnswer returns what the reference's returns. No conditions. -/
import Derived.Test.YtpgpedbolibekaaRows
import Derived.Test.YtpgpedbolibekaaRead
import Derived.Test.YtpgpedbolibekaaAnswer
import Derived.Deep.RegionHeld3
import Derived.Deep.DrawnRows
namespace Go.Proofs.Ytpgpedbolibekaa.fnExactSameAnswer
open Go.ChangeShapes Go.WideShapes Go.ChangeAt Go.RowKit
open Go.ChangeMaps (open_string shut_string)
attribute [local go_sem ↓] Go.wp_at_zero Go.wp_at_succ

set_option maxHeartbeats 1000000 in
theorem walk0 (c0 n0 : Int) (t0 : ByteArray) (c1 n1 : Int) (t1 : ByteArray) (w : World) (w0 : t0.size ≤ maxLen) (w1 : t1.size ≤ maxLen) :
    Calls Try.prog 6 #[.agg #[.int .i64 c0, .int .i64 n0, .string t0], .agg #[.int .i64 c1, .int .i64 n1, .string t1]] w fun e w' => e = .returned (.bool true) ∧ Below w.heap.size w w' := by
  unfold maxLen at w0 w1
  by_cases h0 : (1048576 : Int) < t0.size
  · have hs : szSub 1048576 t0.size = -1 := by unfold szSub; rw [if_pos h0]
    go_enter Try.func6, Try.ntmps6
    go_wp2_with fail
    refine (szAnswer_c _ _ _ _ (by omega) (by omega) (by omega) _).mono ?_
    rintro e w1 ⟨rfl, hb1⟩
    rw [hs]
    go_wp2
    go_ret
    exact ⟨rfl, (by repeat (first | exact Below.refl _ _ | refine Below.drew ?_ | refine Below.allocC ?_ _ | refine Below.setCell ?_ (by first | (simp; done) | (simp; omega)) _ | refine Below.chain ?_ (by assumption)))⟩
  · have hs : szSub 1048576 t0.size = 1048576 - t0.size := by unfold szSub; rw [if_neg h0]
    by_cases h1 : 1048576 - (t0.size : Int) < t1.size
    · have hs1 : szSub (1048576 - t0.size) t1.size = -1 := by unfold szSub; rw [if_pos h1]
      go_enter Try.func6, Try.ntmps6
      go_wp2_with fail
      refine (szAnswer_c _ _ _ _ (by omega) (by omega) (by omega) _).mono ?_
      rintro e w1 ⟨rfl, hb1⟩
      rw [hs]
      obtain ⟨hc, hf⟩ := bcell hb1
      go_wp2_with fail
      refine (szAnswer_c _ _ _ _ (by omega) (by omega) (by omega) _).mono ?_
      rintro e w2 ⟨rfl, hb2⟩
      rw [hs1]
      go_wp2
      go_ret
      exact ⟨rfl, (by repeat (first | exact Below.refl _ _ | refine Below.drew ?_ | refine Below.allocC ?_ _ | refine Below.setCell ?_ (by first | (simp; done) | (simp; omega)) _ | refine Below.chain ?_ (by assumption)))⟩
    · have hs1 : szSub (1048576 - t0.size) t1.size = 1048576 - t0.size - t1.size := by unfold szSub; rw [if_neg h1]
      go_enter Try.func6, Try.ntmps6
      go_wp2_with fail
      refine (szAnswer_c _ _ _ _ (by omega) (by omega) (by omega) _).mono ?_
      rintro e w1 ⟨rfl, hb1⟩
      rw [hs]
      obtain ⟨hc, hf⟩ := bcell hb1
      go_wp2_with fail
      refine (szAnswer_c _ _ _ _ (by omega) (by omega) (by omega) _).mono ?_
      rintro e w2 ⟨rfl, hb2⟩
      rw [hs1]
      obtain ⟨hc', hf'⟩ := bcell hb2
      have B0 := (((Box.new w [.int .i64 c0, .int .i64 n0, .string t0] 27).alloc (.cells #[.int .i64 c1, .int .i64 n1, .string t1] 27)).below hb1).below hb2
      have B1 := ((Box.new (w.alloc (.cells #[.int .i64 c0, .int .i64 n0, .string t0] 27)) [.int .i64 c1, .int .i64 n1, .string t1] 27).below hb1).below hb2
      simp only [World.size_alloc] at B1
      clear hc hf hc' hf'
      have f00 := B0.cell 0 _ rfl
      have f01 := B0.cell 1 _ rfl
      have f02 := B0.cell 2 _ rfl
      have f10 := B1.cell 0 _ rfl
      have f11 := B1.cell 1 _ rfl
      have f12 := B1.cell 2 _ rfl
      have q0 := B0.1
      have q1 := B1.1
      go_wp2_with fail
      go_region_held3 (fun w' => w'.cell? ⟨w.heap.size, 0, none⟩ = some (.int .i64 c0) ∧ w'.cell? ⟨w.heap.size, 1, none⟩ = some (.int .i64 n0) ∧ w'.cell? ⟨w.heap.size, 2, none⟩ = some (.string t0) ∧ w'.cell? ⟨(w.heap.size + 1), 0, none⟩ = some (.int .i64 c1) ∧ w'.cell? ⟨(w.heap.size + 1), 1, none⟩ = some (.int .i64 n1) ∧ w'.cell? ⟨(w.heap.size + 1), 2, none⟩ = some (.string t1)) ((go_split_ands; (repeat' apply And.intro) <;> first | assumption | exact keepS (by assumption) (by assumption)))
        (first | (go_at_call 14; refine (toAnswer_c _ _ _ _).mono ?_; rintro e w' ⟨rfl, hb3⟩) | (go_at_call 13; refine (specSameAnswer_c _ _ _ _ _ _ _).mono ?_; rintro e w' ⟨rfl, hb4⟩))
      go_wp2_with fail
      have H5 : w'.cell? ⟨w.heap.size, 0, none⟩ = some (.int .i64 c0) ∧ w'.cell? ⟨w.heap.size, 1, none⟩ = some (.int .i64 n0) ∧ w'.cell? ⟨w.heap.size, 2, none⟩ = some (.string t0) ∧ w'.cell? ⟨(w.heap.size + 1), 0, none⟩ = some (.int .i64 c1) ∧ w'.cell? ⟨(w.heap.size + 1), 1, none⟩ = some (.int .i64 n1) ∧ w'.cell? ⟨(w.heap.size + 1), 2, none⟩ = some (.string t1) := by assumption
      obtain ⟨g00, g01, g02, g10, g11, g12⟩ := H5
      clear f00 f01 f02 f10 f11 f12 B0 B1
      go_region_held3 (fun w' => w'.cell? ⟨w.heap.size, 0, none⟩ = some (.int .i64 c0) ∧ w'.cell? ⟨w.heap.size, 1, none⟩ = some (.int .i64 n0) ∧ w'.cell? ⟨w.heap.size, 2, none⟩ = some (.string t0) ∧ w'.cell? ⟨(w.heap.size + 1), 0, none⟩ = some (.int .i64 c1) ∧ w'.cell? ⟨(w.heap.size + 1), 1, none⟩ = some (.int .i64 n1) ∧ w'.cell? ⟨(w.heap.size + 1), 2, none⟩ = some (.string t1)) ((go_split_ands; (repeat' apply And.intro) <;> first | assumption | exact keepS (by assumption) (by assumption)))
        (first | (go_at_call 14; refine (toAnswer_c _ _ _ _).mono ?_; rintro e w' ⟨rfl, hb3⟩) | (go_at_call 15; refine (implSameAnswer_c _ _ _ _ _ _ _).mono ?_; rintro e w' ⟨rfl, hb4⟩))
      generalize (c0 == c1 && n0 == n1 && t0.toList == t1.toList) = r
      go_wp2
      go_ret
      exact ⟨rfl, (by repeat (first | exact Below.refl _ _ | refine Below.drew ?_ | refine Below.allocC ?_ _ | refine Below.setCell ?_ (by first | (simp; done) | (simp; omega)) _ | refine Below.chain ?_ (by assumption)))⟩

theorem walk (x0 : Ans) (x1 : Ans) (w : World) (w0 : okA x0) (w1 : okA x1) :
    Calls Try.prog 6 #[.agg (encA x0).toArray, .agg (encA x1).toArray] w fun e w' => e = .returned (.bool true) ∧ Below w.heap.size w w' :=
  walk0 x0.code x0.n x0.text x1.code x1.n x1.text w w0.2.2 w1.2.2

/- SIG
theorem walk (x0 : Ans) (x1 : Ans) (w : World) (w0 : okA x0) (w1 : okA x1) :
    Calls Try.prog 6 #[.agg (encA x0).toArray, .agg (encA x1).toArray] w fun e w' => e = .returned (.bool true) ∧ Below w.heap.size w w' := by
-/
theorem own : ownKnob Try.prog.godebug = none := by kernel_rfl
theorem laidOut : laidOutB Try.prog = true := by kernel_rfl
set_option maxRecDepth 100000 in
theorem lifted (os : Os) (started : os.Started) (H : Type) (enc : TypeId × Value → H) :
    ReturnsInHanded {} Try.checked os 6 .any (Rows.fnExactSameAnswerSpec.pre6 enc Try.prog Try.f6 Rows.fnExactSameAnswerRow.domain false) (Rows.fnExactSameAnswerSpec.post enc Try.prog Try.f6 false true false false) := by
  refine returnsInHanded_of_change (C := Try.checked) own started (by kernel_rfl) Try.func6
    (ChangeSpec.witness6 (enc := enc) (C := Try.checked) false ⟨#[], #[.agg #[.int .i64 0, .int .i64 0, .string ByteArray.empty], .agg #[.int .i64 0, .int .i64 0, .string ByteArray.empty]], []⟩ 8 (by kernel_rfl) (by kernel_rfl) (by kernel_rfl) (by kernel_rfl)) ?_
  intro W base args ds gs before hval0 hW hcnd _
  have hval : ∀ (j : Nat) t v, Try.f6.params[j]? = some t → args[j]? = some v → Value.okWide Try.prog W .any base t v := hval0
  have hW' := hW
  obtain ⟨p, q, hA0, hV, rfl, hfz, hnd⟩ := hW
  have hA : DataW.TrodAll enc Try.prog W 0 (fun _ => true) true Try.f6.params.toList args.toList ds p := hA0
  rw [Try.params6] at hA hval
  obtain ⟨v0, vs0, d0, ds0, p0, q0, hargs, rfl, rfl, h0, g0⟩ := trodAll_cons hA
  obtain ⟨v1, vs1, d1, ds1, p1, q1, rfl, rfl, rfl, h1, g1⟩ := trodAll_cons g0
  obtain ⟨rfl, rfl, rfl⟩ := trodAll_nil g1
  obtain rfl : args = #[v0, v1] := by cases args; simp_all
  obtain ⟨rfl, rfl⟩ := trodVars_none hV
  have k0 := h0
  have lt0 : ∀ x ∈ p0, x.block < W.heap.size := by obtain ⟨m, hm⟩ := k0; exact DataW.trod_lt m _ _ _ hm
  have k1 := h1
  have lt1 : ∀ x ∈ p1, x.block < W.heap.size := by obtain ⟨m, hm⟩ := k1; exact DataW.trod_lt m _ _ _ hm
  obtain ⟨x0, rfl, w0⟩ := open_aggE encA okA 3 Try.underlying27 (by kernel_rfl) (elem_answer Try.underlying27 (by kernel_rfl) Try.underlying3 Try.underlying3 Try.underlying9) (hval 0 27 v0 rfl rfl) h0
  obtain ⟨x1, rfl, w1⟩ := open_aggE encA okA 3 Try.underlying27 (by kernel_rfl) (elem_answer Try.underlying27 (by kernel_rfl) Try.underlying3 Try.underlying3 Try.underlying9) (hval 1 27 v1 rfl rfl) h1
  clear hA0 hval0
  refine (walk x0 x1 W w0 w1).mono fun e W' ⟨he, bel⟩ => ?_
  subst he
  exact ⟨_, rfl, _, _, _, [], _, [], hW', trodAll_mk1 (shut_bool Try.underlying4 _), (trodAll_cons_mk (Below.trod laidOut (by kernel_rfl) (of_decide_eq_true (by kernel_rfl)) k0 bel lt0) (trodAll_cons_mk (Below.trod laidOut (by kernel_rfl) (of_decide_eq_true (by kernel_rfl)) k1 bel lt1) trodAll_mk0)), rfl, bel.frame _, fun h => by cases h⟩
theorem over : Rows.fnExactSameAnswerRow.holds Try.pinned (OpenSpec.ofChange Rows.fnExactSameAnswerSpec) :=
  OpenClaim.holds_of_wide 6 Try.f6 rfl rfl rfl rfl rfl rfl rfl ⟨rfl, rfl, rfl, rfl, rfl⟩ rfl rfl rfl rfl rfl (by kernel_rfl) Try.func6 (by kernel_rfl)
    (of_decide_eq_true (by kernel_rfl)) (by unfold Func.isWrapper; first | (rw [if_pos (by decide +kernel)]; kernel_rfl) | (rw [if_neg (by decide +kernel)]; exact ⟨rfl, rfl⟩))
    (fun os started H enc _ => lifted os started H enc)
theorem proved : Rows.FnExactSameAnswerSaid := over
#print axioms proved

end Go.Proofs.Ytpgpedbolibekaa.fnExactSameAnswer
