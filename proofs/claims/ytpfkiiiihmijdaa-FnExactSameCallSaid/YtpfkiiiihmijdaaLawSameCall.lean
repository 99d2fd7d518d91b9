/- FnExactSameCall: for every input the program's SameCall returns what the reference's returns. No conditions. -/
import Derived.Test.YtpfkiiiihmijdaaRows
import Derived.Test.YtpfkiiiihmijdaaSameCall
import Derived.Lib.Hide
import Derived.Deep.RegionHeld3
import Derived.Deep.DrawnRows
namespace Go.Proofs.Ytpfkiiiihmijdaa.fnExactSameCall
open Go.ChangeShapes Go.WideShapes Go.ChangeAt Go.RowKit
open Go.ChangeMaps (open_string shut_string)
attribute [local go_sem ↓] Go.wp_at_zero Go.wp_at_succ
set_option maxHeartbeats 4000000 in
theorem walk0 (x0 x1 : Cal) (w : World) (w0 : okCal x0) (w1 : okCal x1) :
    Calls Try.prog 4 #[.agg #[.int .i64 x0.kind, .string x0.name, .string x0.dest, .int .i64 x0.a, .int .i64 x0.b, .string x0.text], .agg #[.int .i64 x1.kind, .string x1.name, .string x1.dest, .int .i64 x1.a, .int .i64 x1.b, .string x1.text]] w fun e w' => e = .returned (.bool true) ∧ Below w.heap.size w w' := by
  by_cases q0 : (1048576 : Int) < (bulkCal x0 : Nat)
  · have E0 := Lib.hid (szSub_no q0)
    go_enter Try.func4, Try.ntmps4
    go_wp2_with fail
    refine (szCall_c x0 _ (by omega) (by omega) w0.2.2.2.1 w0.2.2.2.2.1 w0.2.2.2.2.2 _).mono ?_
    rintro e w1' ⟨rfl, hb1⟩
    rw [E0.out]
    go_wp2
    go_ret
    exact ⟨rfl, (by repeat (first | exact Below.refl _ _ | refine Below.drew ?_ | refine Below.allocC ?_ _ | refine Below.setCell ?_ (by first | (simp; done) | (simp; omega)) _ | refine Below.chain ?_ (by assumption)))⟩
  have E0 := Lib.hid (szSub_yes (left := 1048576) (n := bulkCal x0) (by omega))
  by_cases q1 : (1048576 - (bulkCal x0 : Nat) : Int) < (bulkCal x1 : Nat)
  · have E1 := Lib.hid (szSub_no q1)
    go_enter Try.func4, Try.ntmps4
    go_wp2_with fail
    refine (szCall_c x0 _ (by omega) (by omega) w0.2.2.2.1 w0.2.2.2.2.1 w0.2.2.2.2.2 _).mono ?_
    rintro e w1' ⟨rfl, hb1⟩
    rw [E0.out]
    have B1 := (Box.new (w.alloc (.cells #[.int .i64 x0.kind, .string x0.name, .string x0.dest, .int .i64 x0.a, .int .i64 x0.b, .string x0.text] 24)) [.int .i64 x1.kind, .string x1.name, .string x1.dest, .int .i64 x1.a, .int .i64 x1.b, .string x1.text] 24).below hb1
    simp only [World.size_alloc] at B1
    have f0 := B1.cell 0 _ rfl
    have f1 := B1.cell 1 _ rfl
    have f2 := B1.cell 2 _ rfl
    have f3 := B1.cell 3 _ rfl
    have f4 := B1.cell 4 _ rfl
    have f5 := B1.cell 5 _ rfl
    go_wp2_with fail
    refine (szCall_c x1 _ (by omega) (by omega) w1.2.2.2.1 w1.2.2.2.2.1 w1.2.2.2.2.2 _).mono ?_
    rintro e w2' ⟨rfl, hb2⟩
    rw [E1.out]
    go_wp2
    go_ret
    exact ⟨rfl, (by repeat (first | exact Below.refl _ _ | refine Below.drew ?_ | refine Below.allocC ?_ _ | refine Below.setCell ?_ (by first | (simp; done) | (simp; omega)) _ | refine Below.chain ?_ (by assumption)))⟩
  have E1 := Lib.hid (szSub_yes (left := 1048576 - (bulkCal x0 : Nat)) (n := bulkCal x1) (by omega))
  go_enter Try.func4, Try.ntmps4
  go_wp2_with fail
  refine (szCall_c x0 _ (by omega) (by omega) w0.2.2.2.1 w0.2.2.2.2.1 w0.2.2.2.2.2 _).mono ?_
  rintro e w1' ⟨rfl, hb1⟩
  rw [E0.out]
  have B0 := ((Box.new w [.int .i64 x0.kind, .string x0.name, .string x0.dest, .int .i64 x0.a, .int .i64 x0.b, .string x0.text] 24).alloc (.cells #[.int .i64 x1.kind, .string x1.name, .string x1.dest, .int .i64 x1.a, .int .i64 x1.b, .string x1.text] 24)).below hb1
  have B1 := (Box.new (w.alloc (.cells #[.int .i64 x0.kind, .string x0.name, .string x0.dest, .int .i64 x0.a, .int .i64 x0.b, .string x0.text] 24)) [.int .i64 x1.kind, .string x1.name, .string x1.dest, .int .i64 x1.a, .int .i64 x1.b, .string x1.text] 24).below hb1
  simp only [World.size_alloc] at B1
  have f0 := B1.cell 0 _ rfl
  have f1 := B1.cell 1 _ rfl
  have f2 := B1.cell 2 _ rfl
  have f3 := B1.cell 3 _ rfl
  have f4 := B1.cell 4 _ rfl
  have f5 := B1.cell 5 _ rfl
  go_wp2_with fail
  refine (szCall_c x1 _ (by omega) (by omega) w1.2.2.2.1 w1.2.2.2.2.1 w1.2.2.2.2.2 _).mono ?_
  rintro e w2' ⟨rfl, hb2⟩
  rw [E1.out]
  have C0 := B0.below hb2
  have C1 := B1.below hb2
  clear f0 f1 f2 f3 f4 f5
  have f0 := C0.cell 0 _ rfl
  have g0 := C1.cell 0 _ rfl
  have f1 := C0.cell 1 _ rfl
  have g1 := C1.cell 1 _ rfl
  have f2 := C0.cell 2 _ rfl
  have g2 := C1.cell 2 _ rfl
  have f3 := C0.cell 3 _ rfl
  have g3 := C1.cell 3 _ rfl
  have f4 := C0.cell 4 _ rfl
  have g4 := C1.cell 4 _ rfl
  have f5 := C0.cell 5 _ rfl
  have g5 := C1.cell 5 _ rfl
  go_wp2_with fail
  go_region_held3 (fun w' => w'.cell? ⟨w.heap.size, 0, none⟩ = some (.int .i64 x0.kind) ∧ w'.cell? ⟨w.heap.size, 1, none⟩ = some (.string x0.name) ∧ w'.cell? ⟨w.heap.size, 2, none⟩ = some (.string x0.dest) ∧ w'.cell? ⟨w.heap.size, 3, none⟩ = some (.int .i64 x0.a) ∧ w'.cell? ⟨w.heap.size, 4, none⟩ = some (.int .i64 x0.b) ∧ w'.cell? ⟨w.heap.size, 5, none⟩ = some (.string x0.text) ∧ w'.cell? ⟨w.heap.size + 1, 0, none⟩ = some (.int .i64 x1.kind) ∧ w'.cell? ⟨w.heap.size + 1, 1, none⟩ = some (.string x1.name) ∧ w'.cell? ⟨w.heap.size + 1, 2, none⟩ = some (.string x1.dest) ∧ w'.cell? ⟨w.heap.size + 1, 3, none⟩ = some (.int .i64 x1.a) ∧ w'.cell? ⟨w.heap.size + 1, 4, none⟩ = some (.int .i64 x1.b) ∧ w'.cell? ⟨w.heap.size + 1, 5, none⟩ = some (.string x1.text)) ((go_split_ands; (repeat' apply And.intro) <;> first | assumption | exact keepS (by assumption) (by assumption)))
    (first | (go_at_call 19; refine (toCall_c _ _).mono ?_; rintro e w' ⟨rfl, hb3⟩) | (go_at_call 18; refine (specSameCall_c x0 x1 _).mono ?_; rintro e w' ⟨rfl, hb4⟩))
  go_wp2_with fail
  have H5 : w'.cell? ⟨w.heap.size, 0, none⟩ = some (.int .i64 x0.kind) ∧ w'.cell? ⟨w.heap.size, 1, none⟩ = some (.string x0.name) ∧ w'.cell? ⟨w.heap.size, 2, none⟩ = some (.string x0.dest) ∧ w'.cell? ⟨w.heap.size, 3, none⟩ = some (.int .i64 x0.a) ∧ w'.cell? ⟨w.heap.size, 4, none⟩ = some (.int .i64 x0.b) ∧ w'.cell? ⟨w.heap.size, 5, none⟩ = some (.string x0.text) ∧ w'.cell? ⟨w.heap.size + 1, 0, none⟩ = some (.int .i64 x1.kind) ∧ w'.cell? ⟨w.heap.size + 1, 1, none⟩ = some (.string x1.name) ∧ w'.cell? ⟨w.heap.size + 1, 2, none⟩ = some (.string x1.dest) ∧ w'.cell? ⟨w.heap.size + 1, 3, none⟩ = some (.int .i64 x1.a) ∧ w'.cell? ⟨w.heap.size + 1, 4, none⟩ = some (.int .i64 x1.b) ∧ w'.cell? ⟨w.heap.size + 1, 5, none⟩ = some (.string x1.text) := by assumption
  obtain ⟨k0, k1, k2, k3, k4, k5, k6, k7, k8, k9, k10, k11⟩ := H5
  clear f0 g0 f1 g1 f2 g2 f3 g3 f4 g4 f5 g5 B0 B1 C0 C1
  go_wp2_with fail
  go_region_held3 (fun w' => w'.cell? ⟨w.heap.size, 0, none⟩ = some (.int .i64 x0.kind) ∧ w'.cell? ⟨w.heap.size, 1, none⟩ = some (.string x0.name) ∧ w'.cell? ⟨w.heap.size, 2, none⟩ = some (.string x0.dest) ∧ w'.cell? ⟨w.heap.size, 3, none⟩ = some (.int .i64 x0.a) ∧ w'.cell? ⟨w.heap.size, 4, none⟩ = some (.int .i64 x0.b) ∧ w'.cell? ⟨w.heap.size, 5, none⟩ = some (.string x0.text) ∧ w'.cell? ⟨w.heap.size + 1, 0, none⟩ = some (.int .i64 x1.kind) ∧ w'.cell? ⟨w.heap.size + 1, 1, none⟩ = some (.string x1.name) ∧ w'.cell? ⟨w.heap.size + 1, 2, none⟩ = some (.string x1.dest) ∧ w'.cell? ⟨w.heap.size + 1, 3, none⟩ = some (.int .i64 x1.a) ∧ w'.cell? ⟨w.heap.size + 1, 4, none⟩ = some (.int .i64 x1.b) ∧ w'.cell? ⟨w.heap.size + 1, 5, none⟩ = some (.string x1.text)) ((go_split_ands; (repeat' apply And.intro) <;> first | assumption | exact keepS (by assumption) (by assumption)))
    (first | (go_at_call 19; refine (toCall_c _ _).mono ?_; rintro e w' ⟨rfl, hb3⟩) | (go_at_call 20; refine (implSameCall_c x0 x1 _).mono ?_; rintro e w' ⟨rfl, hb4⟩))
  generalize same x0 x1 = r
  go_wp2
  go_ret
  exact ⟨rfl, (by repeat (first | exact Below.refl _ _ | refine Below.drew ?_ | refine Below.allocC ?_ _ | refine Below.setCell ?_ (by first | (simp; done) | (simp; omega)) _ | refine Below.chain ?_ (by assumption)))⟩

theorem walk (x0 : Cal) (x1 : Cal) (w : World) (w0 : okCal x0) (w1 : okCal x1) :
    Calls Try.prog 4 #[.agg (encCal x0).toArray, .agg (encCal x1).toArray] w fun e w' => e = .returned (.bool true) ∧ Below w.heap.size w w' := walk0 x0 x1 w w0 w1

/- SIG
theorem walk (x0 : Cal) (x1 : Cal) (w : World) (w0 : okCal x0) (w1 : okCal x1) :
    Calls Try.prog 4 #[.agg (encCal x0).toArray, .agg (encCal x1).toArray] w fun e w' => e = .returned (.bool true) ∧ Below w.heap.size w w' := by
-/
theorem own : ownKnob Try.prog.godebug = none := by kernel_rfl
theorem laidOut : laidOutB Try.prog = true := by kernel_rfl
set_option maxRecDepth 100000 in
theorem lifted (os : Os) (started : os.Started) (H : Type) (enc : TypeId × Value → H) :
    ReturnsInHanded {} Try.checked os 4 .any (Rows.fnExactSameCallSpec.pre6 enc Try.prog Try.f4 Rows.fnExactSameCallRow.domain false) (Rows.fnExactSameCallSpec.post enc Try.prog Try.f4 false true false false) := by
  refine returnsInHanded_of_change (C := Try.checked) own started (by kernel_rfl) Try.func4
    (ChangeSpec.witness6 (enc := enc) (C := Try.checked) false ⟨#[], #[.agg #[.int .i64 0, .string ByteArray.empty, .string ByteArray.empty, .int .i64 0, .int .i64 0, .string ByteArray.empty], .agg #[.int .i64 0, .string ByteArray.empty, .string ByteArray.empty, .int .i64 0, .int .i64 0, .string ByteArray.empty]], []⟩ 8 (by kernel_rfl) (by kernel_rfl) (by kernel_rfl) (by kernel_rfl)) ?_
  intro W base args ds gs before hval0 hW _ _
  have hval : ∀ (j : Nat) t v, Try.f4.params[j]? = some t → args[j]? = some v → Value.okWide Try.prog W .any base t v := hval0
  have hW' := hW
  obtain ⟨p, q, hA0, hV, rfl, hfz, hnd⟩ := hW
  have hA : DataW.TrodAll enc Try.prog W 0 (fun _ => true) true Try.f4.params.toList args.toList ds p := hA0
  rw [Try.params4] at hA hval
  obtain ⟨v0, vs0, d0, ds0, p0, q0, hargs, rfl, rfl, h0, g0⟩ := trodAll_cons hA
  obtain ⟨v1, vs1, d1, ds1, p1, q1, rfl, rfl, rfl, h1, g1⟩ := trodAll_cons g0
  obtain ⟨rfl, rfl, rfl⟩ := trodAll_nil g1
  obtain rfl : args = #[v0, v1] := by cases args; simp_all
  obtain ⟨rfl, rfl⟩ := trodVars_none hV
  have k0 := h0
  have lt0 : ∀ x ∈ p0, x.block < W.heap.size := by obtain ⟨m, hm⟩ := k0; exact DataW.trod_lt m _ _ _ hm
  have k1 := h1
  have lt1 : ∀ x ∈ p1, x.block < W.heap.size := by obtain ⟨m, hm⟩ := k1; exact DataW.trod_lt m _ _ _ hm
  obtain ⟨x0, rfl, w0⟩ := open_aggE encCal okCal 6 Try.underlying24 (by kernel_rfl) (elem_call Try.underlying24 (by kernel_rfl) Try.underlying3 Try.underlying9 Try.underlying9 Try.underlying3 Try.underlying3 Try.underlying9) (hval 0 24 v0 rfl rfl) h0
  obtain ⟨x1, rfl, w1⟩ := open_aggE encCal okCal 6 Try.underlying24 (by kernel_rfl) (elem_call Try.underlying24 (by kernel_rfl) Try.underlying3 Try.underlying9 Try.underlying9 Try.underlying3 Try.underlying3 Try.underlying9) (hval 1 24 v1 rfl rfl) h1
  clear hA0 hval0
  refine (walk x0 x1 W w0 w1).mono fun e W' ⟨he, bel⟩ => ?_
  subst he
  exact ⟨_, rfl, _, _, _, [], _, [], hW', trodAll_mk1 (shut_bool Try.underlying4 _), (trodAll_cons_mk (Below.trod laidOut (by kernel_rfl) (of_decide_eq_true (by kernel_rfl)) k0 bel lt0) (trodAll_cons_mk (Below.trod laidOut (by kernel_rfl) (of_decide_eq_true (by kernel_rfl)) k1 bel lt1) trodAll_mk0)), rfl, bel.frame _, fun h => by cases h⟩
theorem over : Rows.fnExactSameCallRow.holds Try.pinned (OpenSpec.ofChange Rows.fnExactSameCallSpec) :=
  OpenClaim.holds_of_wide 4 Try.f4 rfl rfl rfl rfl rfl rfl rfl ⟨rfl, rfl, rfl, rfl, rfl⟩ rfl rfl rfl rfl rfl (by kernel_rfl) Try.func4 (by kernel_rfl)
    (of_decide_eq_true (by kernel_rfl)) (by unfold Func.isWrapper; first | (rw [if_pos (by decide +kernel)]; kernel_rfl) | (rw [if_neg (by decide +kernel)]; exact ⟨rfl, rfl⟩))
    (fun os started H enc _ => lifted os started H enc)
theorem proved : Rows.FnExactSameCallSaid := over
#print axioms proved

end Go.Proofs.Ytpfkiiiihmijdaa.fnExactSameCall
