/- FnExactTold: for every input the program's Told returns what the reference's returns. No conditions. -/
import Derived.Test.YtpfkiiiihmijdaaRows
import Derived.Test.YtpfkiiiihmijdaaToldI
import Derived.Lib.Hide
import Derived.Deep.RegionHeld3
import Derived.Deep.DrawnRows
namespace Go.Proofs.Ytpfkiiiihmijdaa.fnExactTold
open Go.ChangeShapes Go.WideShapes Go.ChangeAt Go.RowKit
open Go.ChangeMaps (open_string shut_string)
attribute [local go_sem ↓] Go.wp_at_zero Go.wp_at_succ
set_option maxHeartbeats 4000000 in
theorem walk0 (x0 : Cal) (w : World) (w0 : okCal x0) :
    Calls Try.prog 14 #[.agg #[.int .i64 x0.kind, .string x0.name, .string x0.dest, .int .i64 x0.a, .int .i64 x0.b, .string x0.text]] w fun e w' => e = .returned (.bool true) ∧ Below w.heap.size w w' := by
  by_cases q0 : (1048576 : Int) < (bulkCal x0 : Nat)
  · have E0 := Lib.hid (szSub_no q0)
    go_enter Try.func14, Try.ntmps14
    go_wp2_with fail
    refine (szCall_c x0 _ (by omega) (by omega) w0.2.2.2.1 w0.2.2.2.2.1 w0.2.2.2.2.2 _).mono ?_
    rintro e w1' ⟨rfl, hb1⟩
    rw [E0.out]
    go_wp2
    go_ret
    exact ⟨rfl, (by repeat (first | exact Below.refl _ _ | refine Below.drew ?_ | refine Below.allocC ?_ _ | refine Below.setCell ?_ (by first | (simp; done) | (simp; omega)) _ | refine Below.chain ?_ (by assumption)))⟩
  have E0 := Lib.hid (szSub_yes (left := 1048576) (n := bulkCal x0) (by omega))
  go_enter Try.func14, Try.ntmps14
  go_wp2_with fail
  refine (szCall_c x0 _ (by omega) (by omega) w0.2.2.2.1 w0.2.2.2.2.1 w0.2.2.2.2.2 _).mono ?_
  rintro e w1' ⟨rfl, hb1⟩
  rw [E0.out]
  have B0 := (Box.new w [.int .i64 x0.kind, .string x0.name, .string x0.dest, .int .i64 x0.a, .int .i64 x0.b, .string x0.text] 24).below hb1
  have f0 := B0.cell 0 _ rfl
  have f1 := B0.cell 1 _ rfl
  have f2 := B0.cell 2 _ rfl
  have f3 := B0.cell 3 _ rfl
  have f4 := B0.cell 4 _ rfl
  have f5 := B0.cell 5 _ rfl
  go_wp2_with fail
  refine (toCall_c x0 _).mono ?_
  rintro e w2' ⟨rfl, hb2⟩
  clear f0 f1 f2 f3 f4 f5
  replace B0 := B0.below hb2
  go_wp2_with fail
  refine (specTold_c x0 _).mono ?_
  rintro e w3' ⟨rfl, hb3⟩
  replace B0 := B0.below hb3
  have f0 := B0.cell 0 _ rfl
  have f1 := B0.cell 1 _ rfl
  have f2 := B0.cell 2 _ rfl
  have f3 := B0.cell 3 _ rfl
  have f4 := B0.cell 4 _ rfl
  have f5 := B0.cell 5 _ rfl
  have q0 := B0.1
  replace B0 := B0.alloc (.cells #[.int .i64 (toldOf x0).kind, .string (toldOf x0).name, .string (toldOf x0).dest, .int .i64 (toldOf x0).a, .int .i64 (toldOf x0).b, .string (toldOf x0).text] 27)
  have V0 := Box.new w3' [.int .i64 (toldOf x0).kind, .string (toldOf x0).name, .string (toldOf x0).dest, .int .i64 (toldOf x0).a, .int .i64 (toldOf x0).b, .string (toldOf x0).text] 27
  go_wp2_with fail
  refine (toCall_c x0 _).mono ?_
  rintro e w4' ⟨rfl, hb4⟩
  clear f0 f1 f2 f3 f4 f5
  replace V0 := V0.below hb4
  go_wp2_with fail
  refine (implTold_c x0 _).mono ?_
  rintro e w5' ⟨rfl, hb5⟩
  replace V0 := V0.below hb5
  have v0 := V0.cell 0 _ rfl
  have v1 := V0.cell 1 _ rfl
  have v2 := V0.cell 2 _ rfl
  have v3 := V0.cell 3 _ rfl
  have v4 := V0.cell 4 _ rfl
  have v5 := V0.cell 5 _ rfl
  have q1 := V0.1
  go_wp2_with fail
  refine (eqCall_c (toldOf x0) (toldOf x0) _).mono ?_
  rintro e w6' ⟨rfl, hb6⟩
  rw [same_self]
  go_wp2
  go_ret
  exact ⟨rfl, (by repeat (first | exact Below.refl _ _ | refine Below.drew ?_ | refine Below.allocC ?_ _ | refine Below.setCell ?_ (by first | (simp; done) | (simp; omega)) _ | refine Below.chain ?_ (by assumption)))⟩

theorem walk (x0 : Cal) (w : World) (w0 : okCal x0) :
    Calls Try.prog 14 #[.agg (encCal x0).toArray] w fun e w' => e = .returned (.bool true) ∧ Below w.heap.size w w' := walk0 x0 w w0

/- SIG
theorem walk (x0 : Cal) (w : World) (w0 : okCal x0) :
    Calls Try.prog 14 #[.agg (encCal x0).toArray] w fun e w' => e = .returned (.bool true) ∧ Below w.heap.size w w' := by
-/
theorem own : ownKnob Try.prog.godebug = none := by kernel_rfl
theorem laidOut : laidOutB Try.prog = true := by kernel_rfl
set_option maxRecDepth 100000 in
theorem lifted (os : Os) (started : os.Started) (H : Type) (enc : TypeId × Value → H) :
    ReturnsInHanded {} Try.checked os 14 .any (Rows.fnExactToldSpec.pre6 enc Try.prog Try.f14 Rows.fnExactToldRow.domain false) (Rows.fnExactToldSpec.post enc Try.prog Try.f14 false true false false) := by
  refine returnsInHanded_of_change (C := Try.checked) own started (by kernel_rfl) Try.func14
    (ChangeSpec.witness6 (enc := enc) (C := Try.checked) false ⟨#[], #[.agg #[.int .i64 0, .string ByteArray.empty, .string ByteArray.empty, .int .i64 0, .int .i64 0, .string ByteArray.empty]], []⟩ 8 (by kernel_rfl) (by kernel_rfl) (by kernel_rfl) (by kernel_rfl)) ?_
  intro W base args ds gs before hval0 hW _ _
  have hval : ∀ (j : Nat) t v, Try.f14.params[j]? = some t → args[j]? = some v → Value.okWide Try.prog W .any base t v := hval0
  have hW' := hW
  obtain ⟨p, q, hA0, hV, rfl, hfz, hnd⟩ := hW
  have hA : DataW.TrodAll enc Try.prog W 0 (fun _ => true) true Try.f14.params.toList args.toList ds p := hA0
  rw [Try.params14] at hA hval
  obtain ⟨v0, vs0, d0, ds0, p0, q0, hargs, rfl, rfl, h0, g0⟩ := trodAll_cons hA
  obtain ⟨rfl, rfl, rfl⟩ := trodAll_nil g0
  obtain rfl : args = #[v0] := by cases args; simp_all
  obtain ⟨rfl, rfl⟩ := trodVars_none hV
  have k0 := h0
  have lt0 : ∀ x ∈ p0, x.block < W.heap.size := by obtain ⟨m, hm⟩ := k0; exact DataW.trod_lt m _ _ _ hm
  obtain ⟨x0, rfl, w0⟩ := open_aggE encCal okCal 6 Try.underlying24 (by kernel_rfl) (elem_call Try.underlying24 (by kernel_rfl) Try.underlying3 Try.underlying9 Try.underlying9 Try.underlying3 Try.underlying3 Try.underlying9) (hval 0 24 v0 rfl rfl) h0
  clear hA0 hval0
  refine (walk x0 W w0).mono fun e W' ⟨he, bel⟩ => ?_
  subst he
  exact ⟨_, rfl, _, _, _, [], _, [], hW', trodAll_mk1 (shut_bool Try.underlying4 _), (trodAll_cons_mk (Below.trod laidOut (by kernel_rfl) (of_decide_eq_true (by kernel_rfl)) k0 bel lt0) trodAll_mk0), rfl, bel.frame _, fun h => by cases h⟩
theorem over : Rows.fnExactToldRow.holds Try.pinned (OpenSpec.ofChange Rows.fnExactToldSpec) :=
  OpenClaim.holds_of_wide 14 Try.f14 rfl rfl rfl rfl rfl rfl rfl ⟨rfl, rfl, rfl, rfl, rfl⟩ rfl rfl rfl rfl rfl (by kernel_rfl) Try.func14 (by kernel_rfl)
    (of_decide_eq_true (by kernel_rfl)) (by unfold Func.isWrapper; first | (rw [if_pos (by decide +kernel)]; kernel_rfl) | (rw [if_neg (by decide +kernel)]; exact ⟨rfl, rfl⟩))
    (fun os started H enc _ => lifted os started H enc)
theorem proved : Rows.FnExactToldSaid := over
#print axioms proved

end Go.Proofs.Ytpfkiiiihmijdaa.fnExactTold
