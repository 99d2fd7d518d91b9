/- FnExactSameMach: for every input the program's SameMach returns what the reference's returns. No conditions. -/
import Derived.Test.YtnccenfdclmkkaaRows
import Derived.Test.YtnccenfdclmkkaaMachRead
import Derived.Test.YtnccenfdclmkkaaToMach
import Derived.Deep.RegionHeld3
import Derived.Deep.DrawnRows
namespace Go.Proofs.Ytnccenfdclmkkaa.fnExactSameMach
open Go.ChangeShapes Go.WideShapes Go.ChangeAt Go.RowKit
open Go.ChangeMaps (open_string shut_string)
attribute [local go_sem ↓] Go.wp_at_zero Go.wp_at_succ
set_option maxHeartbeats 8000000 in
theorem walk (ma0 mb0 mg0 : Option Addr) (mc0 md0 mh0 : Nat) (xs0 : List (ByteArray × ByteArray)) (rs0 ws0 : List ByteArray) (ma1 mb1 mg1 : Option Addr) (mc1 md1 mh1 : Nat) (xs1 : List (ByteArray × ByteArray)) (rs1 ws1 : List ByteArray) (w : World) (R0 : IsMach w ma0 mb0 mg0 xs0 rs0 ws0) (R1 : IsMach w ma1 mb1 mg1 xs1 rs1 ws1) :
    Calls Try.prog 9 #[.agg #[.slice ma0 xs0.length mc0, .slice mb0 rs0.length md0, .slice mg0 ws0.length mh0], .agg #[.slice ma1 xs1.length mc1, .slice mb1 rs1.length md1, .slice mg1 ws1.length mh1]] w fun e w' => e = .returned (.bool true) ∧ Below w.heap.size w w' := by
  have G0 := Lib.hid R0
  have G1 := Lib.hid R1
  clear R0 R1
  have HB0 : Below w.heap.size w ((w.alloc (.cells #[.slice ma0 xs0.length mc0, .slice mb0 rs0.length md0, .slice mg0 ws0.length mh0] 44)).alloc (.cells #[.slice ma1 xs1.length mc1, .slice mb1 rs1.length md1, .slice mg1 ws1.length mh1] 44)) := (by repeat (first | exact Below.refl _ _ | refine Below.drew ?_ | refine below_drewN ?_ _ | refine Below.allocC ?_ _ | refine Below.setCell ?_ (by first | (simp; done) | (simp; omega)) _ | refine Below.chain ?_ (by assumption)))
  have X0 := (Box.new w [.slice ma0 xs0.length mc0, .slice mb0 rs0.length md0, .slice mg0 ws0.length mh0] 44).alloc (.cells #[.slice ma1 xs1.length mc1, .slice mb1 rs1.length md1, .slice mg1 ws1.length mh1] 44)
  have X1 := Box.new (w.alloc (.cells #[.slice ma0 xs0.length mc0, .slice mb0 rs0.length md0, .slice mg0 ws0.length mh0] 44)) [.slice ma1 xs1.length mc1, .slice mb1 rs1.length md1, .slice mg1 ws1.length mh1] 44
  simp only [World.size_alloc] at X1
  have H0 := Lib.hid X0
  have H1 := Lib.hid X1
  clear X0 X1
  by_cases q0 : (1048576 : Int) < (bulkM xs0 rs0 ws0 : Nat)
  · have E0 := Lib.hid (szSub_no q0)
    go_enter Try.func9, Try.ntmps9
    go_wp2_with fail
    refine (szMach_c _ _ _ _ _ _ _ _ _ _ (by omega) (by omega) _ (G0.out.below HB0)).mono ?_
    rintro e w1 ⟨rfl, hb1⟩
    rw [E0.out]
    go_wp2
    go_ret
    exact ⟨rfl, HB0.trans (hb1.mono HB0.size)⟩
  have E0 := Lib.hid (szSub_yes (left := 1048576) (n := bulkM xs0 rs0 ws0) (by omega))
  by_cases q1 : (1048576 - (bulkM xs0 rs0 ws0 : Nat) : Int) < (bulkM xs1 rs1 ws1 : Nat)
  · have E1 := Lib.hid (szSub_no q1)
    go_enter Try.func9, Try.ntmps9
    go_wp2_with fail
    refine (szMach_c _ _ _ _ _ _ _ _ _ _ (by omega) (by omega) _ (G0.out.below HB0)).mono ?_
    rintro e w1 ⟨rfl, hb1⟩
    rw [E0.out]
    have B1 : Below w.heap.size w w1 := HB0.trans (hb1.mono HB0.size)
    have Y0 := H0.out.below hb1
    have Y1 := H1.out.below hb1
    have f0 := Y1.cell 0 _ rfl
    have f1 := Y1.cell 1 _ rfl
    have f2 := Y1.cell 2 _ rfl
    go_wp2_with fail
    refine (szMach_c _ _ _ _ _ _ _ _ _ _ (by omega) (by omega) _ (G1.out.below B1)).mono ?_
    rintro e w2 ⟨rfl, hb2⟩
    rw [E1.out]
    go_wp2
    go_ret
    exact ⟨rfl, B1.trans (hb2.mono B1.size)⟩
  have E1 := Lib.hid (szSub_yes (left := 1048576 - (bulkM xs0 rs0 ws0 : Nat)) (n := bulkM xs1 rs1 ws1) (by omega))
  have L0 : xs0.length ≤ 1048576 ∧ rs0.length ≤ 1048576 ∧ ws0.length ≤ 1048576 := by
    have t0 := bulkL_ge bulkC xs0
    have t1 := bulkL_ge bulkS rs0
    have t2 := bulkL_ge bulkS ws0
    unfold bulkM bulkT at *
    omega
  have P0 : xs0.length ≤ maxLen ∧ rs0.length ≤ maxLen ∧ ws0.length ≤ maxLen := by unfold maxLen; omega
  have HL0 := Lib.hid L0
  have HP0 := Lib.hid P0
  have L1 : xs1.length ≤ 1048576 ∧ rs1.length ≤ 1048576 ∧ ws1.length ≤ 1048576 := by
    have t0 := bulkL_ge bulkC xs1
    have t1 := bulkL_ge bulkS rs1
    have t2 := bulkL_ge bulkS ws1
    unfold bulkM bulkT at *
    omega
  have P1 : xs1.length ≤ maxLen ∧ rs1.length ≤ maxLen ∧ ws1.length ≤ maxLen := by unfold maxLen; omega
  have HL1 := Lib.hid L1
  have HP1 := Lib.hid P1
  clear L0 L1 P0 P1
  go_enter Try.func9, Try.ntmps9
  go_wp2_with fail
  refine (szMach_c _ _ _ _ _ _ _ _ _ _ (by omega) (by omega) _ (G0.out.below HB0)).mono ?_
  rintro e w1 ⟨rfl, hb1⟩
  rw [E0.out]
  have B1 : Below w.heap.size w w1 := HB0.trans (hb1.mono HB0.size)
  have Y0 := H0.out.below hb1
  have Y1 := H1.out.below hb1
  have f0 := Y1.cell 0 _ rfl
  have f1 := Y1.cell 1 _ rfl
  have f2 := Y1.cell 2 _ rfl
  go_wp2_with fail
  refine (szMach_c _ _ _ _ _ _ _ _ _ _ (by omega) (by omega) _ (G1.out.below B1)).mono ?_
  rintro e w2 ⟨rfl, hb2⟩
  rw [E1.out]
  have B2 : Below w.heap.size w w2 := B1.trans (hb2.mono B1.size)
  replace Y0 := Y0.below hb2
  replace Y1 := Y1.below hb2
  clear f0 f1 f2 hb1 hb2 B1 HB0
  have f0 := Y0.cell 0 _ rfl
  have f1 := Y0.cell 1 _ rfl
  have f2 := Y0.cell 2 _ rfl
  have g0 := Y1.cell 0 _ rfl
  have g1 := Y1.cell 1 _ rfl
  have g2 := Y1.cell 2 _ rfl
  go_wp2_with fail
  go_region_held3 (fun w' => w'.cell? ⟨w.heap.size, 0, none⟩ = some (.slice ma0 xs0.length mc0) ∧ w'.cell? ⟨w.heap.size, 1, none⟩ = some (.slice mb0 rs0.length md0) ∧ w'.cell? ⟨w.heap.size, 2, none⟩ = some (.slice mg0 ws0.length mh0) ∧ w'.cell? ⟨w.heap.size + 1, 0, none⟩ = some (.slice ma1 xs1.length mc1) ∧ w'.cell? ⟨w.heap.size + 1, 1, none⟩ = some (.slice mb1 rs1.length md1) ∧ w'.cell? ⟨w.heap.size + 1, 2, none⟩ = some (.slice mg1 ws1.length mh1)) ((go_split_ands; (repeat' apply And.intro) <;> first | assumption | exact keepS (by assumption) (by assumption)))
    (first | (go_at_call 36; (with_reducible refine (toMach_c ma0 mb0 mg0 mc0 md0 mh0 xs0 rs0 ws0 _ HL0.out ?_).mono ?_); (exact G0.out.below (by repeat (first | exact Below.refl _ _ | refine Below.drew ?_ | refine below_drewN ?_ _ | refine Below.allocC ?_ _ | refine Below.setCell ?_ (by first | (simp; done) | (simp; omega)) _ | refine Below.chain ?_ (by assumption)))); rintro e wA ⟨aA, cA, bA, dA, gA, hA, rfl, rA, sA, tA, hbA⟩) | (go_at_call 36; (with_reducible refine (toMach_c ma1 mb1 mg1 mc1 md1 mh1 xs1 rs1 ws1 _ HL1.out ?_).mono ?_); (exact G1.out.below (by repeat (first | exact Below.refl _ _ | refine Below.drew ?_ | refine below_drewN ?_ _ | refine Below.allocC ?_ _ | refine Below.setCell ?_ (by first | (simp; done) | (simp; omega)) _ | refine Below.chain ?_ (by assumption)))); rintro e wB ⟨aB, cB, bB, dB, gB, hB, rfl, rB, sB, tB, hbB⟩) | (go_at_call 35; (with_reducible refine (specSameMach_c _ _ _ _ _ _ xs0 rs0 ws0 _ _ _ _ _ _ xs1 rs1 ws1 _ HP0.out.1 HP0.out.2.1 HP0.out.2.2 ?_ ?_ ?_ ?_ ?_ ?_).mono ?_); (exact rA.below hbB); (exact sA.below hbB); (exact tA.below hbB); (exact rB); (exact sB); (exact tB); rintro e wC ⟨rfl, hbC⟩))
  have HS : wC.cell? ⟨w.heap.size, 0, none⟩ = some (.slice ma0 xs0.length mc0) ∧ wC.cell? ⟨w.heap.size, 1, none⟩ = some (.slice mb0 rs0.length md0) ∧ wC.cell? ⟨w.heap.size, 2, none⟩ = some (.slice mg0 ws0.length mh0) ∧ wC.cell? ⟨w.heap.size + 1, 0, none⟩ = some (.slice ma1 xs1.length mc1) ∧ wC.cell? ⟨w.heap.size + 1, 1, none⟩ = some (.slice mb1 rs1.length md1) ∧ wC.cell? ⟨w.heap.size + 1, 2, none⟩ = some (.slice mg1 ws1.length mh1) := by assumption
  obtain ⟨f0, f1, f2, g0, g1, g2⟩ := HS
  have BC : Below w.heap.size w wC := (by repeat (first | exact Below.refl _ _ | refine Below.drew ?_ | refine below_drewN ?_ _ | refine Below.allocC ?_ _ | refine Below.setCell ?_ (by first | (simp; done) | (simp; omega)) _ | refine Below.chain ?_ (by assumption)))
  replace Y0 := ((((show Box w2.drew _ _ from Y0).below hbA).below hbB).below hbC)
  replace Y1 := ((((show Box w2.drew _ _ from Y1).below hbA).below hbB).below hbC)
  clear rA sA tA rB sB tB
  have hq0 := Y0.1
  have hq1 := Y1.1
  go_wp2_with fail
  refine (toMach_c ma0 mb0 mg0 mc0 md0 mh0 xs0 rs0 ws0 _ HL0.out (G0.out.below BC)).mono ?_
  rintro e wD ⟨aD, cD, bD, dD, gD, hD, rfl, rD, sD, tD, hbD⟩
  have BD : Below w.heap.size w wD := BC.trans (hbD.mono BC.size)
  clear f0 f1 f2 g0 g1 g2
  replace Y0 := (Y0.below hbD)
  replace Y1 := (Y1.below hbD)
  have hq0 := Y0.1
  have hq1 := Y1.1
  have g0 := Y1.cell 0 _ rfl
  have g1 := Y1.cell 1 _ rfl
  have g2 := Y1.cell 2 _ rfl
  replace Y0 := Y0.alloc (.cells #[.slice aD xs0.length cD, .slice bD rs0.length dD, .slice gD ws0.length hD] 48)
  replace Y1 := Y1.alloc (.cells #[.slice aD xs0.length cD, .slice bD rs0.length dD, .slice gD ws0.length hD] 48)
  have V0 := Box.new wD [.slice aD xs0.length cD, .slice bD rs0.length dD, .slice gD ws0.length hD] 48
  have BDa : Below w.heap.size w (wD.alloc (.cells #[.slice aD xs0.length cD, .slice bD rs0.length dD, .slice gD ws0.length hD] 48)) := Below.allocC BD _
  have aD1 : Below wD.heap.size wD (wD.alloc (.cells #[.slice aD xs0.length cD, .slice bD rs0.length dD, .slice gD ws0.length hD] 48)) := Below.allocC (Below.refl _ _) _
  go_wp2_with fail
  refine (toMach_c ma1 mb1 mg1 mc1 md1 mh1 xs1 rs1 ws1 _ HL1.out (G1.out.below BDa)).mono ?_
  rintro e wE ⟨aE, cE, bE, dE, gE, hE, rfl, rE, sE, tE, hbE⟩
  have BE : Below w.heap.size w wE := BDa.trans (hbE.mono BDa.size)
  clear g0 g1 g2
  replace Y0 := Y0.below hbE
  replace Y1 := Y1.below hbE
  replace V0 := V0.below hbE
  have r0 := (rD.below aD1).below hbE
  have s0 := (sD.below aD1).below hbE
  have t0 := (tD.below aD1).below hbE
  have hv0 := V0.1
  have v0 := V0.cell 0 _ rfl
  have v1 := V0.cell 1 _ rfl
  have v2 := V0.cell 2 _ rfl
  have aE1 : Below wE.heap.size wE (wE.alloc (.cells #[.slice aE xs1.length cE, .slice bE rs1.length dE, .slice gE ws1.length hE] 48)) := Below.allocC (Below.refl _ _) _
  have BEa : Below w.heap.size w (wE.alloc (.cells #[.slice aE xs1.length cE, .slice bE rs1.length dE, .slice gE ws1.length hE] 48)) := Below.allocC BE _
  replace Y0 := Y0.alloc (.cells #[.slice aE xs1.length cE, .slice bE rs1.length dE, .slice gE ws1.length hE] 48)
  replace Y1 := Y1.alloc (.cells #[.slice aE xs1.length cE, .slice bE rs1.length dE, .slice gE ws1.length hE] 48)
  replace V0 := V0.alloc (.cells #[.slice aE xs1.length cE, .slice bE rs1.length dE, .slice gE ws1.length hE] 48)
  have V1 := Box.new wE [.slice aE xs1.length cE, .slice bE rs1.length dE, .slice gE ws1.length hE] 48
  go_wp2_with fail
  refine (implSameMach_c _ _ _ _ _ _ xs0 rs0 ws0 _ _ _ _ _ _ xs1 rs1 ws1 _ HP0.out.1 HP0.out.2.1 HP0.out.2.2 (r0.below aE1) (s0.below aE1) (t0.below aE1) (rE.below aE1) (sE.below aE1) (tE.below aE1)).mono ?_
  rintro e wF ⟨rfl, hbF⟩
  have BF : Below w.heap.size w wF := BEa.trans (hbF.mono BEa.size)
  replace Y0 := Y0.below hbF
  replace Y1 := Y1.below hbF
  replace V0 := V0.below hbF
  replace V1 := V1.below hbF
  replace r0 := (r0.below aE1).below hbF
  replace s0 := (s0.below aE1).below hbF
  replace t0 := (t0.below aE1).below hbF
  have r1 := (rE.below aE1).below hbF
  have s1 := (sE.below aE1).below hbF
  have t1 := (tE.below aE1).below hbF
  generalize (same xs0 xs1 && (same rs0 rs1 && same ws0 ws1)) = r
  clear v0 v1 v2 hv0 hq0 hq1
  have f0 := Y0.cell 0 _ rfl
  have f1 := Y0.cell 1 _ rfl
  have f2 := Y0.cell 2 _ rfl
  have v0 := V0.cell 0 _ rfl
  have v1 := V0.cell 1 _ rfl
  have v2 := V0.cell 2 _ rfl
  go_wp2_with fail
  go_region_held3 (fun w' => w'.cell? ⟨w.heap.size, 0, none⟩ = some (.slice ma0 xs0.length mc0) ∧ w'.cell? ⟨w.heap.size, 1, none⟩ = some (.slice mb0 rs0.length md0) ∧ w'.cell? ⟨w.heap.size, 2, none⟩ = some (.slice mg0 ws0.length mh0) ∧ w'.cell? ⟨wD.heap.size, 0, none⟩ = some (.slice aD xs0.length cD) ∧ w'.cell? ⟨wD.heap.size, 1, none⟩ = some (.slice bD rs0.length dD) ∧ w'.cell? ⟨wD.heap.size, 2, none⟩ = some (.slice gD ws0.length hD)) ((go_split_ands; (repeat' apply And.intro) <;> first | assumption | exact keepS (by assumption) (by assumption)))
    (first | (go_at_call 36; (with_reducible refine (toMach_c ma0 mb0 mg0 mc0 md0 mh0 xs0 rs0 ws0 _ HL0.out ?_).mono ?_); (exact G0.out.below (by repeat (first | exact Below.refl _ _ | refine Below.drew ?_ | refine below_drewN ?_ _ | refine Below.allocC ?_ _ | refine Below.setCell ?_ (by first | (simp; done) | (simp; omega)) _ | refine Below.chain ?_ (by assumption)))); rintro e wG ⟨aG, cG, bG, dG, gG, hG, rfl, rG, sG, tG, hbG⟩) | (go_at_call 38; (with_reducible refine (eqMach_c _ _ _ _ _ _ xs0 rs0 ws0 _ _ _ _ _ _ xs0 rs0 ws0 _ HP0.out.1 HP0.out.2.1 HP0.out.2.2 ?_ ?_ ?_ ?_ ?_ ?_).mono ?_); (exact (show Reads wF.drew _ 2 encC _ from r0).below hbG); (exact (show Reads wF.drew _ 1 encS _ from s0).below hbG); (exact (show Reads wF.drew _ 1 encS _ from t0).below hbG); (exact rG); (exact sG); (exact tG); rintro e wH ⟨rfl, hbH⟩))
  have BH : Below w.heap.size w wH := (by repeat (first | exact Below.refl _ _ | refine Below.drew ?_ | refine below_drewN ?_ _ | refine Below.allocC ?_ _ | refine Below.setCell ?_ (by first | (simp; done) | (simp; omega)) _ | refine Below.chain ?_ (by assumption)))
  replace Y1 := (((show Box wF.drew _ _ from Y1).below hbG).below hbH)
  replace V1 := (((show Box wF.drew _ _ from V1).below hbG).below hbH)
  replace r1 := ((show Reads wF.drew _ 2 encC _ from r1).below hbG).below hbH
  replace s1 := ((show Reads wF.drew _ 1 encS _ from s1).below hbG).below hbH
  replace t1 := ((show Reads wF.drew _ 1 encS _ from t1).below hbG).below hbH
  clear f0 f1 f2 v0 v1 v2
  have g0 := Y1.cell 0 _ rfl
  have g1 := Y1.cell 1 _ rfl
  have g2 := Y1.cell 2 _ rfl
  have v0 := V1.cell 0 _ rfl
  have v1 := V1.cell 1 _ rfl
  have v2 := V1.cell 2 _ rfl
  try simp only [same_self, Bool.and_self]
  go_wp2_with fail
  go_region_held3 (fun w' => w'.cell? ⟨w.heap.size + 1, 0, none⟩ = some (.slice ma1 xs1.length mc1) ∧ w'.cell? ⟨w.heap.size + 1, 1, none⟩ = some (.slice mb1 rs1.length md1) ∧ w'.cell? ⟨w.heap.size + 1, 2, none⟩ = some (.slice mg1 ws1.length mh1) ∧ w'.cell? ⟨wE.heap.size, 0, none⟩ = some (.slice aE xs1.length cE) ∧ w'.cell? ⟨wE.heap.size, 1, none⟩ = some (.slice bE rs1.length dE) ∧ w'.cell? ⟨wE.heap.size, 2, none⟩ = some (.slice gE ws1.length hE)) ((go_split_ands; (repeat' apply And.intro) <;> first | assumption | exact keepS (by assumption) (by assumption)))
    (first | (go_at_call 36; (with_reducible refine (toMach_c ma1 mb1 mg1 mc1 md1 mh1 xs1 rs1 ws1 _ HL1.out ?_).mono ?_); (exact G1.out.below (by repeat (first | exact Below.refl _ _ | refine Below.drew ?_ | refine below_drewN ?_ _ | refine Below.allocC ?_ _ | refine Below.setCell ?_ (by first | (simp; done) | (simp; omega)) _ | refine Below.chain ?_ (by assumption)))); rintro e wI ⟨aI, cI, bI, dI, gI, hI, rfl, rI, sI, tI, hbI⟩) | (go_at_call 38; (with_reducible refine (eqMach_c _ _ _ _ _ _ xs1 rs1 ws1 _ _ _ _ _ _ xs1 rs1 ws1 _ HP1.out.1 HP1.out.2.1 HP1.out.2.2 ?_ ?_ ?_ ?_ ?_ ?_).mono ?_); (exact (show Reads wH.drew _ 2 encC _ from r1).below hbI); (exact (show Reads wH.drew _ 1 encS _ from s1).below hbI); (exact (show Reads wH.drew _ 1 encS _ from t1).below hbI); (exact rI); (exact sI); (exact tI); rintro e wJ ⟨rfl, hbJ⟩))
  try simp only [same_self, Bool.and_self]
  go_wp2
  go_ret
  exact ⟨rfl, (by repeat (first | exact Below.refl _ _ | refine Below.drew ?_ | refine below_drewN ?_ _ | refine Below.allocC ?_ _ | refine Below.setCell ?_ (by first | (simp; done) | (simp; omega)) _ | refine Below.chain ?_ (by assumption)))⟩

/- SIG
theorem walk (ma0 mb0 mg0 : Option Addr) (mc0 md0 mh0 : Nat) (xs0 : List (ByteArray × ByteArray)) (rs0 ws0 : List ByteArray) (ma1 mb1 mg1 : Option Addr) (mc1 md1 mh1 : Nat) (xs1 : List (ByteArray × ByteArray)) (rs1 ws1 : List ByteArray) (w : World) (w0 : IsMach w ma0 mb0 mg0 xs0 rs0 ws0) (w1 : IsMach w ma1 mb1 mg1 xs1 rs1 ws1) :
    Calls Try.prog 9 #[.agg #[.slice ma0 xs0.length mc0, .slice mb0 rs0.length md0, .slice mg0 ws0.length mh0], .agg #[.slice ma1 xs1.length mc1, .slice mb1 rs1.length md1, .slice mg1 ws1.length mh1]] w fun e w' => e = .returned (.bool true) ∧ Below w.heap.size w w' := by
-/
theorem own : ownKnob Try.prog.godebug = none := by kernel_rfl
theorem laidOut : laidOutB Try.prog = true := by kernel_rfl
set_option maxRecDepth 100000 in
theorem lifted (os : Os) (started : os.Started) (H : Type) (enc : TypeId × Value → H) :
    ReturnsInHanded {} Try.checked os 9 .any (Rows.fnExactSameMachSpec.pre6 enc Try.prog Try.f9 Rows.fnExactSameMachRow.domain false) (Rows.fnExactSameMachSpec.post enc Try.prog Try.f9 false true false false) := by
  refine returnsInHanded_of_change (C := Try.checked) own started (by kernel_rfl) Try.func9
    (ChangeSpec.witness6 (enc := enc) (C := Try.checked) false ⟨#[], #[.agg #[.slice none 0 0, .slice none 0 0, .slice none 0 0], .agg #[.slice none 0 0, .slice none 0 0, .slice none 0 0]], []⟩ 8 (by kernel_rfl) (by kernel_rfl) (by kernel_rfl) (by kernel_rfl)) ?_
  intro W base args ds gs before hval0 hW _ _
  have hval : ∀ (j : Nat) t v, Try.f9.params[j]? = some t → args[j]? = some v → Value.okWide Try.prog W .any base t v := hval0
  have hW' := hW
  obtain ⟨p, q, hA0, hV, rfl, hfz, hnd⟩ := hW
  have hA : DataW.TrodAll enc Try.prog W 0 (fun _ => true) true Try.f9.params.toList args.toList ds p := hA0
  rw [Try.params9] at hA hval
  obtain ⟨v0, vs0, d0, ds0, p0, q0, hargs, rfl, rfl, h0, g0⟩ := trodAll_cons hA
  obtain ⟨v1, vs1, d1, ds1, p1, q1, rfl, rfl, rfl, h1, g1⟩ := trodAll_cons g0
  obtain ⟨rfl, rfl, rfl⟩ := trodAll_nil g1
  obtain rfl : args = #[v0, v1] := by cases args; simp_all
  obtain ⟨rfl, rfl⟩ := trodVars_none hV
  have k0 := h0
  have lt0 : ∀ x ∈ p0, x.block < W.heap.size := by obtain ⟨m, hm⟩ := k0; exact DataW.trod_lt m _ _ _ hm
  have k1 := h1
  have lt1 : ∀ x ∈ p1, x.block < W.heap.size := by obtain ⟨m, hm⟩ := k1; exact DataW.trod_lt m _ _ _ hm
  obtain ⟨ma0, mc0, xs0, mb0, md0, rs0, mg0, mh0, ws0, rfl, w0⟩ := open_mach Try.underlying44 rfl (by kernel_rfl) rfl (by kernel_rfl) (by kernel_rfl) Try.underlying22 (by kernel_rfl) (elem_cell Try.underlying59 (by kernel_rfl) Try.underlying9 Try.underlying9) Try.underlying37 (by kernel_rfl) Try.underlying32 Try.underlying32 (by kernel_rfl) Try.underlying9 (hval 0 44 v0 rfl rfl) h0
  obtain ⟨ma1, mc1, xs1, mb1, md1, rs1, mg1, mh1, ws1, rfl, w1⟩ := open_mach Try.underlying44 rfl (by kernel_rfl) rfl (by kernel_rfl) (by kernel_rfl) Try.underlying22 (by kernel_rfl) (elem_cell Try.underlying59 (by kernel_rfl) Try.underlying9 Try.underlying9) Try.underlying37 (by kernel_rfl) Try.underlying32 Try.underlying32 (by kernel_rfl) Try.underlying9 (hval 1 44 v1 rfl rfl) h1
  clear hA0 hval0
  refine (walk ma0 mb0 mg0 mc0 md0 mh0 xs0 rs0 ws0 ma1 mb1 mg1 mc1 md1 mh1 xs1 rs1 ws1 W w0 w1).mono fun e W' ⟨he, bel⟩ => ?_
  subst he
  exact ⟨_, rfl, _, _, _, [], _, [], hW', trodAll_mk1 (shut_bool Try.underlying4 _), (trodAll_cons_mk (Below.trod laidOut (by kernel_rfl) (of_decide_eq_true (by kernel_rfl)) k0 bel lt0) (trodAll_cons_mk (Below.trod laidOut (by kernel_rfl) (of_decide_eq_true (by kernel_rfl)) k1 bel lt1) trodAll_mk0)), rfl, bel.frame _, fun h => by cases h⟩
theorem over : Rows.fnExactSameMachRow.holds Try.pinned (OpenSpec.ofChange Rows.fnExactSameMachSpec) :=
  OpenClaim.holds_of_wide 9 Try.f9 rfl rfl rfl rfl rfl rfl rfl ⟨rfl, rfl, rfl, rfl, rfl⟩ rfl rfl rfl rfl rfl (by kernel_rfl) Try.func9 (by kernel_rfl)
    (of_decide_eq_true (by kernel_rfl)) (by unfold Func.isWrapper; first | (rw [if_pos (by decide +kernel)]; kernel_rfl) | (rw [if_neg (by decide +kernel)]; exact ⟨rfl, rfl⟩))
    (fun os started H enc _ => lifted os started H enc)
theorem proved : Rows.FnExactSameMachSaid := over
#print axioms proved

end Go.Proofs.Ytnccenfdclmkkaa.fnExactSameMach
