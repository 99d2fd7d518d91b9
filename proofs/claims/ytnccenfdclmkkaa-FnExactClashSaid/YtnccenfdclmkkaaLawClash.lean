/- FnExactClash: for every input the program's Clash returns what the reference's returns. No conditions. -/
import Derived.Test.YtnccenfdclmkkaaRows
import Derived.Test.YtnccenfdclmkkaaTouch
import Derived.Test.YtnccenfdclmkkaaClash
import Derived.Deep.RegionHeld3
import Derived.Deep.DrawnRows
namespace Go.Proofs.Ytnccenfdclmkkaa.fnExactClash
open Go.ChangeShapes Go.WideShapes Go.ChangeAt Go.RowKit
open Go.ChangeMaps (open_string shut_string)
attribute [local go_sem ↓] Go.wp_at_zero Go.wp_at_succ
set_option maxHeartbeats 8000000 in
theorem walk (a0 : Option Addr) (c0 : Nat) (rs0 : List ByteArray) (b0 : Option Addr) (d0 : Nat) (ws0 : List ByteArray) (a1 : Option Addr) (c1 : Nat) (rs1 : List ByteArray) (b1 : Option Addr) (d1 : Nat) (ws1 : List ByteArray) (w : World)
    (R0 : rs0.length ≤ maxLen ∧ Reads w a0 1 encS rs0 ∧ ∀ x ∈ rs0, x.size ≤ maxLen) (U0 : ws0.length ≤ maxLen ∧ Reads w b0 1 encS ws0 ∧ ∀ x ∈ ws0, x.size ≤ maxLen) (R1 : rs1.length ≤ maxLen ∧ Reads w a1 1 encS rs1 ∧ ∀ x ∈ rs1, x.size ≤ maxLen) (U1 : ws1.length ≤ maxLen ∧ Reads w b1 1 encS ws1 ∧ ∀ x ∈ ws1, x.size ≤ maxLen) :
    Calls Try.prog 8 #[.agg #[.slice a0 rs0.length c0, .slice b0 ws0.length d0], .agg #[.slice a1 rs1.length c1, .slice b1 ws1.length d1]] w fun e w' => e = .returned (.bool true) ∧ Below w.heap.size w w' := by
  have G0 := Lib.hid R0
  have F0 := Lib.hid U0
  have G1 := Lib.hid R1
  have F1 := Lib.hid U1
  clear R0 U0 R1 U1
  have HB0 : Below w.heap.size w ((w.alloc (.cells #[.slice a0 rs0.length c0, .slice b0 ws0.length d0] 37)).alloc (.cells #[.slice a1 rs1.length c1, .slice b1 ws1.length d1] 37)) := (by repeat (first | exact Below.refl _ _ | refine Below.drew ?_ | refine below_drewN ?_ _ | refine Below.allocC ?_ _ | refine Below.setCell ?_ (by first | (simp; done) | (simp; omega)) _ | refine Below.chain ?_ (by assumption)))
  have X0 := (Box.new w [.slice a0 rs0.length c0, .slice b0 ws0.length d0] 37).alloc (.cells #[.slice a1 rs1.length c1, .slice b1 ws1.length d1] 37)
  have X1 := Box.new (w.alloc (.cells #[.slice a0 rs0.length c0, .slice b0 ws0.length d0] 37)) [.slice a1 rs1.length c1, .slice b1 ws1.length d1] 37
  simp only [World.size_alloc] at X1
  have H0 := Lib.hid X0
  have H1 := Lib.hid X1
  clear X0 X1
  by_cases q0 : (1048576 : Int) < (bulkT rs0 ws0 : Nat)
  · have E0 := Lib.hid (szSub_no q0)
    go_enter Try.func8, Try.ntmps8
    go_wp2_with fail
    refine (szTouch_c _ _ _ _ _ _ _ (by omega) (by omega) _ ⟨G0.out.1, G0.out.2.1.below HB0, G0.out.2.2⟩ ⟨F0.out.1, F0.out.2.1.below HB0, F0.out.2.2⟩).mono ?_
    rintro e w1 ⟨rfl, hb1⟩
    rw [E0.out]
    go_wp2
    go_ret
    exact ⟨rfl, HB0.trans (hb1.mono HB0.size)⟩
  have E0 := Lib.hid (szSub_yes (left := 1048576) (n := bulkT rs0 ws0) (by omega))
  by_cases q1 : (1048576 - (bulkT rs0 ws0 : Nat) : Int) < (bulkT rs1 ws1 : Nat)
  · have E1 := Lib.hid (szSub_no q1)
    go_enter Try.func8, Try.ntmps8
    go_wp2_with fail
    refine (szTouch_c _ _ _ _ _ _ _ (by omega) (by omega) _ ⟨G0.out.1, G0.out.2.1.below HB0, G0.out.2.2⟩ ⟨F0.out.1, F0.out.2.1.below HB0, F0.out.2.2⟩).mono ?_
    rintro e w1 ⟨rfl, hb1⟩
    rw [E0.out]
    have B1 : Below w.heap.size w w1 := HB0.trans (hb1.mono HB0.size)
    have Y0 := H0.out.below hb1
    have Y1 := H1.out.below hb1
    have f0 := Y1.cell 0 _ rfl
    have f1 := Y1.cell 1 _ rfl
    go_wp2_with fail
    refine (szTouch_c _ _ _ _ _ _ _ (by omega) (by omega) _ ⟨G1.out.1, G1.out.2.1.below B1, G1.out.2.2⟩ ⟨F1.out.1, F1.out.2.1.below B1, F1.out.2.2⟩).mono ?_
    rintro e w2 ⟨rfl, hb2⟩
    rw [E1.out]
    go_wp2
    go_ret
    exact ⟨rfl, B1.trans (hb2.mono B1.size)⟩
  have E1 := Lib.hid (szSub_yes (left := 1048576 - (bulkT rs0 ws0 : Nat)) (n := bulkT rs1 ws1) (by omega))
  have L0 : rs0.length ≤ 1048576 := by have := bulkL_ge bulkS rs0; unfold bulkT at *; omega
  have M0 : ws0.length ≤ 1048576 := by have := bulkL_ge bulkS ws0; unfold bulkT at *; omega
  have L1 : rs1.length ≤ 1048576 := by have := bulkL_ge bulkS rs1; unfold bulkT at *; omega
  have M1 : ws1.length ≤ 1048576 := by have := bulkL_ge bulkS ws1; unfold bulkT at *; omega
  have P0 : rs0.length ≤ maxLen := by unfold maxLen; omega
  have Q0 : ws0.length ≤ maxLen := by unfold maxLen; omega
  have P1 : rs1.length ≤ maxLen := by unfold maxLen; omega
  have Q1 : ws1.length ≤ maxLen := by unfold maxLen; omega
  go_enter Try.func8, Try.ntmps8
  go_wp2_with fail
  refine (szTouch_c _ _ _ _ _ _ _ (by omega) (by omega) _ ⟨G0.out.1, G0.out.2.1.below HB0, G0.out.2.2⟩ ⟨F0.out.1, F0.out.2.1.below HB0, F0.out.2.2⟩).mono ?_
  rintro e w1 ⟨rfl, hb1⟩
  rw [E0.out]
  have B1 : Below w.heap.size w w1 := HB0.trans (hb1.mono HB0.size)
  have Y0 := H0.out.below hb1
  have Y1 := H1.out.below hb1
  have f0 := Y1.cell 0 _ rfl
  have f1 := Y1.cell 1 _ rfl
  go_wp2_with fail
  refine (szTouch_c _ _ _ _ _ _ _ (by omega) (by omega) _ ⟨G1.out.1, G1.out.2.1.below B1, G1.out.2.2⟩ ⟨F1.out.1, F1.out.2.1.below B1, F1.out.2.2⟩).mono ?_
  rintro e w2 ⟨rfl, hb2⟩
  rw [E1.out]
  have B2 : Below w.heap.size w w2 := B1.trans (hb2.mono B1.size)
  replace Y0 := Y0.below hb2
  replace Y1 := Y1.below hb2
  clear f0 f1 hb1 hb2 B1 HB0
  have f0 := Y0.cell 0 _ rfl
  have f1 := Y0.cell 1 _ rfl
  have g0 := Y1.cell 0 _ rfl
  have g1 := Y1.cell 1 _ rfl
  go_wp2_with fail
  go_region_held3 (fun w' => w'.cell? ⟨w.heap.size, 0, none⟩ = some (.slice a0 rs0.length c0) ∧ w'.cell? ⟨w.heap.size, 1, none⟩ = some (.slice b0 ws0.length d0) ∧ w'.cell? ⟨w.heap.size + 1, 0, none⟩ = some (.slice a1 rs1.length c1) ∧ w'.cell? ⟨w.heap.size + 1, 1, none⟩ = some (.slice b1 ws1.length d1)) ((go_split_ands; (repeat' apply And.intro) <;> first | assumption | exact keepS (by assumption) (by assumption)))
    (first | (go_at_call 31; (with_reducible refine (toTouch_c a0 b0 c0 d0 rs0 ws0 _ ⟨L0, ?_⟩ ⟨M0, ?_⟩).mono ?_); (exact G0.out.2.1.below (by repeat (first | exact Below.refl _ _ | refine Below.drew ?_ | refine below_drewN ?_ _ | refine Below.allocC ?_ _ | refine Below.setCell ?_ (by first | (simp; done) | (simp; omega)) _ | refine Below.chain ?_ (by assumption)))); (exact F0.out.2.1.below (by repeat (first | exact Below.refl _ _ | refine Below.drew ?_ | refine below_drewN ?_ _ | refine Below.allocC ?_ _ | refine Below.setCell ?_ (by first | (simp; done) | (simp; omega)) _ | refine Below.chain ?_ (by assumption)))); rintro e wA ⟨uA, yA, zA, rfl, _, _, oA, pA, hbA⟩; obtain ⟨aA, cA, rfl, rA⟩ := reads_of_owns encS_len oA; obtain ⟨bA, dA, rfl, sA⟩ := reads_of_owns encS_len pA) | (go_at_call 31; (with_reducible refine (toTouch_c a1 b1 c1 d1 rs1 ws1 _ ⟨L1, ?_⟩ ⟨M1, ?_⟩).mono ?_); (exact G1.out.2.1.below (by repeat (first | exact Below.refl _ _ | refine Below.drew ?_ | refine below_drewN ?_ _ | refine Below.allocC ?_ _ | refine Below.setCell ?_ (by first | (simp; done) | (simp; omega)) _ | refine Below.chain ?_ (by assumption)))); (exact F1.out.2.1.below (by repeat (first | exact Below.refl _ _ | refine Below.drew ?_ | refine below_drewN ?_ _ | refine Below.allocC ?_ _ | refine Below.setCell ?_ (by first | (simp; done) | (simp; omega)) _ | refine Below.chain ?_ (by assumption)))); rintro e wB ⟨uB, yB, zB, rfl, _, _, oB, pB, hbB⟩; obtain ⟨aB, cB, rfl, rB⟩ := reads_of_owns encS_len oB; obtain ⟨bB, dB, rfl, sB⟩ := reads_of_owns encS_len pB) | (go_at_call 30; (with_reducible refine (specClash_c _ _ _ _ _ _ _ _ rs0 ws0 rs1 ws1 _ ⟨P0, Q0, P1, Q1⟩ ⟨G0.out.2.2, F0.out.2.2, G1.out.2.2, F1.out.2.2⟩ ?_ ?_ ?_ ?_).mono ?_); (exact rA.below hbB); (exact sA.below hbB); (exact rB); (exact sB); rintro e wC ⟨rfl, hbC⟩))
  have HS : wC.cell? ⟨w.heap.size, 0, none⟩ = some (.slice a0 rs0.length c0) ∧ wC.cell? ⟨w.heap.size, 1, none⟩ = some (.slice b0 ws0.length d0) ∧ wC.cell? ⟨w.heap.size + 1, 0, none⟩ = some (.slice a1 rs1.length c1) ∧ wC.cell? ⟨w.heap.size + 1, 1, none⟩ = some (.slice b1 ws1.length d1) := by assumption
  obtain ⟨f0, f1, g0, g1⟩ := HS
  have BC : Below w.heap.size w wC := (by repeat (first | exact Below.refl _ _ | refine Below.drew ?_ | refine below_drewN ?_ _ | refine Below.allocC ?_ _ | refine Below.setCell ?_ (by first | (simp; done) | (simp; omega)) _ | refine Below.chain ?_ (by assumption)))
  replace Y0 := ((((show Box w2.drew _ _ from Y0).below hbA).below hbB).below hbC)
  replace Y1 := ((((show Box w2.drew _ _ from Y1).below hbA).below hbB).below hbC)
  clear rA sA rB sB oA pA oB pB
  have hq0 := Y0.1
  have hq1 := Y1.1
  go_wp2_with fail
  refine (toTouch_c a0 b0 c0 d0 rs0 ws0 _ ⟨L0, G0.out.2.1.below BC⟩ ⟨M0, F0.out.2.1.below BC⟩).mono ?_
  rintro e wD ⟨uD, yD, zD, rfl, _, _, oD, pD, hbD⟩
  obtain ⟨aD, cD, rfl, rD⟩ := reads_of_owns encS_len oD
  obtain ⟨bD, dD, rfl, sD⟩ := reads_of_owns encS_len pD
  have BD : Below w.heap.size w wD := BC.trans (hbD.mono BC.size)
  clear f0 f1 g0 g1
  replace Y0 := (Y0.below hbD)
  replace Y1 := (Y1.below hbD)
  have hq0 := Y0.1
  have hq1 := Y1.1
  have g0 := Y1.cell 0 _ rfl
  have g1 := Y1.cell 1 _ rfl
  replace Y0 := Y0.alloc (.cells #[.slice aD rs0.length cD, .slice bD ws0.length dD] 40)
  replace Y1 := Y1.alloc (.cells #[.slice aD rs0.length cD, .slice bD ws0.length dD] 40)
  have V0 := Box.new wD [.slice aD rs0.length cD, .slice bD ws0.length dD] 40
  have BDa : Below w.heap.size w (wD.alloc (.cells #[.slice aD rs0.length cD, .slice bD ws0.length dD] 40)) := Below.allocC BD _
  have aD1 : Below wD.heap.size wD (wD.alloc (.cells #[.slice aD rs0.length cD, .slice bD ws0.length dD] 40)) := Below.allocC (Below.refl _ _) _
  go_wp2_with fail
  refine (toTouch_c a1 b1 c1 d1 rs1 ws1 _ ⟨L1, G1.out.2.1.below BDa⟩ ⟨M1, F1.out.2.1.below BDa⟩).mono ?_
  rintro e wE ⟨uE, yE, zE, rfl, _, _, oE, pE, hbE⟩
  obtain ⟨aE, cE, rfl, rE⟩ := reads_of_owns encS_len oE
  obtain ⟨bE, dE, rfl, sE⟩ := reads_of_owns encS_len pE
  have BE : Below w.heap.size w wE := BDa.trans (hbE.mono BDa.size)
  clear g0 g1
  replace Y0 := Y0.below hbE
  replace Y1 := Y1.below hbE
  replace V0 := V0.below hbE
  have r0 := (rD.below aD1).below hbE
  have s0 := (sD.below aD1).below hbE
  have hv0 := V0.1
  have v0 := V0.cell 0 _ rfl
  have v1 := V0.cell 1 _ rfl
  have aE1 : Below wE.heap.size wE (wE.alloc (.cells #[.slice aE rs1.length cE, .slice bE ws1.length dE] 40)) := Below.allocC (Below.refl _ _) _
  have BEa : Below w.heap.size w (wE.alloc (.cells #[.slice aE rs1.length cE, .slice bE ws1.length dE] 40)) := Below.allocC BE _
  replace Y0 := Y0.alloc (.cells #[.slice aE rs1.length cE, .slice bE ws1.length dE] 40)
  replace Y1 := Y1.alloc (.cells #[.slice aE rs1.length cE, .slice bE ws1.length dE] 40)
  replace V0 := V0.alloc (.cells #[.slice aE rs1.length cE, .slice bE ws1.length dE] 40)
  have V1 := Box.new wE [.slice aE rs1.length cE, .slice bE ws1.length dE] 40
  go_wp2_with fail
  refine (implClash_c _ _ _ _ _ _ _ _ rs0 ws0 rs1 ws1 _ ⟨P0, Q0, P1, Q1⟩ ⟨G0.out.2.2, F0.out.2.2, G1.out.2.2, F1.out.2.2⟩ (r0.below aE1) (s0.below aE1) (rE.below aE1) (sE.below aE1)).mono ?_
  rintro e wF ⟨rfl, hbF⟩
  have BF : Below w.heap.size w wF := BEa.trans (hbF.mono BEa.size)
  replace Y0 := Y0.below hbF
  replace Y1 := Y1.below hbF
  replace V0 := V0.below hbF
  replace V1 := V1.below hbF
  replace r0 := (r0.below aE1).below hbF
  replace s0 := (s0.below aE1).below hbF
  have r1 := (rE.below aE1).below hbF
  have s1 := (sE.below aE1).below hbF
  generalize clashB rs0 ws0 rs1 ws1 = r
  clear v0 v1 hv0 hq0 hq1
  have f0 := Y0.cell 0 _ rfl
  have f1 := Y0.cell 1 _ rfl
  have v0 := V0.cell 0 _ rfl
  have v1 := V0.cell 1 _ rfl
  go_wp2_with fail
  go_region_held3 (fun w' => w'.cell? ⟨w.heap.size, 0, none⟩ = some (.slice a0 rs0.length c0) ∧ w'.cell? ⟨w.heap.size, 1, none⟩ = some (.slice b0 ws0.length d0) ∧ w'.cell? ⟨wD.heap.size, 0, none⟩ = some (.slice aD rs0.length cD) ∧ w'.cell? ⟨wD.heap.size, 1, none⟩ = some (.slice bD ws0.length dD)) ((go_split_ands; (repeat' apply And.intro) <;> first | assumption | exact keepS (by assumption) (by assumption)))
    (first | (go_at_call 31; (with_reducible refine (toTouch_c a0 b0 c0 d0 rs0 ws0 _ ⟨L0, ?_⟩ ⟨M0, ?_⟩).mono ?_); (exact G0.out.2.1.below (by repeat (first | exact Below.refl _ _ | refine Below.drew ?_ | refine below_drewN ?_ _ | refine Below.allocC ?_ _ | refine Below.setCell ?_ (by first | (simp; done) | (simp; omega)) _ | refine Below.chain ?_ (by assumption)))); (exact F0.out.2.1.below (by repeat (first | exact Below.refl _ _ | refine Below.drew ?_ | refine below_drewN ?_ _ | refine Below.allocC ?_ _ | refine Below.setCell ?_ (by first | (simp; done) | (simp; omega)) _ | refine Below.chain ?_ (by assumption)))); rintro e wG ⟨uG, yG, zG, rfl, _, _, oG, pG, hbG⟩; obtain ⟨aG, cG, rfl, rG⟩ := reads_of_owns encS_len oG; obtain ⟨bG, dG, rfl, sG⟩ := reads_of_owns encS_len pG) | (go_at_call 33; (with_reducible refine (eqTouch_c _ _ _ _ _ _ _ _ rs0 ws0 rs0 ws0 _ P0 Q0 ?_ ?_ ?_ ?_).mono ?_); (exact (show Reads wF.drew _ 1 encS _ from r0).below hbG); (exact (show Reads wF.drew _ 1 encS _ from s0).below hbG); (exact rG); (exact sG); rintro e wH ⟨rfl, hbH⟩))
  have BH : Below w.heap.size w wH := (by repeat (first | exact Below.refl _ _ | refine Below.drew ?_ | refine below_drewN ?_ _ | refine Below.allocC ?_ _ | refine Below.setCell ?_ (by first | (simp; done) | (simp; omega)) _ | refine Below.chain ?_ (by assumption)))
  replace Y1 := (((show Box wF.drew _ _ from Y1).below hbG).below hbH)
  replace V1 := (((show Box wF.drew _ _ from V1).below hbG).below hbH)
  replace r1 := ((show Reads wF.drew _ 1 encS _ from r1).below hbG).below hbH
  replace s1 := ((show Reads wF.drew _ 1 encS _ from s1).below hbG).below hbH
  clear f0 f1 v0 v1
  have g0 := Y1.cell 0 _ rfl
  have g1 := Y1.cell 1 _ rfl
  have v0 := V1.cell 0 _ rfl
  have v1 := V1.cell 1 _ rfl
  try simp only [same_self, Bool.and_self]
  go_wp2_with fail
  go_region_held3 (fun w' => w'.cell? ⟨w.heap.size + 1, 0, none⟩ = some (.slice a1 rs1.length c1) ∧ w'.cell? ⟨w.heap.size + 1, 1, none⟩ = some (.slice b1 ws1.length d1) ∧ w'.cell? ⟨wE.heap.size, 0, none⟩ = some (.slice aE rs1.length cE) ∧ w'.cell? ⟨wE.heap.size, 1, none⟩ = some (.slice bE ws1.length dE)) ((go_split_ands; (repeat' apply And.intro) <;> first | assumption | exact keepS (by assumption) (by assumption)))
    (first | (go_at_call 31; (with_reducible refine (toTouch_c a1 b1 c1 d1 rs1 ws1 _ ⟨L1, ?_⟩ ⟨M1, ?_⟩).mono ?_); (exact G1.out.2.1.below (by repeat (first | exact Below.refl _ _ | refine Below.drew ?_ | refine below_drewN ?_ _ | refine Below.allocC ?_ _ | refine Below.setCell ?_ (by first | (simp; done) | (simp; omega)) _ | refine Below.chain ?_ (by assumption)))); (exact F1.out.2.1.below (by repeat (first | exact Below.refl _ _ | refine Below.drew ?_ | refine below_drewN ?_ _ | refine Below.allocC ?_ _ | refine Below.setCell ?_ (by first | (simp; done) | (simp; omega)) _ | refine Below.chain ?_ (by assumption)))); rintro e wI ⟨uI, yI, zI, rfl, _, _, oI, pI, hbI⟩; obtain ⟨aI, cI, rfl, rI⟩ := reads_of_owns encS_len oI; obtain ⟨bI, dI, rfl, sI⟩ := reads_of_owns encS_len pI) | (go_at_call 33; (with_reducible refine (eqTouch_c _ _ _ _ _ _ _ _ rs1 ws1 rs1 ws1 _ P1 Q1 ?_ ?_ ?_ ?_).mono ?_); (exact (show Reads wH.drew _ 1 encS _ from r1).below hbI); (exact (show Reads wH.drew _ 1 encS _ from s1).below hbI); (exact rI); (exact sI); rintro e wJ ⟨rfl, hbJ⟩))
  try simp only [same_self, Bool.and_self]
  go_wp2
  go_ret
  exact ⟨rfl, (by repeat (first | exact Below.refl _ _ | refine Below.drew ?_ | refine below_drewN ?_ _ | refine Below.allocC ?_ _ | refine Below.setCell ?_ (by first | (simp; done) | (simp; omega)) _ | refine Below.chain ?_ (by assumption)))⟩

/- SIG
theorem walk (a0 : Option Addr) (c0 : Nat) (rs0 : List ByteArray) (b0 : Option Addr) (d0 : Nat) (ws0 : List ByteArray) (a1 : Option Addr) (c1 : Nat) (rs1 : List ByteArray) (b1 : Option Addr) (d1 : Nat) (ws1 : List ByteArray) (w : World) (w0 : rs0.length ≤ maxLen ∧ Reads w a0 1 encS rs0 ∧ ∀ x ∈ rs0, x.size ≤ maxLen) (u0 : ws0.length ≤ maxLen ∧ Reads w b0 1 encS ws0 ∧ ∀ x ∈ ws0, x.size ≤ maxLen) (w1 : rs1.length ≤ maxLen ∧ Reads w a1 1 encS rs1 ∧ ∀ x ∈ rs1, x.size ≤ maxLen) (u1 : ws1.length ≤ maxLen ∧ Reads w b1 1 encS ws1 ∧ ∀ x ∈ ws1, x.size ≤ maxLen) :
    Calls Try.prog 8 #[.agg #[.slice a0 rs0.length c0, .slice b0 ws0.length d0], .agg #[.slice a1 rs1.length c1, .slice b1 ws1.length d1]] w fun e w' => e = .returned (.bool true) ∧ Below w.heap.size w w' := by
-/
theorem own : ownKnob Try.prog.godebug = none := by kernel_rfl
theorem laidOut : laidOutB Try.prog = true := by kernel_rfl
set_option maxRecDepth 100000 in
theorem lifted (os : Os) (started : os.Started) (H : Type) (enc : TypeId × Value → H) :
    ReturnsInHanded {} Try.checked os 8 .any (Rows.fnExactClashSpec.pre6 enc Try.prog Try.f8 Rows.fnExactClashRow.domain false) (Rows.fnExactClashSpec.post enc Try.prog Try.f8 false true false false) := by
  refine returnsInHanded_of_change (C := Try.checked) own started (by kernel_rfl) Try.func8
    (ChangeSpec.witness6 (enc := enc) (C := Try.checked) false ⟨#[], #[.agg #[.slice none 0 0, .slice none 0 0], .agg #[.slice none 0 0, .slice none 0 0]], []⟩ 8 (by kernel_rfl) (by kernel_rfl) (by kernel_rfl) (by kernel_rfl)) ?_
  intro W base args ds gs before hval0 hW _ _
  have hval : ∀ (j : Nat) t v, Try.f8.params[j]? = some t → args[j]? = some v → Value.okWide Try.prog W .any base t v := hval0
  have hW' := hW
  obtain ⟨p, q, hA0, hV, rfl, hfz, hnd⟩ := hW
  have hA : DataW.TrodAll enc Try.prog W 0 (fun _ => true) true Try.f8.params.toList args.toList ds p := hA0
  rw [Try.params8] at hA hval
  obtain ⟨v0, vs0, d0, ds0, p0, q0, hargs, rfl, rfl, h0, g0⟩ := trodAll_cons hA
  obtain ⟨v1, vs1, d1, ds1, p1, q1, rfl, rfl, rfl, h1, g1⟩ := trodAll_cons g0
  obtain ⟨rfl, rfl, rfl⟩ := trodAll_nil g1
  obtain rfl : args = #[v0, v1] := by cases args; simp_all
  obtain ⟨rfl, rfl⟩ := trodVars_none hV
  have k0 := h0
  have lt0 : ∀ x ∈ p0, x.block < W.heap.size := by obtain ⟨m, hm⟩ := k0; exact DataW.trod_lt m _ _ _ hm
  have k1 := h1
  have lt1 : ∀ x ∈ p1, x.block < W.heap.size := by obtain ⟨m, hm⟩ := k1; exact DataW.trod_lt m _ _ _ hm
  obtain ⟨a0, c0, rs0, b0, d0, ws0, rfl, w0, u0⟩ := open_touch Try.underlying37 (by kernel_rfl) (by kernel_rfl) Try.underlying32 Try.underlying32 (by kernel_rfl) Try.underlying9 (hval 0 37 v0 rfl rfl) h0
  obtain ⟨a1, c1, rs1, b1, d1, ws1, rfl, w1, u1⟩ := open_touch Try.underlying37 (by kernel_rfl) (by kernel_rfl) Try.underlying32 Try.underlying32 (by kernel_rfl) Try.underlying9 (hval 1 37 v1 rfl rfl) h1
  clear hA0 hval0
  refine (walk a0 c0 rs0 b0 d0 ws0 a1 c1 rs1 b1 d1 ws1 W w0 u0 w1 u1).mono fun e W' ⟨he, bel⟩ => ?_
  subst he
  exact ⟨_, rfl, _, _, _, [], _, [], hW', trodAll_mk1 (shut_bool Try.underlying4 _), (trodAll_cons_mk (Below.trod laidOut (by kernel_rfl) (of_decide_eq_true (by kernel_rfl)) k0 bel lt0) (trodAll_cons_mk (Below.trod laidOut (by kernel_rfl) (of_decide_eq_true (by kernel_rfl)) k1 bel lt1) trodAll_mk0)), rfl, bel.frame _, fun h => by cases h⟩
theorem over : Rows.fnExactClashRow.holds Try.pinned (OpenSpec.ofChange Rows.fnExactClashSpec) :=
  OpenClaim.holds_of_wide 8 Try.f8 rfl rfl rfl rfl rfl rfl rfl ⟨rfl, rfl, rfl, rfl, rfl⟩ rfl rfl rfl rfl rfl (by kernel_rfl) Try.func8 (by kernel_rfl)
    (of_decide_eq_true (by kernel_rfl)) (by unfold Func.isWrapper; first | (rw [if_pos (by decide +kernel)]; kernel_rfl) | (rw [if_neg (by decide +kernel)]; exact ⟨rfl, rfl⟩))
    (fun os started H enc _ => lifted os started H enc)
theorem proved : Rows.FnExactClashSaid := over
#print axioms proved

end Go.Proofs.Ytnccenfdclmkkaa.fnExactClash
