/- FnExactDiffKeys: for every input the program's DiffKeys returns what the reference's returns, leaves its arguments, and shares no memory. No conditions. -/
import Derived.Test.YtedbmmoddemngaaRows
import Derived.Test.YtedbmmoddemngaaSliceCell
import Derived.Test.YtedbmmoddemngaaDiffKeys
import Derived.Test.YtedbmmoddemngaaMarkS
import Derived.Test.YtedbmmoddemngaaMarkC
import Derived.Test.YtedbmmoddemngaaOwnKeep
import Derived.Test.YtedbmmoddemngaaBelowOwn
import Derived.Lib.Hide
import Derived.Deep.RegionHeld3
import Derived.Deep.DrawnRows
namespace Go.Proofs.Ytedbmmoddemngaa.fnExactDiffKeys
open Go.ChangeShapes Go.WideShapes Go.ChangeAt Go.RowKit
open Go.ChangeMaps (open_string shut_string)
attribute [local go_sem ↓] Go.wp_at_zero Go.wp_at_succ
set_option maxHeartbeats 4000000 in
theorem walk (a0 : Option Addr) (cap0 : Nat) (xs0 : List (ByteArray × ByteArray)) (a1 : Option Addr) (cap1 : Nat) (xs1 : List (ByteArray × ByteArray)) (w : World) (L0 : xs0.length ≤ maxLen) (R0 : Reads w a0 2 encC xs0) (O0 : ∀ x ∈ xs0, okC x) (L1 : xs1.length ≤ maxLen) (R1 : Reads w a1 2 encC xs1) (O1 : ∀ x ∈ xs1, okC x) :
    Calls Try.prog 3 #[.slice a0 xs0.length cap0, .slice a1 xs1.length cap1] w fun e w' => e = .returned (.bool true) ∧ Below w.heap.size w w' := by
  have HR0 := Lib.hid R0
  have HO0 := Lib.hid O0
  clear R0 O0
  have HR1 := Lib.hid R1
  have HO1 := Lib.hid O1
  clear R1 O1
  by_cases q0 : (1048576 : Int) < (bulkL bulkC xs0 : Nat)
  · have E0 := Lib.hid (szSub_no q0)
    go_enter Try.func3, Try.ntmps3
    go_wp2_with fail
    refine (szCellS_c _ _ _ _ (by omega) (by omega) _ L0 HR0.out HO0.out).mono ?_
    rintro e w1 ⟨rfl, hb1⟩
    have B1 : Below w.heap.size w w1 := (by repeat (first | exact Below.refl _ _ | refine Below.drew ?_ | refine below_drewN ?_ _ | refine Below.allocC ?_ _ | refine Below.setCell ?_ (by first | (simp; done) | (simp; omega)) _ | refine Below.chain ?_ (by assumption)))
    rw [E0.out]
    go_wp2
    go_ret
    exact ⟨rfl, (by repeat (first | exact Below.refl _ _ | refine Below.drew ?_ | refine below_drewN ?_ _ | refine Below.allocC ?_ _ | refine Below.setCell ?_ (by first | (simp; done) | (simp; omega)) _ | refine Below.chain ?_ (by assumption)))⟩
  have E0 := Lib.hid (szSub_yes (left := 1048576) (n := bulkL bulkC xs0) (by omega))
  by_cases q1 : (1048576 - (bulkL bulkC xs0 : Nat) : Int) < (bulkL bulkC xs1 : Nat)
  · have E1 := Lib.hid (szSub_no q1)
    go_enter Try.func3, Try.ntmps3
    go_wp2_with fail
    refine (szCellS_c _ _ _ _ (by omega) (by omega) _ L0 HR0.out HO0.out).mono ?_
    rintro e w1 ⟨rfl, hb1⟩
    have B1 : Below w.heap.size w w1 := (by repeat (first | exact Below.refl _ _ | refine Below.drew ?_ | refine below_drewN ?_ _ | refine Below.allocC ?_ _ | refine Below.setCell ?_ (by first | (simp; done) | (simp; omega)) _ | refine Below.chain ?_ (by assumption)))
    rw [E0.out]
    go_wp2_with fail
    refine (szCellS_c _ _ _ _ (by omega) (by omega) _ L1 (HR1.out.below B1) HO1.out).mono ?_
    rintro e w2 ⟨rfl, hb2⟩
    have B2 : Below w.heap.size w w2 := (by repeat (first | exact Below.refl _ _ | refine Below.drew ?_ | refine below_drewN ?_ _ | refine Below.allocC ?_ _ | refine Below.setCell ?_ (by first | (simp; done) | (simp; omega)) _ | refine Below.chain ?_ (by assumption)))
    rw [E1.out]
    go_wp2
    go_ret
    exact ⟨rfl, (by repeat (first | exact Below.refl _ _ | refine Below.drew ?_ | refine below_drewN ?_ _ | refine Below.allocC ?_ _ | refine Below.setCell ?_ (by first | (simp; done) | (simp; omega)) _ | refine Below.chain ?_ (by assumption)))⟩
  have E1 := Lib.hid (szSub_yes (left := 1048576 - (bulkL bulkC xs0 : Nat)) (n := bulkL bulkC xs1) (by omega))
  have M0 : xs0.length ≤ 1048576 := by have := bulkL_ge bulkC xs0; omega
  have M1 : xs1.length ≤ 1048576 := by have := bulkL_ge bulkC xs1; omega
  go_enter Try.func3, Try.ntmps3
  go_wp2_with fail
  refine (szCellS_c _ _ _ _ (by omega) (by omega) _ L0 HR0.out HO0.out).mono ?_
  rintro e w1 ⟨rfl, hb1⟩
  have B1 : Below w.heap.size w w1 := (by repeat (first | exact Below.refl _ _ | refine Below.drew ?_ | refine below_drewN ?_ _ | refine Below.allocC ?_ _ | refine Below.setCell ?_ (by first | (simp; done) | (simp; omega)) _ | refine Below.chain ?_ (by assumption)))
  rw [E0.out]
  go_wp2_with fail
  refine (szCellS_c _ _ _ _ (by omega) (by omega) _ L1 (HR1.out.below B1) HO1.out).mono ?_
  rintro e w2 ⟨rfl, hb2⟩
  have B2 : Below w.heap.size w w2 := (by repeat (first | exact Below.refl _ _ | refine Below.drew ?_ | refine below_drewN ?_ _ | refine Below.allocC ?_ _ | refine Below.setCell ?_ (by first | (simp; done) | (simp; omega)) _ | refine Below.chain ?_ (by assumption)))
  rw [E1.out]
  have HKL := Lib.hid (show (keysL (xs0 ++ xs1) (diffB xs0 xs1)).length ≤ 2097152 from by have := keysL_len (xs0 ++ xs1) (diffB xs0 xs1); rw [List.length_append] at this; omega)
  go_wp2_with fail
  refine (toCellS_c _ _ _ _ M0 (HR0.out.below B2)).mono ?_
  rintro e w3 ⟨v3, rfl, o3, hb3⟩
  have B3 : Below w.heap.size w w3 := (by repeat (first | exact Below.refl _ _ | refine Below.drew ?_ | refine below_drewN ?_ _ | refine Below.allocC ?_ _ | refine Below.setCell ?_ (by first | (simp; done) | (simp; omega)) _ | refine Below.chain ?_ (by assumption)))
  obtain ⟨a3', c3', rfl, r3', k3', m3'⟩ := reads_of_owns' encC_len o3
  go_wp2_with fail
  refine (toCellS_c _ _ _ _ M1 (HR1.out.below B3)).mono ?_
  rintro e w4 ⟨v4, rfl, o4, hb4⟩
  have B4 : Below w.heap.size w w4 := (by repeat (first | exact Below.refl _ _ | refine Below.drew ?_ | refine below_drewN ?_ _ | refine Below.allocC ?_ _ | refine Below.setCell ?_ (by first | (simp; done) | (simp; omega)) _ | refine Below.chain ?_ (by assumption)))
  obtain ⟨a4', c4', rfl, r4', k4', m4'⟩ := reads_of_owns' encC_len o4
  go_wp2_with fail
  refine (specDiffKeys_c _ _ _ _ _ _ _ M0 M1 (r3'.below hb4) r4').mono ?_
  rintro e w5 ⟨a5', c5', rfl, r5', k5', m5', hb5⟩
  have B5 : Below w.heap.size w w5 := (by repeat (first | exact Below.refl _ _ | refine Below.drew ?_ | refine below_drewN ?_ _ | refine Below.allocC ?_ _ | refine Below.setCell ?_ (by first | (simp; done) | (simp; omega)) _ | refine Below.chain ?_ (by assumption)))
  go_wp2_with fail
  refine (toCellS_c _ _ _ _ M0 (HR0.out.below B5)).mono ?_
  rintro e w6 ⟨v6, rfl, o6, hb6⟩
  have B6 : Below w.heap.size w w6 := (by repeat (first | exact Below.refl _ _ | refine Below.drew ?_ | refine below_drewN ?_ _ | refine Below.allocC ?_ _ | refine Below.setCell ?_ (by first | (simp; done) | (simp; omega)) _ | refine Below.chain ?_ (by assumption)))
  obtain ⟨a6', c6', rfl, r6', k6', m6'⟩ := reads_of_owns' encC_len o6
  go_wp2_with fail
  refine (toCellS_c _ _ _ _ M1 (HR1.out.below B6)).mono ?_
  rintro e w7 ⟨v7, rfl, o7, hb7⟩
  have B7 : Below w.heap.size w w7 := (by repeat (first | exact Below.refl _ _ | refine Below.drew ?_ | refine below_drewN ?_ _ | refine Below.allocC ?_ _ | refine Below.setCell ?_ (by first | (simp; done) | (simp; omega)) _ | refine Below.chain ?_ (by assumption)))
  obtain ⟨a7', c7', rfl, r7', k7', m7'⟩ := reads_of_owns' encC_len o7
  go_wp2_with fail
  refine (implDiffKeys_c _ _ _ _ _ _ _ M0 M1 (r6'.below hb7) r7' HO0.out HO1.out).mono ?_
  rintro e w8 ⟨v8, rfl, o8, hb8⟩
  have B8 : Below w.heap.size w w8 := (by repeat (first | exact Below.refl _ _ | refine Below.drew ?_ | refine below_drewN ?_ _ | refine Below.allocC ?_ _ | refine Below.setCell ?_ (by first | (simp; done) | (simp; omega)) _ | refine Below.chain ?_ (by assumption)))
  obtain ⟨a8', c8', rfl, r8', k8', m8'⟩ := reads_of_owns' encS_len o8
  go_wp2_with fail
  refine (eqStringS_c _ _ _ _ _ _ _ (Nat.le_trans HKL.out (by unfold maxLen; omega)) r8' (((r5'.below hb6).below hb7).below hb8)).mono ?_
  rintro e w9 ⟨rfl, hb9⟩
  have B9 : Below w.heap.size w w9 := (by repeat (first | exact Below.refl _ _ | refine Below.drew ?_ | refine below_drewN ?_ _ | refine Below.allocC ?_ _ | refine Below.setCell ?_ (by first | (simp; done) | (simp; omega)) _ | refine Below.chain ?_ (by assumption)))
  rw [same_self]
  go_wp2_with fail
  refine (toCellS_c _ _ _ _ M0 (HR0.out.below B9)).mono ?_
  rintro e w10 ⟨v10, rfl, o10, hb10⟩
  have B10 : Below w.heap.size w w10 := (by repeat (first | exact Below.refl _ _ | refine Below.drew ?_ | refine below_drewN ?_ _ | refine Below.allocC ?_ _ | refine Below.setCell ?_ (by first | (simp; done) | (simp; omega)) _ | refine Below.chain ?_ (by assumption)))
  obtain ⟨a10', c10', rfl, r10', k10', m10'⟩ := reads_of_owns' encC_len o10
  go_wp2_with fail
  refine (eqCellS_c _ _ _ _ _ _ _ (by unfold maxLen; omega) ((((r6'.below hb7).below hb8).below hb9).below hb10) r10').mono ?_
  rintro e w11 ⟨rfl, hb11⟩
  have B11 : Below w.heap.size w w11 := (by repeat (first | exact Below.refl _ _ | refine Below.drew ?_ | refine below_drewN ?_ _ | refine Below.allocC ?_ _ | refine Below.setCell ?_ (by first | (simp; done) | (simp; omega)) _ | refine Below.chain ?_ (by assumption)))
  rw [same_self]
  go_wp2_with fail
  refine (toCellS_c _ _ _ _ M1 (HR1.out.below B11)).mono ?_
  rintro e w12 ⟨v12, rfl, o12, hb12⟩
  have B12 : Below w.heap.size w w12 := (by repeat (first | exact Below.refl _ _ | refine Below.drew ?_ | refine below_drewN ?_ _ | refine Below.allocC ?_ _ | refine Below.setCell ?_ (by first | (simp; done) | (simp; omega)) _ | refine Below.chain ?_ (by assumption)))
  obtain ⟨a12', c12', rfl, r12', k12', m12'⟩ := reads_of_owns' encC_len o12
  go_wp2_with fail
  refine (eqCellS_c _ _ _ _ _ _ _ (by unfold maxLen; omega) (((((r7'.below hb8).below hb9).below hb10).below hb11).below hb12) r12').mono ?_
  rintro e w13 ⟨rfl, hb13⟩
  have B13 : Below w.heap.size w w13 := (by repeat (first | exact Below.refl _ _ | refine Below.drew ?_ | refine below_drewN ?_ _ | refine Below.allocC ?_ _ | refine Below.setCell ?_ (by first | (simp; done) | (simp; omega)) _ | refine Below.chain ?_ (by assumption)))
  rw [same_self]
  have Q6 := Lib.hid (ownsRow_below (ownsRow_below (ownsRow_below (ownsRow_below (ownsRow_below (ownsRow_below (ownsRow_below o6 hb7) hb8) hb9) hb10) hb11) hb12) hb13)
  have Q7 := Lib.hid (ownsRow_below (ownsRow_below (ownsRow_below (ownsRow_below (ownsRow_below (ownsRow_below o7 hb8) hb9) hb10) hb11) hb12) hb13)
  have Q8 := Lib.hid (ownsRow_below (ownsRow_below (ownsRow_below (ownsRow_below (ownsRow_below o8 hb9) hb10) hb11) hb12) hb13)
  have S6 := Lib.hid o6
  have S7 := Lib.hid o7
  have S8 := Lib.hid o8
  have Z1 := Lib.hid hb1.size
  have Z2 := Lib.hid hb2.size
  have Z3 := Lib.hid hb3.size
  have Z4 := Lib.hid hb4.size
  have Z5 := Lib.hid hb5.size
  have Z6 := Lib.hid hb6.size
  have Z7 := Lib.hid hb7.size
  have Z8 := Lib.hid hb8.size
  have Z9 := Lib.hid hb9.size
  have Z10 := Lib.hid hb10.size
  have Z11 := Lib.hid hb11.size
  have Z12 := Lib.hid hb12.size
  have Z13 := Lib.hid hb13.size
  have HS0 := Lib.hid r5'
  have C6 := Lib.hid hb6
  have C7 := Lib.hid (C6.out.trans (hb7.mono C6.out.size))
  have C8 := Lib.hid (C7.out.trans (hb8.mono C7.out.size))
  have C9 := Lib.hid (C8.out.trans (hb9.mono C8.out.size))
  have C10 := Lib.hid (C9.out.trans (hb10.mono C9.out.size))
  have C11 := Lib.hid (C10.out.trans (hb11.mono C10.out.size))
  have C12 := Lib.hid (C11.out.trans (hb12.mono C11.out.size))
  have C13 := Lib.hid (C12.out.trans (hb13.mono C12.out.size))
  have CS0 := C13
  clear r3' r4' r5' r6' r7' r8' r10' r12'
  go_wp2_with fail
  refine (markCellS_c _ _ _ 1 _ _ (by omega) (by omega) Q6.out).mono ?_
  rintro e w14 ⟨rfl, oX, gX⟩
  have B14 : Below w.heap.size w w14 := below_of_own B13 (ownsRow_base Q6.out B5.size) gX
  have CS1 := Lib.hid (below_of_own CS0.out (ownsRow_base Q6.out (by  omega)) gX)
  have D1 := Lib.hid (own_keep Q7.out gX (fun b h1 h2 => by have := (S6.out.lt b h2).2; have := (Q7.out.lt b h1).1;  omega))
  have D2 := Lib.hid (own_keep Q8.out gX (fun b h1 h2 => by have := (S6.out.lt b h2).2; have := (Q8.out.lt b h1).1; have := Z7.out; omega))
  clear oX gX
  go_wp2_with fail
  refine (markCellS_c _ _ _ (1 + 2 * xs0.length) _ _ (by omega) (by omega) D1.out).mono ?_
  rintro e w15 ⟨rfl, oX, gX⟩
  have B15 : Below w.heap.size w w15 := below_of_own B14 (ownsRow_base D1.out B6.size) gX
  have CS2 := Lib.hid (below_of_own CS1.out (ownsRow_base D1.out (by have := Z6.out; omega)) gX)
  have D3 := Lib.hid (own_keep D2.out gX (fun b h1 h2 => by have := (S7.out.lt b h2).2; have := (D2.out.lt b h1).1;  omega))
  obtain ⟨_, _, e2, t2⟩ := reads_of_owns encS_len D3.out
  cases e2
  have t1 := HS0.out.below CS2.out
  clear oX gX
  generalize hkk : ((1 + 2 * xs0.length + 2 * xs1.length : Nat) : Int) = kk
  have pkk : ¬ kk < 0 := by omega
  clear hkk
  go_wp2_with fail
  refine (eqStringS_c _ _ _ _ _ _ _ (Nat.le_trans HKL.out (by unfold maxLen; omega)) t2 t1).mono ?_
  rintro e w16 ⟨rfl, hb16⟩
  have B16 : Below w.heap.size w w16 := (by repeat (first | exact Below.refl _ _ | refine Below.drew ?_ | refine below_drewN ?_ _ | refine Below.allocC ?_ _ | refine Below.setCell ?_ (by first | (simp; done) | (simp; omega)) _ | refine Below.chain ?_ (by assumption)))
  rw [same_self]
  go_wp2_with fail
  refine (markStringS_c _ _ _ 1 _ _ (by omega) (by have := HKL.out; omega) (ownsRow_below D3.out hb16)).mono ?_
  rintro e w17 ⟨rfl, oG, gG⟩
  have B17 : Below w.heap.size w w17 := below_of_own B16 (ownsRow_base (ownsRow_below D3.out hb16) B7.size) gG
  have CS3 := Lib.hid (below_of_own (CS2.out.trans (hb16.mono CS2.out.size)) (ownsRow_base (ownsRow_below D3.out hb16) (by have := Z6.out; have := Z7.out; omega)) gG)
  have D4 := Lib.hid oG
  have e4 := reads_marks D4.out
  have t3 := HS0.out.below CS3.out
  clear oG gG t1 t2
  obtain ⟨mm, hmm⟩ : ∃ mm : Int, ((1 + (keysL (xs0 ++ xs1) (diffB xs0 xs1)).length : Nat) : Int) = mm := ⟨_, rfl⟩
  have pmm : ¬ mm < 0 := by omega
  have HMM := Lib.hid hmm
  clear hmm
  rw [HMM.out]
  go_wp2_with fail
  refine (heldStringS_c _ _ _ 1 _ (by omega) (by have := HKL.out; omega) e4).mono ?_
  rintro e w18 ⟨rfl, hb18⟩
  have B18 : Below w.heap.size w w18 := (by repeat (first | exact Below.refl _ _ | refine Below.drew ?_ | refine below_drewN ?_ _ | refine Below.allocC ?_ _ | refine Below.setCell ?_ (by first | (simp; done) | (simp; omega)) _ | refine Below.chain ?_ (by assumption)))
  rw [HMM.out]
  go_wp2_with fail
  refine (toCellS_c _ _ _ _ M0 (HR0.out.below B18)).mono ?_
  rintro e w19 ⟨v19, rfl, o19, hb19⟩
  have B19 : Below w.heap.size w w19 := (by repeat (first | exact Below.refl _ _ | refine Below.drew ?_ | refine below_drewN ?_ _ | refine Below.allocC ?_ _ | refine Below.setCell ?_ (by first | (simp; done) | (simp; omega)) _ | refine Below.chain ?_ (by assumption)))
  obtain ⟨a19', c19', rfl, r19', k19', m19'⟩ := reads_of_owns' encC_len o19
  go_wp2_with fail
  refine (toCellS_c _ _ _ _ M1 (HR1.out.below B19)).mono ?_
  rintro e w20 ⟨v20, rfl, o20, hb20⟩
  have B20 : Below w.heap.size w w20 := (by repeat (first | exact Below.refl _ _ | refine Below.drew ?_ | refine below_drewN ?_ _ | refine Below.allocC ?_ _ | refine Below.setCell ?_ (by first | (simp; done) | (simp; omega)) _ | refine Below.chain ?_ (by assumption)))
  obtain ⟨a20', c20', rfl, r20', k20', m20'⟩ := reads_of_owns' encC_len o20
  go_wp2_with fail
  refine (implDiffKeys_c _ _ _ _ _ _ _ M0 M1 (r19'.below hb20) r20' HO0.out HO1.out).mono ?_
  rintro e w21 ⟨v21, rfl, o21, hb21⟩
  have B21 : Below w.heap.size w w21 := (by repeat (first | exact Below.refl _ _ | refine Below.drew ?_ | refine below_drewN ?_ _ | refine Below.allocC ?_ _ | refine Below.setCell ?_ (by first | (simp; done) | (simp; omega)) _ | refine Below.chain ?_ (by assumption)))
  obtain ⟨a21', c21', rfl, r21', k21', m21'⟩ := reads_of_owns' encS_len o21
  go_wp2_with fail
  refine (eqStringS_c _ _ _ _ _ _ _ (Nat.le_trans HKL.out (by unfold maxLen; omega)) r21' ((((t3.below hb18).below hb19).below hb20).below hb21)).mono ?_
  rintro e w22 ⟨rfl, hb22⟩
  have B22 : Below w.heap.size w w22 := (by repeat (first | exact Below.refl _ _ | refine Below.drew ?_ | refine below_drewN ?_ _ | refine Below.allocC ?_ _ | refine Below.setCell ?_ (by first | (simp; done) | (simp; omega)) _ | refine Below.chain ?_ (by assumption)))
  rw [same_self]
  go_wp2_with fail
  refine (heldStringS_c _ _ _ 1 _ (by omega) (by have := HKL.out; omega) (((((e4.below hb18).below hb19).below hb20).below hb21).below hb22)).mono ?_
  rintro e w23 ⟨rfl, hb23⟩
  have B23 : Below w.heap.size w w23 := (by repeat (first | exact Below.refl _ _ | refine Below.drew ?_ | refine below_drewN ?_ _ | refine Below.allocC ?_ _ | refine Below.setCell ?_ (by first | (simp; done) | (simp; omega)) _ | refine Below.chain ?_ (by assumption)))
  rw [HMM.out]
  go_wp2
  go_ret
  exact ⟨rfl, (by repeat (first | exact Below.refl _ _ | refine Below.drew ?_ | refine below_drewN ?_ _ | refine Below.allocC ?_ _ | refine Below.setCell ?_ (by first | (simp; done) | (simp; omega)) _ | refine Below.chain ?_ (by assumption)))⟩

/- SIG
theorem walk (a0 : Option Addr) (cap0 : Nat) (xs0 : List (ByteArray × ByteArray)) (a1 : Option Addr) (cap1 : Nat) (xs1 : List (ByteArray × ByteArray)) (w : World) (l0 : xs0.length ≤ maxLen) (r0 : Reads w a0 2 encC xs0) (w0 : ∀ x ∈ xs0, okC x) (l1 : xs1.length ≤ maxLen) (r1 : Reads w a1 2 encC xs1) (w1 : ∀ x ∈ xs1, okC x) :
    Calls Try.prog 3 #[.slice a0 xs0.length cap0, .slice a1 xs1.length cap1] w fun e w' => e = .returned (.bool true) ∧ Below w.heap.size w w' := by
-/
theorem own : ownKnob Try.prog.godebug = none := by kernel_rfl
theorem laidOut : laidOutB Try.prog = true := by kernel_rfl
set_option maxRecDepth 100000 in
theorem lifted (os : Os) (started : os.Started) (H : Type) (enc : TypeId × Value → H) :
    ReturnsInHanded {} Try.checked os 3 .any (Rows.fnExactDiffKeysSpec.pre6 enc Try.prog Try.f3 Rows.fnExactDiffKeysRow.domain false) (Rows.fnExactDiffKeysSpec.post enc Try.prog Try.f3 false true false false) := by
  refine returnsInHanded_of_change (C := Try.checked) own started (by kernel_rfl) Try.func3
    (ChangeSpec.witness6 (enc := enc) (C := Try.checked) false ⟨#[], #[.slice none 0 0, .slice none 0 0], []⟩ 8 (by kernel_rfl) (by kernel_rfl) (by kernel_rfl) (by kernel_rfl)) ?_
  intro W base args ds gs before hval0 hW _ _
  have hval : ∀ (j : Nat) t v, Try.f3.params[j]? = some t → args[j]? = some v → Value.okWide Try.prog W .any base t v := hval0
  have hW' := hW
  obtain ⟨p, q, hA0, hV, rfl, hfz, hnd⟩ := hW
  have hA : DataW.TrodAll enc Try.prog W 0 (fun _ => true) true Try.f3.params.toList args.toList ds p := hA0
  rw [Try.params3] at hA hval
  obtain ⟨v0, vs0, d0, ds0, p0, q0, hargs, rfl, rfl, h0, g0⟩ := trodAll_cons hA
  obtain ⟨v1, vs1, d1, ds1, p1, q1, rfl, rfl, rfl, h1, g1⟩ := trodAll_cons g0
  obtain ⟨rfl, rfl, rfl⟩ := trodAll_nil g1
  obtain rfl : args = #[v0, v1] := by cases args; simp_all
  obtain ⟨rfl, rfl⟩ := trodVars_none hV
  have k0 := h0
  have lt0 : ∀ x ∈ p0, x.block < W.heap.size := by obtain ⟨m, hm⟩ := k0; exact DataW.trod_lt m _ _ _ hm
  have k1 := h1
  have lt1 : ∀ x ∈ p1, x.block < W.heap.size := by obtain ⟨m, hm⟩ := k1; exact DataW.trod_lt m _ _ _ hm
  obtain ⟨a0, len0, cap0, rfl⟩ := okWide_slice Try.underlying22 (hval 0 22 v0 rfl rfl)
  obtain ⟨l0, xs0, rfl, r0, w0⟩ := open_rows encC okC 2 Try.underlying22 (by kernel_rfl) (by decide) (elem_cell Try.underlying43 (by kernel_rfl) Try.underlying9 Try.underlying9) h0
  obtain ⟨a1, len1, cap1, rfl⟩ := okWide_slice Try.underlying22 (hval 1 22 v1 rfl rfl)
  obtain ⟨l1, xs1, rfl, r1, w1⟩ := open_rows encC okC 2 Try.underlying22 (by kernel_rfl) (by decide) (elem_cell Try.underlying43 (by kernel_rfl) Try.underlying9 Try.underlying9) h1
  clear hA0 hval0
  refine (walk a0 cap0 xs0 a1 cap1 xs1 W l0 r0 w0 l1 r1 w1).mono fun e W' ⟨he, bel⟩ => ?_
  subst he
  exact ⟨_, rfl, _, _, _, [], _, [], hW', trodAll_mk1 (shut_bool Try.underlying4 _), (trodAll_cons_mk (Below.trod laidOut (by kernel_rfl) (of_decide_eq_true (by kernel_rfl)) k0 bel lt0) (trodAll_cons_mk (Below.trod laidOut (by kernel_rfl) (of_decide_eq_true (by kernel_rfl)) k1 bel lt1) trodAll_mk0)), rfl, bel.frame _, fun h => by cases h⟩
theorem over : Rows.fnExactDiffKeysRow.holds Try.pinned (OpenSpec.ofChange Rows.fnExactDiffKeysSpec) :=
  OpenClaim.holds_of_wide 3 Try.f3 rfl rfl rfl rfl rfl rfl rfl ⟨rfl, rfl, rfl, rfl, rfl⟩ rfl rfl rfl rfl rfl (by kernel_rfl) Try.func3 (by kernel_rfl)
    (of_decide_eq_true (by kernel_rfl)) (by unfold Func.isWrapper; first | (rw [if_pos (by decide +kernel)]; kernel_rfl) | (rw [if_neg (by decide +kernel)]; exact ⟨rfl, rfl⟩))
    (fun os started H enc _ => lifted os started H enc)
theorem proved : Rows.FnExactDiffKeysSaid := over
#print axioms proved

end Go.Proofs.Ytedbmmoddemngaa.fnExactDiffKeys
