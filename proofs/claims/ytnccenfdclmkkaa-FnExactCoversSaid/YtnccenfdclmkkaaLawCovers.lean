/- FnExactCovers: for every input the program's Covers returns what the reference's returns. No conditions. -/
import Derived.Test.YtnccenfdclmkkaaRows
import Derived.Test.YtnccenfdclmkkaaSliceString
import Derived.Test.YtnccenfdclmkkaaCovers
import Derived.Lib.Hide
import Derived.Deep.RegionHeld3
import Derived.Deep.DrawnRows
namespace Go.Proofs.Ytnccenfdclmkkaa.fnExactCovers
open Go.ChangeShapes Go.WideShapes Go.ChangeAt Go.RowKit
open Go.ChangeMaps (open_string shut_string)
attribute [local go_sem ↓] Go.wp_at_zero Go.wp_at_succ
set_option maxHeartbeats 4000000 in
theorem walk (a0 : Option Addr) (cap0 : Nat) (xs0 : List ByteArray) (a1 : Option Addr) (cap1 : Nat) (xs1 : List ByteArray) (w : World) (L0 : xs0.length ≤ maxLen) (R0 : Reads w a0 1 encS xs0) (O0 : ∀ x ∈ xs0, (fun s => s.size ≤ maxLen) x) (L1 : xs1.length ≤ maxLen) (R1 : Reads w a1 1 encS xs1) (O1 : ∀ x ∈ xs1, (fun s => s.size ≤ maxLen) x) :
    Calls Try.prog 6 #[.slice a0 xs0.length cap0, .slice a1 xs1.length cap1] w fun e w' => e = .returned (.bool true) ∧ Below w.heap.size w w' := by
  have HR0 := Lib.hid R0
  have HO0 := Lib.hid O0
  clear R0 O0
  have HR1 := Lib.hid R1
  have HO1 := Lib.hid O1
  clear R1 O1
  by_cases q0 : (1048576 : Int) < (bulkL bulkS xs0 : Nat)
  · have E0 := Lib.hid (szSub_no q0)
    go_enter Try.func6, Try.ntmps6
    go_wp2_with fail
    refine (szStringS_c _ _ _ _ (by omega) (by omega) _ L0 HR0.out HO0.out).mono ?_
    rintro e w1 ⟨rfl, hb1⟩
    have B1 : Below w.heap.size w w1 := (by repeat (first | exact Below.refl _ _ | refine Below.drew ?_ | refine below_drewN ?_ _ | refine Below.allocC ?_ _ | refine Below.setCell ?_ (by first | (simp; done) | (simp; omega)) _ | refine Below.chain ?_ (by assumption)))
    rw [E0.out]
    go_wp2
    go_ret
    exact ⟨rfl, (by repeat (first | exact Below.refl _ _ | refine Below.drew ?_ | refine below_drewN ?_ _ | refine Below.allocC ?_ _ | refine Below.setCell ?_ (by first | (simp; done) | (simp; omega)) _ | refine Below.chain ?_ (by assumption)))⟩
  have E0 := Lib.hid (szSub_yes (left := 1048576) (n := bulkL bulkS xs0) (by omega))
  by_cases q1 : (1048576 - (bulkL bulkS xs0 : Nat) : Int) < (bulkL bulkS xs1 : Nat)
  · have E1 := Lib.hid (szSub_no q1)
    go_enter Try.func6, Try.ntmps6
    go_wp2_with fail
    refine (szStringS_c _ _ _ _ (by omega) (by omega) _ L0 HR0.out HO0.out).mono ?_
    rintro e w1 ⟨rfl, hb1⟩
    have B1 : Below w.heap.size w w1 := (by repeat (first | exact Below.refl _ _ | refine Below.drew ?_ | refine below_drewN ?_ _ | refine Below.allocC ?_ _ | refine Below.setCell ?_ (by first | (simp; done) | (simp; omega)) _ | refine Below.chain ?_ (by assumption)))
    rw [E0.out]
    go_wp2_with fail
    refine (szStringS_c _ _ _ _ (by omega) (by omega) _ L1 (HR1.out.below B1) HO1.out).mono ?_
    rintro e w2 ⟨rfl, hb2⟩
    have B2 : Below w.heap.size w w2 := (by repeat (first | exact Below.refl _ _ | refine Below.drew ?_ | refine below_drewN ?_ _ | refine Below.allocC ?_ _ | refine Below.setCell ?_ (by first | (simp; done) | (simp; omega)) _ | refine Below.chain ?_ (by assumption)))
    rw [E1.out]
    go_wp2
    go_ret
    exact ⟨rfl, (by repeat (first | exact Below.refl _ _ | refine Below.drew ?_ | refine below_drewN ?_ _ | refine Below.allocC ?_ _ | refine Below.setCell ?_ (by first | (simp; done) | (simp; omega)) _ | refine Below.chain ?_ (by assumption)))⟩
  have E1 := Lib.hid (szSub_yes (left := 1048576 - (bulkL bulkS xs0 : Nat)) (n := bulkL bulkS xs1) (by omega))
  have M0 : xs0.length ≤ 1048576 := by have := bulkL_ge bulkS xs0; omega
  have M1 : xs1.length ≤ 1048576 := by have := bulkL_ge bulkS xs1; omega
  go_enter Try.func6, Try.ntmps6
  go_wp2_with fail
  refine (szStringS_c _ _ _ _ (by omega) (by omega) _ L0 HR0.out HO0.out).mono ?_
  rintro e w1 ⟨rfl, hb1⟩
  have B1 : Below w.heap.size w w1 := (by repeat (first | exact Below.refl _ _ | refine Below.drew ?_ | refine below_drewN ?_ _ | refine Below.allocC ?_ _ | refine Below.setCell ?_ (by first | (simp; done) | (simp; omega)) _ | refine Below.chain ?_ (by assumption)))
  rw [E0.out]
  go_wp2_with fail
  refine (szStringS_c _ _ _ _ (by omega) (by omega) _ L1 (HR1.out.below B1) HO1.out).mono ?_
  rintro e w2 ⟨rfl, hb2⟩
  have B2 : Below w.heap.size w w2 := (by repeat (first | exact Below.refl _ _ | refine Below.drew ?_ | refine below_drewN ?_ _ | refine Below.allocC ?_ _ | refine Below.setCell ?_ (by first | (simp; done) | (simp; omega)) _ | refine Below.chain ?_ (by assumption)))
  rw [E1.out]
  go_wp2_with fail
  refine (toStringS_c _ _ _ _ M0 (HR0.out.below B2)).mono ?_
  rintro e w3 ⟨v3, rfl, o3, hb3⟩
  have B3 : Below w.heap.size w w3 := (by repeat (first | exact Below.refl _ _ | refine Below.drew ?_ | refine below_drewN ?_ _ | refine Below.allocC ?_ _ | refine Below.setCell ?_ (by first | (simp; done) | (simp; omega)) _ | refine Below.chain ?_ (by assumption)))
  obtain ⟨a3', c3', rfl, r3', k3', m3'⟩ := reads_of_owns' encS_len o3
  go_wp2_with fail
  refine (toStringS_c _ _ _ _ M1 (HR1.out.below B3)).mono ?_
  rintro e w4 ⟨v4, rfl, o4, hb4⟩
  have B4 : Below w.heap.size w w4 := (by repeat (first | exact Below.refl _ _ | refine Below.drew ?_ | refine below_drewN ?_ _ | refine Below.allocC ?_ _ | refine Below.setCell ?_ (by first | (simp; done) | (simp; omega)) _ | refine Below.chain ?_ (by assumption)))
  obtain ⟨a4', c4', rfl, r4', k4', m4'⟩ := reads_of_owns' encS_len o4
  go_wp2_with fail
  refine (specCovers_c _ _ _ _ _ _ _ (by unfold maxLen; omega) (by unfold maxLen; omega) (r3'.below hb4) r4' HO0.out HO1.out).mono ?_
  rintro e w5 ⟨rfl, hb5⟩
  have B5 : Below w.heap.size w w5 := (by repeat (first | exact Below.refl _ _ | refine Below.drew ?_ | refine below_drewN ?_ _ | refine Below.allocC ?_ _ | refine Below.setCell ?_ (by first | (simp; done) | (simp; omega)) _ | refine Below.chain ?_ (by assumption)))
  go_wp2_with fail
  refine (toStringS_c _ _ _ _ M0 (HR0.out.below B5)).mono ?_
  rintro e w6 ⟨v6, rfl, o6, hb6⟩
  have B6 : Below w.heap.size w w6 := (by repeat (first | exact Below.refl _ _ | refine Below.drew ?_ | refine below_drewN ?_ _ | refine Below.allocC ?_ _ | refine Below.setCell ?_ (by first | (simp; done) | (simp; omega)) _ | refine Below.chain ?_ (by assumption)))
  obtain ⟨a6', c6', rfl, r6', k6', m6'⟩ := reads_of_owns' encS_len o6
  go_wp2_with fail
  refine (toStringS_c _ _ _ _ M1 (HR1.out.below B6)).mono ?_
  rintro e w7 ⟨v7, rfl, o7, hb7⟩
  have B7 : Below w.heap.size w w7 := (by repeat (first | exact Below.refl _ _ | refine Below.drew ?_ | refine below_drewN ?_ _ | refine Below.allocC ?_ _ | refine Below.setCell ?_ (by first | (simp; done) | (simp; omega)) _ | refine Below.chain ?_ (by assumption)))
  obtain ⟨a7', c7', rfl, r7', k7', m7'⟩ := reads_of_owns' encS_len o7
  go_wp2_with fail
  refine (implCovers_c _ _ _ _ _ _ _ (by unfold maxLen; omega) (by unfold maxLen; omega) (r6'.below hb7) r7' HO0.out HO1.out).mono ?_
  rintro e w8 ⟨rfl, hb8⟩
  have B8 : Below w.heap.size w w8 := (by repeat (first | exact Below.refl _ _ | refine Below.drew ?_ | refine below_drewN ?_ _ | refine Below.allocC ?_ _ | refine Below.setCell ?_ (by first | (simp; done) | (simp; omega)) _ | refine Below.chain ?_ (by assumption)))
  generalize coversB xs0 xs1 = r
  go_wp2_with fail
  refine (toStringS_c _ _ _ _ M0 (HR0.out.below B8)).mono ?_
  rintro e w9 ⟨v9, rfl, o9, hb9⟩
  have B9 : Below w.heap.size w w9 := (by repeat (first | exact Below.refl _ _ | refine Below.drew ?_ | refine below_drewN ?_ _ | refine Below.allocC ?_ _ | refine Below.setCell ?_ (by first | (simp; done) | (simp; omega)) _ | refine Below.chain ?_ (by assumption)))
  obtain ⟨a9', c9', rfl, r9', k9', m9'⟩ := reads_of_owns' encS_len o9
  go_wp2_with fail
  refine (eqStringS_c _ _ _ _ _ _ _ (by unfold maxLen; omega) (((r6'.below hb7).below hb8).below hb9) r9').mono ?_
  rintro e w10 ⟨rfl, hb10⟩
  have B10 : Below w.heap.size w w10 := (by repeat (first | exact Below.refl _ _ | refine Below.drew ?_ | refine below_drewN ?_ _ | refine Below.allocC ?_ _ | refine Below.setCell ?_ (by first | (simp; done) | (simp; omega)) _ | refine Below.chain ?_ (by assumption)))
  rw [same_self]
  go_wp2_with fail
  refine (toStringS_c _ _ _ _ M1 (HR1.out.below B10)).mono ?_
  rintro e w11 ⟨v11, rfl, o11, hb11⟩
  have B11 : Below w.heap.size w w11 := (by repeat (first | exact Below.refl _ _ | refine Below.drew ?_ | refine below_drewN ?_ _ | refine Below.allocC ?_ _ | refine Below.setCell ?_ (by first | (simp; done) | (simp; omega)) _ | refine Below.chain ?_ (by assumption)))
  obtain ⟨a11', c11', rfl, r11', k11', m11'⟩ := reads_of_owns' encS_len o11
  go_wp2_with fail
  refine (eqStringS_c _ _ _ _ _ _ _ (by unfold maxLen; omega) ((((r7'.below hb8).below hb9).below hb10).below hb11) r11').mono ?_
  rintro e w12 ⟨rfl, hb12⟩
  have B12 : Below w.heap.size w w12 := (by repeat (first | exact Below.refl _ _ | refine Below.drew ?_ | refine below_drewN ?_ _ | refine Below.allocC ?_ _ | refine Below.setCell ?_ (by first | (simp; done) | (simp; omega)) _ | refine Below.chain ?_ (by assumption)))
  rw [same_self]
  go_wp2
  go_ret
  exact ⟨rfl, (by repeat (first | exact Below.refl _ _ | refine Below.drew ?_ | refine below_drewN ?_ _ | refine Below.allocC ?_ _ | refine Below.setCell ?_ (by first | (simp; done) | (simp; omega)) _ | refine Below.chain ?_ (by assumption)))⟩

/- SIG
theorem walk (a0 : Option Addr) (cap0 : Nat) (xs0 : List ByteArray) (a1 : Option Addr) (cap1 : Nat) (xs1 : List ByteArray) (w : World) (l0 : xs0.length ≤ maxLen) (r0 : Reads w a0 1 encS xs0) (w0 : ∀ x ∈ xs0, (fun s => s.size ≤ maxLen) x) (l1 : xs1.length ≤ maxLen) (r1 : Reads w a1 1 encS xs1) (w1 : ∀ x ∈ xs1, (fun s => s.size ≤ maxLen) x) :
    Calls Try.prog 6 #[.slice a0 xs0.length cap0, .slice a1 xs1.length cap1] w fun e w' => e = .returned (.bool true) ∧ Below w.heap.size w w' := by
-/
theorem own : ownKnob Try.prog.godebug = none := by kernel_rfl
theorem laidOut : laidOutB Try.prog = true := by kernel_rfl
set_option maxRecDepth 100000 in
theorem lifted (os : Os) (started : os.Started) (H : Type) (enc : TypeId × Value → H) :
    ReturnsInHanded {} Try.checked os 6 .any (Rows.fnExactCoversSpec.pre6 enc Try.prog Try.f6 Rows.fnExactCoversRow.domain false) (Rows.fnExactCoversSpec.post enc Try.prog Try.f6 false true false false) := by
  refine returnsInHanded_of_change (C := Try.checked) own started (by kernel_rfl) Try.func6
    (ChangeSpec.witness6 (enc := enc) (C := Try.checked) false ⟨#[], #[.slice none 0 0, .slice none 0 0], []⟩ 8 (by kernel_rfl) (by kernel_rfl) (by kernel_rfl) (by kernel_rfl)) ?_
  intro W base args ds gs before hval0 hW _ _
  have hval : ∀ (j : Nat) t v, Try.f6.params[j]? = some t → args[j]? = some v → Value.okWide Try.prog W .any base t v := hval0
  have hW' := hW
  obtain ⟨p, q, hA0, hV, rfl, hfz, hnd⟩ := hW
  have hA : DataW.TrodAll enc Try.prog W 0 (fun _ => true) true Try.f6.params.toList args.toList ds p := hA0
  rw [Try.params6] at hA hval
  obtain ⟨v0, vs0, d0, ds0, p0, q0, hargs, rfl, rfl, h0, g0⟩ := trodAll_cons hA
  obtain ⟨v1, vs1, d1, ds1, p1, q1, rfl, rfl, rfl, h1, g1⟩ := trodAll_cons g0
  obtain ⟨rfl, rfl, rfl⟩ := trodAll_nil g1
  obtain rfl : args = #[v0, v1] := by cases args; simp_all
  obtain ⟨rfl, rfl⟩ := trodVars_none hV
  have k0 := h0
  have lt0 : ∀ x ∈ p0, x.block < W.heap.size := by obtain ⟨m, hm⟩ := k0; exact DataW.trod_lt m _ _ _ hm
  have k1 := h1
  have lt1 : ∀ x ∈ p1, x.block < W.heap.size := by obtain ⟨m, hm⟩ := k1; exact DataW.trod_lt m _ _ _ hm
  obtain ⟨a0, len0, cap0, rfl⟩ := okWide_slice Try.underlying32 (hval 0 32 v0 rfl rfl)
  obtain ⟨l0, xs0, rfl, r0, w0⟩ := open_rows encS (fun s => s.size ≤ maxLen) 1 Try.underlying32 (by kernel_rfl) (by decide) (elem_string Try.underlying9) h0
  obtain ⟨a1, len1, cap1, rfl⟩ := okWide_slice Try.underlying32 (hval 1 32 v1 rfl rfl)
  obtain ⟨l1, xs1, rfl, r1, w1⟩ := open_rows encS (fun s => s.size ≤ maxLen) 1 Try.underlying32 (by kernel_rfl) (by decide) (elem_string Try.underlying9) h1
  clear hA0 hval0
  refine (walk a0 cap0 xs0 a1 cap1 xs1 W l0 r0 w0 l1 r1 w1).mono fun e W' ⟨he, bel⟩ => ?_
  subst he
  exact ⟨_, rfl, _, _, _, [], _, [], hW', trodAll_mk1 (shut_bool Try.underlying4 _), (trodAll_cons_mk (Below.trod laidOut (by kernel_rfl) (of_decide_eq_true (by kernel_rfl)) k0 bel lt0) (trodAll_cons_mk (Below.trod laidOut (by kernel_rfl) (of_decide_eq_true (by kernel_rfl)) k1 bel lt1) trodAll_mk0)), rfl, bel.frame _, fun h => by cases h⟩
theorem over : Rows.fnExactCoversRow.holds Try.pinned (OpenSpec.ofChange Rows.fnExactCoversSpec) :=
  OpenClaim.holds_of_wide 6 Try.f6 rfl rfl rfl rfl rfl rfl rfl ⟨rfl, rfl, rfl, rfl, rfl⟩ rfl rfl rfl rfl rfl (by kernel_rfl) Try.func6 (by kernel_rfl)
    (of_decide_eq_true (by kernel_rfl)) (by unfold Func.isWrapper; first | (rw [if_pos (by decide +kernel)]; kernel_rfl) | (rw [if_neg (by decide +kernel)]; exact ⟨rfl, rfl⟩))
    (fun os started H enc _ => lifted os started H enc)
theorem proved : Rows.FnExactCoversSaid := over
#print axioms proved

end Go.Proofs.Ytnccenfdclmkkaa.fnExactCovers
