/- FnExactMachOf: for every input the program's MachOf returns what the reference's returns, leaves its argument, and shares no memory. No conditions. -/
import Derived.Test.YtnccenfdclmkkaaRows
import Derived.Test.YtnccenfdclmkkaaMach
import Derived.Test.YtnccenfdclmkkaaMachOf
import Derived.Test.YtnccenfdclmkkaaMarkM
import Derived.Test.YtnccenfdclmkkaaOwnKeep
import Derived.Lib.Hide
import Derived.Deep.RegionHeld3
import Derived.Deep.DrawnRows
namespace Go.Proofs.Ytnccenfdclmkkaa.fnExactMachOf
open Go.ChangeShapes Go.WideShapes Go.ChangeAt Go.RowKit
open Go.ChangeMaps (open_string shut_string)
attribute [local go_sem ↓] Go.wp_at_zero Go.wp_at_succ
theorem box_grown {w w' : World} {b : Nat} {xs : List Value} {u : Option Nat} (h : Box w b xs) (hg : w.grownBy w' u) (hne : u ≠ some b) : Box w' b xs := by
  obtain ⟨q1, T, q2⟩ := h
  exact ⟨Nat.lt_of_lt_of_le q1 hg.size, T, (hg.block b q1 (fun e => hne e.symm)).trans q2⟩
theorem own_none {w : World} {base T K n cap : Nat} {a : Option Addr} {cells : List Value} (h : w.ownsRow base T K (.slice a n cap) n cells) : a = none → cap = 0 := by
  rintro rfl
  rcases h.2 with ⟨e, _⟩ | ⟨g, c, cur, e, _⟩
  · simpa using (Value.slice.inj e).2.2
  · simp at e
set_option maxHeartbeats 8000000 in
theorem walk (a0 : Option Addr) (cap0 : Nat) (xs0 : List (ByteArray × ByteArray)) (w : World) (L0 : xs0.length ≤ maxLen) (R0 : Reads w a0 2 encC xs0) (O0 : ∀ x ∈ xs0, okC x) :
    Calls Try.prog 11 #[.slice a0 xs0.length cap0] w fun e w' => e = .returned (.bool true) ∧ Below w.heap.size w w' := by
  have HR0 := Lib.hid R0
  have HO0 := Lib.hid O0
  clear R0 O0
  by_cases q0 : (1048576 : Int) < (bulkL bulkC xs0 : Nat)
  · have E0 := Lib.hid (szSub_no q0)
    go_enter Try.func11, Try.ntmps11
    go_wp2_with fail
    refine (szCellS_c _ _ _ _ (by omega) (by omega) _ L0 HR0.out HO0.out).mono ?_
    rintro e w1 ⟨rfl, hb1⟩
    rw [E0.out]
    go_wp2
    go_ret
    exact ⟨rfl, (by repeat (first | exact Below.refl _ _ | refine Below.drew ?_ | refine below_drewN ?_ _ | refine Below.allocC ?_ _ | refine Below.setCell ?_ (by first | (simp; done) | (simp; omega)) _ | refine Below.chain ?_ (by assumption)))⟩
  have E0 := Lib.hid (szSub_yes (left := 1048576) (n := bulkL bulkC xs0) (by omega))
  have M0 : xs0.length ≤ 1048576 := by have := bulkL_ge bulkC xs0; omega
  go_enter Try.func11, Try.ntmps11
  go_wp2_with fail
  refine (szCellS_c _ _ _ _ (by omega) (by omega) _ L0 HR0.out HO0.out).mono ?_
  rintro e w1 ⟨rfl, hb1⟩
  have B1 : Below w.heap.size w w1 := (by repeat (first | exact Below.refl _ _ | refine Below.drew ?_ | refine below_drewN ?_ _ | refine Below.allocC ?_ _ | refine Below.setCell ?_ (by first | (simp; done) | (simp; omega)) _ | refine Below.chain ?_ (by assumption)))
  rw [E0.out]
  go_wp2_with fail
  refine (toCellS_c _ _ _ _ M0 (HR0.out.below B1)).mono ?_
  rintro e w2 ⟨v2, rfl, o2, hb2⟩
  have B2 : Below w.heap.size w w2 := (by repeat (first | exact Below.refl _ _ | refine Below.drew ?_ | refine below_drewN ?_ _ | refine Below.allocC ?_ _ | refine Below.setCell ?_ (by first | (simp; done) | (simp; omega)) _ | refine Below.chain ?_ (by assumption)))
  obtain ⟨a2', c2', rfl, r2'⟩ := reads_of_owns encC_len o2
  go_wp2_with fail
  refine (specMachOf_c _ _ _ _ M0 (own_none o2) r2').mono ?_
  rintro e w3 ⟨v3, rfl, o3, hb3⟩
  have B3 : Below w.heap.size w w3 := (by repeat (first | exact Below.refl _ _ | refine Below.drew ?_ | refine below_drewN ?_ _ | refine Below.allocC ?_ _ | refine Below.setCell ?_ (by first | (simp; done) | (simp; omega)) _ | refine Below.chain ?_ (by assumption)))
  obtain ⟨a3, c3, rfl, r3⟩ := reads_of_owns encC_len o3
  have B3a : Below w.heap.size w (w3.alloc (.cells #[.slice a3 xs0.length c3, .slice none 0 0, .slice none 0 0] 48)) := (by repeat (first | exact Below.refl _ _ | refine Below.drew ?_ | refine below_drewN ?_ _ | refine Below.allocC ?_ _ | refine Below.setCell ?_ (by first | (simp; done) | (simp; omega)) _ | refine Below.chain ?_ (by assumption)))
  have V0 := Box.new w3 [.slice a3 xs0.length c3, .slice none 0 0, .slice none 0 0] 48
  go_wp2_with fail
  refine (toCellS_c _ _ _ _ M0 (HR0.out.below B3a)).mono ?_
  rintro e w4 ⟨v4, rfl, o4, hb4⟩
  have B4 : Below w.heap.size w w4 := B3a.trans (hb4.mono B3a.size)
  obtain ⟨a4, c4, rfl, r4⟩ := reads_of_owns encC_len o4
  replace V0 := V0.below hb4
  go_wp2_with fail
  refine (implMachOf_c _ _ _ _ M0 r4).mono ?_
  rintro e w5 ⟨v5, rfl, o5, hb5⟩
  have B5 : Below w.heap.size w w5 := B4.trans (hb5.mono B4.size)
  obtain ⟨a5, c5, rfl, r5⟩ := reads_of_owns encC_len o5
  have B5a : Below w.heap.size w (w5.alloc (.cells #[.slice a5 xs0.length c5, .slice none 0 0, .slice none 0 0] 48)) := Below.allocC B5 _
  replace V0 := (V0.below hb5).alloc (.cells #[.slice a5 xs0.length c5, .slice none 0 0, .slice none 0 0] 48)
  have V1 := Box.new w5 [.slice a5 xs0.length c5, .slice none 0 0, .slice none 0 0] 48
  have f0 := V0.cell 0 _ rfl
  have f1 := V0.cell 1 _ rfl
  have f2 := V0.cell 2 _ rfl
  go_wp2_with fail
  have A5 : Below w5.heap.size w5 (w5.alloc (.cells #[.slice a5 xs0.length c5, .slice none 0 0, .slice none 0 0] 48)) := Below.allocC (Below.refl _ _) _
  have A3 : Below w3.heap.size w3 (w3.alloc (.cells #[.slice a3 xs0.length c3, .slice none 0 0, .slice none 0 0] 48)) := Below.allocC (Below.refl _ _) _
  have X5 := ownsRow_below o5 A5
  have X4 := ownsRow_below (ownsRow_below o4 hb5) A5
  have X3 := ownsRow_below (ownsRow_below (ownsRow_below (ownsRow_below o3 A3) hb4) hb5) A5
  have t3 := (((r3.below A3).below hb4).below hb5).below A5
  have t4 := (r4.below hb5).below A5
  have t5 := r5.below A5
  have PL : xs0.length ≤ maxLen := by unfold maxLen; omega
  have PZ : ([] : List ByteArray).length ≤ maxLen := Nat.zero_le _
  have HE := Lib.hid (fun (W : World) (a a' : Option Addr) (c c' : Nat) (h1 : Reads W a 2 encC xs0) (h2 : Reads W a' 2 encC xs0) => eqMach_c a none none c 0 0 xs0 [] [] a' none none c' 0 0 xs0 [] [] W PL PZ PZ h1 (.inl rfl) (.inl rfl) h2 (.inl rfl) (.inl rfl))
  simp only [same_self, Bool.and_self, List.length_nil] at HE
  have HP := Lib.hid PL
  clear PL PZ f0 f1 f2
  refine (HE.out _ _ _ _ _ t5 t3).mono ?_
  rintro e w6 ⟨rfl, hb6⟩
  have B6 : Below w.heap.size w w6 := B5a.trans (hb6.mono B5a.size)
  replace V0 := V0.below hb6
  replace V1 := V1.below hb6
  go_wp2_with fail
  refine (toCellS_c _ _ _ _ M0 (HR0.out.below B6)).mono ?_
  rintro e w7 ⟨v7, rfl, o7, hb7⟩
  have B7 : Below w.heap.size w w7 := B6.trans (hb7.mono B6.size)
  obtain ⟨a7, c7, rfl, r7⟩ := reads_of_owns encC_len o7
  go_wp2_with fail
  refine (eqCellS_c _ _ _ _ _ _ _ HP.out ((t4.below hb6).below hb7) r7).mono ?_
  rintro e w8 ⟨rfl, hb8⟩
  have B8 : Below w.heap.size w w8 := B7.trans (hb8.mono B7.size)
  rw [same_self]
  replace V0 := (V0.below hb7).below hb8
  replace V1 := (V1.below hb7).below hb8
  replace X3 := ownsRow_below (ownsRow_below (ownsRow_below X3 hb6) hb7) hb8
  replace X4 := ownsRow_below (ownsRow_below (ownsRow_below X4 hb6) hb7) hb8
  replace X5 := ownsRow_below (ownsRow_below (ownsRow_below X5 hb6) hb7) hb8
  have s4 := hb4.size
  have s5 := hb5.size
  simp only [World.size_alloc] at s4 X4
  have b4 := o4.lt
  have b3 := o3.lt
  have b5 := o5.lt
  simp only [World.size_alloc] at b4
  clear t3 t4 t5 r3 r4 r5 r7 r2' o2 o7
  go_wp2_with fail
  refine (markCellS_c _ _ _ 1 _ _ (by omega) (by omega) X4).mono ?_
  rintro e w9 ⟨rfl, oX, gX⟩
  have B9 : Below w.heap.size w w9 := below_of_own B8 (ownsRow_base X4 (by have := B3.size; omega)) gX
  have D3 := own_keep X3 gX (fun b h1 h2 => by have := (b3 b h1).2; have := (b4 b h2).1; omega)
  have D5 := own_keep X5 gX (fun b h1 h2 => by have := (b5 b h1).1; have := (b4 b h2).2; omega)
  replace V0 := box_grown V0 gX (fun h => by have := (b4 _ h).1; omega)
  replace V1 := box_grown V1 gX (fun h => by have := (b4 _ h).2; omega)
  clear oX gX X3 X4 X5
  obtain ⟨_, _, e3, t3⟩ := reads_of_owns encC_len D3
  cases e3
  obtain ⟨_, _, e5, t5⟩ := reads_of_owns encC_len D5
  cases e5
  generalize hkk : ((1 + 2 * xs0.length : Nat) : Int) = kk
  have pkk : ¬ kk < 0 := by omega
  have HKK := Lib.hid hkk
  clear hkk
  have f0 := V0.cell 0 _ rfl
  have f1 := V0.cell 1 _ rfl
  have f2 := V0.cell 2 _ rfl
  have g0 := V1.cell 0 _ rfl
  have g1 := V1.cell 1 _ rfl
  have g2 := V1.cell 2 _ rfl
  go_wp2_with fail
  refine (HE.out _ _ _ _ _ t5 t3).mono ?_
  rintro e w10 ⟨rfl, hb10⟩
  have B10 : Below w.heap.size w w10 := B9.trans (hb10.mono B9.size)
  replace V0 := V0.below hb10
  replace V1 := V1.below hb10
  replace D3 := ownsRow_below D3 hb10
  replace D5 := ownsRow_below D5 hb10
  clear f0 f1 f2 g0 g1 g2 t3 t5
  have g0 := V1.cell 0 _ rfl
  have g1 := V1.cell 1 _ rfl
  have g2 := V1.cell 2 _ rfl
  go_wp2_with fail
  refine (markMach0_c _ _ _ 1 _ _ (by omega) (by omega) D5).mono ?_
  rintro e w11 ⟨rfl, oG, gG⟩
  have B11 : Below w.heap.size w w11 := below_of_own B10 (ownsRow_base D5 (by have := B4.size; omega)) gG
  have D6 := own_keep D3 gG (fun b h1 h2 => by have := (b3 b h1).2; have := (b5 b h2).1; omega)
  replace V0 := box_grown V0 gG (fun h => by have := (b5 _ h).1; omega)
  replace V1 := box_grown V1 gG (fun h => by have := (b5 _ h).2; omega)
  have e4 : Reads w11 a5 2 encC (marksC 1 xs0.length) := by
    have h' : w11.ownsRow (w4.heap.size + 1) 60 2 (.slice a5 xs0.length c5) (marksC 1 xs0.length).length ((marksC 1 xs0.length).flatMap encC) := by rw [marksC_len]; exact oG
    obtain ⟨_, _, e, r⟩ := reads_of_owns encC_len h'
    simp only [Value.slice.injEq] at e
    obtain ⟨rfl, _, rfl⟩ := e
    exact r
  obtain ⟨_, _, e6, t3⟩ := reads_of_owns encC_len D6
  cases e6
  clear oG gG D3 D5 D6 g0 g1 g2
  rw [HKK.out]
  have g0 := V1.cell 0 _ rfl
  have g1 := V1.cell 1 _ rfl
  have g2 := V1.cell 2 _ rfl
  go_wp2_with fail
  refine (heldMach0_c _ _ _ 1 _ (by omega) (by omega) e4).mono ?_
  rintro e w12 ⟨rfl, hb12⟩
  have B12 : Below w.heap.size w w12 := B11.trans (hb12.mono B11.size)
  rw [HKK.out]
  replace V0 := V0.below hb12
  replace V1 := V1.below hb12
  replace e4 := e4.below hb12
  replace t3 := t3.below hb12
  clear g0 g1 g2
  go_wp2_with fail
  refine (toCellS_c _ _ _ _ M0 (HR0.out.below B12)).mono ?_
  rintro e w13 ⟨v13, rfl, o13, hb13⟩
  have B13 : Below w.heap.size w w13 := B12.trans (hb13.mono B12.size)
  obtain ⟨a13, c13, rfl, r13⟩ := reads_of_owns encC_len o13
  go_wp2_with fail
  refine (implMachOf_c _ _ _ _ M0 r13).mono ?_
  rintro e w14 ⟨v14, rfl, o14, hb14⟩
  have B14 : Below w.heap.size w w14 := B13.trans (hb14.mono B13.size)
  obtain ⟨a14, c14, rfl, r14⟩ := reads_of_owns encC_len o14
  have A14 : Below w14.heap.size w14 (w14.alloc (.cells #[.slice a14 xs0.length c14, .slice none 0 0, .slice none 0 0] 48)) := Below.allocC (Below.refl _ _) _
  have B14a : Below w.heap.size w (w14.alloc (.cells #[.slice a14 xs0.length c14, .slice none 0 0, .slice none 0 0] 48)) := Below.allocC B14 _
  replace V0 := ((V0.below hb13).below hb14).below A14
  replace V1 := ((V1.below hb13).below hb14).below A14
  replace e4 := ((e4.below hb13).below hb14).below A14
  replace t3 := ((t3.below hb13).below hb14).below A14
  replace r14 := r14.below A14
  have f0 := V0.cell 0 _ rfl
  have f1 := V0.cell 1 _ rfl
  have f2 := V0.cell 2 _ rfl
  go_wp2_with fail
  refine (HE.out _ _ _ _ _ r14 t3).mono ?_
  rintro e w15 ⟨rfl, hb15⟩
  have B15 : Below w.heap.size w w15 := B14a.trans (hb15.mono B14a.size)
  replace V1 := V1.below hb15
  replace e4 := e4.below hb15
  clear f0 f1 f2
  have g0 := V1.cell 0 _ rfl
  have g1 := V1.cell 1 _ rfl
  have g2 := V1.cell 2 _ rfl
  go_wp2_with fail
  refine (heldMach0_c _ _ _ 1 _ (by omega) (by omega) e4).mono ?_
  rintro e w16 ⟨rfl, hb16⟩
  rw [HKK.out]
  go_wp2
  go_ret
  exact ⟨rfl, B15.trans (hb16.mono B15.size)⟩

/- SIG
theorem walk (a0 : Option Addr) (cap0 : Nat) (xs0 : List (ByteArray × ByteArray)) (w : World) (l0 : xs0.length ≤ maxLen) (r0 : Reads w a0 2 encC xs0) (w0 : ∀ x ∈ xs0, okC x) :
    Calls Try.prog 11 #[.slice a0 xs0.length cap0] w fun e w' => e = .returned (.bool true) ∧ Below w.heap.size w w' := by
-/
theorem own : ownKnob Try.prog.godebug = none := by kernel_rfl
theorem laidOut : laidOutB Try.prog = true := by kernel_rfl
set_option maxRecDepth 100000 in
theorem lifted (os : Os) (started : os.Started) (H : Type) (enc : TypeId × Value → H) :
    ReturnsInHanded {} Try.checked os 11 .any (Rows.fnExactMachOfSpec.pre6 enc Try.prog Try.f11 Rows.fnExactMachOfRow.domain false) (Rows.fnExactMachOfSpec.post enc Try.prog Try.f11 false true false false) := by
  refine returnsInHanded_of_change (C := Try.checked) own started (by kernel_rfl) Try.func11
    (ChangeSpec.witness6 (enc := enc) (C := Try.checked) false ⟨#[], #[.slice none 0 0], []⟩ 8 (by kernel_rfl) (by kernel_rfl) (by kernel_rfl) (by kernel_rfl)) ?_
  intro W base args ds gs before hval0 hW _ _
  have hval : ∀ (j : Nat) t v, Try.f11.params[j]? = some t → args[j]? = some v → Value.okWide Try.prog W .any base t v := hval0
  have hW' := hW
  obtain ⟨p, q, hA0, hV, rfl, hfz, hnd⟩ := hW
  have hA : DataW.TrodAll enc Try.prog W 0 (fun _ => true) true Try.f11.params.toList args.toList ds p := hA0
  rw [Try.params11] at hA hval
  obtain ⟨v0, vs0, d0, ds0, p0, q0, hargs, rfl, rfl, h0, g0⟩ := trodAll_cons hA
  obtain ⟨rfl, rfl, rfl⟩ := trodAll_nil g0
  obtain rfl : args = #[v0] := by cases args; simp_all
  obtain ⟨rfl, rfl⟩ := trodVars_none hV
  have k0 := h0
  have lt0 : ∀ x ∈ p0, x.block < W.heap.size := by obtain ⟨m, hm⟩ := k0; exact DataW.trod_lt m _ _ _ hm
  obtain ⟨a0, len0, cap0, rfl⟩ := okWide_slice Try.underlying22 (hval 0 22 v0 rfl rfl)
  obtain ⟨l0, xs0, rfl, r0, w0⟩ := open_rows encC okC 2 Try.underlying22 (by kernel_rfl) (by decide) (elem_cell Try.underlying59 (by kernel_rfl) Try.underlying9 Try.underlying9) h0
  clear hA0 hval0
  refine (walk a0 cap0 xs0 W l0 r0 w0).mono fun e W' ⟨he, bel⟩ => ?_
  subst he
  exact ⟨_, rfl, _, _, _, [], _, [], hW', trodAll_mk1 (shut_bool Try.underlying4 _), (trodAll_cons_mk (Below.trod laidOut (by kernel_rfl) (of_decide_eq_true (by kernel_rfl)) k0 bel lt0) trodAll_mk0), rfl, bel.frame _, fun h => by cases h⟩
theorem over : Rows.fnExactMachOfRow.holds Try.pinned (OpenSpec.ofChange Rows.fnExactMachOfSpec) :=
  OpenClaim.holds_of_wide 11 Try.f11 rfl rfl rfl rfl rfl rfl rfl ⟨rfl, rfl, rfl, rfl, rfl⟩ rfl rfl rfl rfl rfl (by kernel_rfl) Try.func11 (by kernel_rfl)
    (of_decide_eq_true (by kernel_rfl)) (by unfold Func.isWrapper; first | (rw [if_pos (by decide +kernel)]; kernel_rfl) | (rw [if_neg (by decide +kernel)]; exact ⟨rfl, rfl⟩))
    (fun os started H enc _ => lifted os started H enc)
theorem proved : Rows.FnExactMachOfSaid := over
#print axioms proved

end Go.Proofs.Ytnccenfdclmkkaa.fnExactMachOf
