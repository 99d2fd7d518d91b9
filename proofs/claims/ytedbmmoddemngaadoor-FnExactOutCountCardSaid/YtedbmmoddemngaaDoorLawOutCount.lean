/- FnExactOutCount: for every input the program's OutCount returns what the reference's returns and leaves its argument, where the library's variables hold what their texts lay. -/
import Derived.Test.YtedbmmoddemngaaDoorCards
import Derived.Test.YtedbmmoddemngaaDoorTie
import Derived.Test.YtedbmmoddemngaaDoorRead
import Derived.Test.YtedbmmoddemngaaDoorOutsF
import Derived.Test.YtedbmmoddemngaaDoorSliceCell
import Derived.LaidMore
import Derived.OpenVars
import Derived.Stop.Joined
import Derived.SevenTiedAt
import Derived.Lib.LaidU8
import Derived.LaidLaws
import Derived.Lib.Hide
import Derived.Deep.RegionHeld3
import Derived.Deep.DrawnRows
namespace Go.Proofs.YtedbmmoddemngaaDoor.fnExactOutCount
open Go.ChangeShapes Go.WideShapes Go.ChangeAt Go.RowKit
open Go.ChangeMaps (open_string shut_string)
attribute [local go_sem ↓] Go.wp_at_zero Go.wp_at_succ
theorem dec_of_laid {w : World} (h : laidMetH Tryd.prog Rows.fnExactOutCountRow.laid w) : DecTab w := by
  rw [MakeChecks.laidMetH_plain _ _ _ (by kernel_rfl)] at h
  obtain ⟨g, t, cs, fuel, p, hg, ht, hv, hd⟩ := Lib.laidMet.reads h (n := "internal/strconv.uint64pow10") (d := Rows.laid_internal_strconv_uint64pow10) (by repeat (first | exact List.Mem.head _ | apply List.Mem.tail))
  obtain rfl := Option.some.inj ((show (Tryd.prog.globals[4]?).map (·.type) = some 129 by kernel_rfl).symm.trans (by rw [← ht]; congr 2; exact Option.some.inj ((show Tryd.prog.globalNamed "internal/strconv.uint64pow10" = some 4 by kernel_rfl).symm.trans hg)))
  have e : Rows.laid_internal_strconv_uint64pow10 = (Lib.tabData .u64 Lib.pow10Tab : DataW Unit) := by kernel_rfl
  rw [e] at hd
  unfold DecTab Lib.TabIs
  rw [hv, ← Lib.cells_of_tab Tryd.underlying129 Tryd.underlying117 (by kernel_rfl) (by kernel_rfl) hd]
theorem syn_of_laid {w : World} (h : laidMetH Tryd.prog Rows.fnExactOutCountRow.laid w) : ∃ tp p, w.var? Tryd.prog "strconv.ErrSyntax" = some #[.iface tp p] := by
  rw [MakeChecks.laidMetH_plain _ _ _ (by kernel_rfl)] at h
  obtain ⟨g, t, cs, fuel, p, hg, ht, hv, hd⟩ := Lib.laidMet.reads h (n := "strconv.ErrSyntax") (d := Rows.laid_strconv_ErrSyntax) (by repeat (first | exact List.Mem.head _ | apply List.Mem.tail))
  obtain rfl := Option.some.inj ((show (Tryd.prog.globals[2]?).map (·.type) = some 69 by kernel_rfl).symm.trans (by rw [← ht]; congr 2; exact Option.some.inj ((show Tryd.prog.globalNamed "strconv.ErrSyntax" = some 2 by kernel_rfl).symm.trans hg)))
  obtain ⟨_, u, v, e, _, _⟩ := iface_of_trod Tryd.underlying69 hd
  have e2 : cs = #[.iface u v] := by
    apply Array.toList_inj.1
    simpa using e
  rw [e2] at hv
  exact ⟨u, v, hv⟩
theorem ran_of_laid {w : World} (h : laidMetH Tryd.prog Rows.fnExactOutCountRow.laid w) : ∃ tp p, w.var? Tryd.prog "strconv.ErrRange" = some #[.iface tp p] := by
  rw [MakeChecks.laidMetH_plain _ _ _ (by kernel_rfl)] at h
  obtain ⟨g, t, cs, fuel, p, hg, ht, hv, hd⟩ := Lib.laidMet.reads h (n := "strconv.ErrRange") (d := Rows.laid_strconv_ErrRange) (by repeat (first | exact List.Mem.head _ | apply List.Mem.tail))
  obtain rfl := Option.some.inj ((show (Tryd.prog.globals[3]?).map (·.type) = some 69 by kernel_rfl).symm.trans (by rw [← ht]; congr 2; exact Option.some.inj ((show Tryd.prog.globalNamed "strconv.ErrRange" = some 3 by kernel_rfl).symm.trans hg)))
  obtain ⟨_, u, v, e, _, _⟩ := iface_of_trod Tryd.underlying69 hd
  have e2 : cs = #[.iface u v] := by
    apply Array.toList_inj.1
    simpa using e
  rw [e2] at hv
  exact ⟨u, v, hv⟩
set_option maxHeartbeats 4000000 in
theorem walk (a0 : Option Addr) (cap0 : Nat) (xs0 : List (ByteArray × ByteArray)) (w : World) (L0 : xs0.length ≤ maxLen) (R0 : Reads w a0 2 encC xs0) (O0 : ∀ x ∈ xs0, okC x) (hL : laidMetH Tryd.prog Rows.fnExactOutCountRow.laid w) :
    Calls Tryd.prog 9 #[.slice a0 xs0.length cap0] w fun e w' => e = .returned (.bool true) ∧ Below w.heap.size w w' := by
  have HR0 := Lib.hid R0
  have HO0 := Lib.hid O0
  clear R0 O0
  have HTABS := Lib.hid (fun (W : World) (hW : Below w.heap.size w W) => (And.intro ((dec_of_laid hL).below hW) (NumErr.below ⟨syn_of_laid hL, ran_of_laid hL⟩ hW) : DecTab W ∧ NumErr W))
  clear hL
  by_cases q0 : (1048576 : Int) < (bulkL bulkC xs0 : Nat)
  · have E0 := Lib.hid (szSub_no q0)
    go_enter Tryd.func9, Tryd.ntmps9
    go_wp2_with fail
    refine (szCellS_c _ _ _ _ (by omega) (by omega) _ L0 HR0.out HO0.out).mono ?_
    rintro e w1 ⟨rfl, hb1⟩
    have B1 : Below w.heap.size w w1 := (by repeat (first | exact Below.refl _ _ | refine Below.drew ?_ | refine below_drewN ?_ _ | refine Below.allocC ?_ _ | refine Below.setCell ?_ (by first | (simp; done) | (simp; omega)) _ | refine Below.chain ?_ (by assumption)))
    rw [E0.out]
    go_wp2
    go_ret
    exact ⟨rfl, (by repeat (first | exact Below.refl _ _ | refine Below.drew ?_ | refine below_drewN ?_ _ | refine Below.allocC ?_ _ | refine Below.setCell ?_ (by first | (simp; done) | (simp; omega)) _ | refine Below.chain ?_ (by assumption)))⟩
  have E0 := Lib.hid (szSub_yes (left := 1048576) (n := bulkL bulkC xs0) (by omega))
  have M0 : xs0.length ≤ 1048576 := by have := bulkL_ge bulkC xs0; omega
  go_enter Tryd.func9, Tryd.ntmps9
  go_wp2_with fail
  refine (szCellS_c _ _ _ _ (by omega) (by omega) _ L0 HR0.out HO0.out).mono ?_
  rintro e w1 ⟨rfl, hb1⟩
  have B1 : Below w.heap.size w w1 := (by repeat (first | exact Below.refl _ _ | refine Below.drew ?_ | refine below_drewN ?_ _ | refine Below.allocC ?_ _ | refine Below.setCell ?_ (by first | (simp; done) | (simp; omega)) _ | refine Below.chain ?_ (by assumption)))
  rw [E0.out]
  have HVS := Lib.hid (show ∀ x ∈ xs0, x.2.size ≤ 1048576 from fun x hx => by have h1 := bulkL_mem bulkC hx; have h2 : bulkC x = x.1.size + x.2.size := rfl; omega)
  go_wp2_with fail
  refine (toCellS_c _ _ _ _ M0 (HR0.out.below B1)).mono ?_
  rintro e w2 ⟨v2, rfl, o2, hb2⟩
  have B2 : Below w.heap.size w w2 := (by repeat (first | exact Below.refl _ _ | refine Below.drew ?_ | refine below_drewN ?_ _ | refine Below.allocC ?_ _ | refine Below.setCell ?_ (by first | (simp; done) | (simp; omega)) _ | refine Below.chain ?_ (by assumption)))
  obtain ⟨a2', c2', rfl, r2', k2', m2'⟩ := reads_of_owns' encC_len o2
  go_wp2_with fail
  refine (specOutCount_c _ _ _ _ M0 r2' HVS.out).mono ?_
  rintro e w3 ⟨rfl, hb3⟩
  have B3 : Below w.heap.size w w3 := (by repeat (first | exact Below.refl _ _ | refine Below.drew ?_ | refine below_drewN ?_ _ | refine Below.allocC ?_ _ | refine Below.setCell ?_ (by first | (simp; done) | (simp; omega)) _ | refine Below.chain ?_ (by assumption)))
  go_wp2_with fail
  refine (toCellS_c _ _ _ _ M0 (HR0.out.below B3)).mono ?_
  rintro e w4 ⟨v4, rfl, o4, hb4⟩
  have B4 : Below w.heap.size w w4 := (by repeat (first | exact Below.refl _ _ | refine Below.drew ?_ | refine below_drewN ?_ _ | refine Below.allocC ?_ _ | refine Below.setCell ?_ (by first | (simp; done) | (simp; omega)) _ | refine Below.chain ?_ (by assumption)))
  obtain ⟨a4', c4', rfl, r4', k4', m4'⟩ := reads_of_owns' encC_len o4
  go_wp2_with fail
  refine (implOutCount_c _ _ _ _ M0 r4' (fun x hx => Nat.le_trans (HVS.out x hx) (by decide)) (HTABS.out _ B4)).mono ?_
  rintro e w5 ⟨rfl, hb5⟩
  have B5 : Below w.heap.size w w5 := (by repeat (first | exact Below.refl _ _ | refine Below.drew ?_ | refine below_drewN ?_ _ | refine Below.allocC ?_ _ | refine Below.setCell ?_ (by first | (simp; done) | (simp; omega)) _ | refine Below.chain ?_ (by assumption)))
  generalize outN xs0 = r
  go_wp2_with fail
  refine (toCellS_c _ _ _ _ M0 (HR0.out.below B5)).mono ?_
  rintro e w6 ⟨v6, rfl, o6, hb6⟩
  have B6 : Below w.heap.size w w6 := (by repeat (first | exact Below.refl _ _ | refine Below.drew ?_ | refine below_drewN ?_ _ | refine Below.allocC ?_ _ | refine Below.setCell ?_ (by first | (simp; done) | (simp; omega)) _ | refine Below.chain ?_ (by assumption)))
  obtain ⟨a6', c6', rfl, r6', k6', m6'⟩ := reads_of_owns' encC_len o6
  go_wp2_with fail
  refine (eqCellS_c _ _ _ _ _ _ _ (by unfold maxLen; omega) ((r4'.below hb5).below hb6) r6').mono ?_
  rintro e w7 ⟨rfl, hb7⟩
  have B7 : Below w.heap.size w w7 := (by repeat (first | exact Below.refl _ _ | refine Below.drew ?_ | refine below_drewN ?_ _ | refine Below.allocC ?_ _ | refine Below.setCell ?_ (by first | (simp; done) | (simp; omega)) _ | refine Below.chain ?_ (by assumption)))
  rw [same_self]
  go_wp2
  go_ret
  exact ⟨rfl, (by repeat (first | exact Below.refl _ _ | refine Below.drew ?_ | refine below_drewN ?_ _ | refine Below.allocC ?_ _ | refine Below.setCell ?_ (by first | (simp; done) | (simp; omega)) _ | refine Below.chain ?_ (by assumption)))⟩

/- SIG
theorem walk (a0 : Option Addr) (cap0 : Nat) (xs0 : List (ByteArray × ByteArray)) (w : World) (l0 : xs0.length ≤ maxLen) (r0 : Reads w a0 2 encC xs0) (w0 : ∀ x ∈ xs0, okC x) (hL : laidMetH Tryd.prog Rows.fnExactOutCountRow.laid w) :
    Calls Tryd.prog 9 #[.slice a0 xs0.length cap0] w fun e w' => e = .returned (.bool true) ∧ Below w.heap.size w w' := by
-/
theorem own : ownKnob Tryd.prog.godebug = none := by kernel_rfl
theorem laidOut : laidOutB Tryd.prog = true := by kernel_rfl
theorem door_met (os : Os) (args : Array Value) : laidMetH Tryd.prog Rows.fnExactOutCountRow.laid ((World.doorLaid Tryd.prog 400 os).forCall (fun _ _ => 0) ⟨#[], args, []⟩).memory :=
  laidMetH_of_parts3 (fuel := 8) (laidMet_of_run' 8 (by kernel_rfl) (by kernel_rfl)) (by kernel_rfl) (by kernel_rfl)
set_option maxRecDepth 100000 in
theorem lifted (os : Os) (started : os.Started) (H : Type) (enc : TypeId × Value → H) :
    ReturnsInHanded {} Tryd.checked os 9 .any (fun w args => (Rows.fnExactOutCountSpec.pre enc Tryd.prog Tryd.f9 [] false w args ∧ laidMetH Tryd.prog Rows.fnExactOutCountRow.laid w) ∧ sizedMet enc Tryd.prog Tryd.f9 (OpenSpec.ofChange Rows.fnExactOutCountSpec) false w args)
      (Rows.fnExactOutCountSpec.post enc Tryd.prog Tryd.f9 false true false false) := by
  refine returnsInHanded_of_change_and (C := Tryd.checked) (X := fun w _ => laidMetH Tryd.prog Rows.fnExactOutCountRow.laid w) (fun _ _ _ hh h => h.of_heap hh) own started (by kernel_rfl) Tryd.func9
    (ChangeSpec.witness_shaped (enc := enc) (C := Tryd.checked) (os := os) (X := fun w _ => laidMetH Tryd.prog Rows.fnExactOutCountRow.laid w) false (World.doorLaid Tryd.prog 400 os) #[.slice none 0 0] 8 rfl (World.shaped_of_RefB (by kernel_rfl) (by kernel_rfl)) (by kernel_rfl) (by kernel_rfl) (by kernel_rfl) (door_met os _)) ?_
  intro W base args ds gs before hval0 hW _ _ hL _
  have hval : ∀ (j : Nat) t v, Tryd.f9.params[j]? = some t → args[j]? = some v → Value.okWide Tryd.prog W .any base t v := hval0
  have hW' := hW
  obtain ⟨p, q, hA0, hV, rfl, hfz, hnd⟩ := hW
  have hA : DataW.TrodAll enc Tryd.prog W 0 (fun _ => true) true Tryd.f9.params.toList args.toList ds p := hA0
  rw [Tryd.params9] at hA hval
  obtain ⟨v0, vs0, d0, ds0, p0, q0, hargs, rfl, rfl, h0, g0⟩ := trodAll_cons hA
  obtain ⟨rfl, rfl, rfl⟩ := trodAll_nil g0
  obtain rfl : args = #[v0] := by cases args; simp_all
  have hlen := trodVars_length hV
  obtain rfl : gs = [] := List.eq_nil_of_length_eq_zero hlen
  have k0 := h0
  have lt0 : ∀ x ∈ p0, x.block < W.heap.size := by obtain ⟨m, hm⟩ := k0; exact DataW.trod_lt m _ _ _ hm
  obtain ⟨a0, len0, cap0, rfl⟩ := okWide_slice Tryd.underlying44 (hval 0 44 v0 rfl rfl)
  obtain ⟨l0, xs0, rfl, r0, w0⟩ := open_rows encC okC 2 Tryd.underlying44 (by kernel_rfl) (by decide) (elem_cell Tryd.underlying81 (by kernel_rfl) Tryd.underlying9 Tryd.underlying9) h0
  clear hA0 hval0
  refine (walk a0 cap0 xs0 W l0 r0 w0 hL).mono fun e W' ⟨he, bel⟩ => ?_
  subst he
  exact ⟨_, rfl, _, _, _, [], _, _, hW', trodAll_mk1 (shut_bool Tryd.underlying4 _), (trodAll_cons_mk (Below.trod laidOut (by kernel_rfl) (of_decide_eq_true (by kernel_rfl)) k0 bel lt0) trodAll_mk0), Below.trodVars laidOut bel (by kernel_rfl) hV, bel.frame _, fun h => by cases h⟩
theorem over : Rows.fnExactOutCountRow.holds Tryd.pinned (OpenSpec.ofChange Rows.fnExactOutCountSpec) :=
  OpenClaim.holds_of_wide 9 Tryd.f9 rfl rfl rfl rfl rfl rfl rfl ⟨rfl, rfl, rfl, rfl, rfl⟩ rfl rfl rfl rfl rfl (by kernel_rfl) Tryd.func9 (by kernel_rfl)
    (of_decide_eq_true (by kernel_rfl)) (by unfold Func.isWrapper; first | (rw [if_pos (by decide +kernel)]; kernel_rfl) | (rw [if_neg (by decide +kernel)]; exact ⟨rfl, rfl⟩))
    (fun os started H enc _ => lifted os started H enc)
theorem proved : Rows.FnExactOutCountCardSaid :=
  Claim7.holds_tied_plain_at .later [] [.data, .data, .data, .sentinel, .sentinel] true (true, "a394b0db006c70c03e36c392521b106b757790137339a8f1ab7d24a56b76f51b") true
    over (fun _ h => by cases h) (by kernel_rfl) (fun _ h => by cases h) fnExactOutCount_row_tie rfl ⟨rfl, rfl⟩ (by kernel_rfl) rfl
    (fun f fn hf hfn => by
      obtain rfl : f = 9 := Option.some.inj ((show Tryd.prog.funcNamed "loop.example/g00974/laws.FnExactOutCount" = some 9 by kernel_rfl).symm.trans hf) |>.symm
      obtain rfl : fn = Tryd.f9 := (Option.some.inj (Tryd.func9.symm.trans hfn)).symm
      exact ⟨by kernel_rfl, fun j t ht => by
        rw [Tryd.params9] at ht
        have hm : t ∈ [44] := by
          have this := Array.mem_of_getElem? ht
          simp only [List.mem_toArray, List.mem_cons, List.not_mem_nil, or_false] at this ⊢
          all_goals first | assumption | (rcases this with h <;> simp [h])
        have hall : ([44].all fun u => !Tryd.prog.wantsStandIn u) = true := by kernel_rfl
        exact (show Tryd.prog.wantsStandIn t = false by simpa using List.all_eq_true.1 hall t hm)⟩)
    (by kernel_rfl)
#print axioms proved

end Go.Proofs.YtedbmmoddemngaaDoor.fnExactOutCount
