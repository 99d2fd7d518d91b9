/- FnExactPartsOf: for every input the program's PartsOf returns what the reference's returns, and shares no memory, where the library's tables hold what their text lays. -/
import Derived.Test.YtillkpjhbakgfaaDoorCards
import Derived.Test.YtillkpjhbakgfaaDoorTie
import Derived.Test.YtillkpjhbakgfaaDoorRead
import Derived.Test.YtillkpjhbakgfaaDoorParts
import Derived.Test.YtillkpjhbakgfaaDoorMarkS
import Derived.Test.YtillkpjhbakgfaaDoorOwnKeepS
import Derived.LaidMore
import Derived.OpenVars
import Derived.Stop.Joined
import Derived.SevenTiedAt
import Derived.Lib.LaidU8
import Derived.LaidLaws
import Derived.Lib.Hide
import Derived.Deep.RegionHeld3
import Derived.Deep.DrawnRows
namespace Go.Proofs.YtillkpjhbakgfaaDoor.fnExactPartsOf
open Go.ChangeShapes Go.WideShapes Go.ChangeAt Go.RowKit
open Go.ChangeMaps (open_string shut_string)
attribute [local go_sem ↓] Go.wp_at_zero Go.wp_at_succ
theorem tab_of_laid {w : World} (h : laidMetH Tryd.prog Rows.fnExactPartsOfRow.laid w) : Lib.TabIs Tryd.prog w "strings.asciiSpace" .u8 Lib.asciiSpaceTab := by
  rw [MakeChecks.laidMetH_plain _ _ _ (by kernel_rfl)] at h
  obtain ⟨g, t, cs, fuel, p, hg, ht, hv, hd⟩ := Lib.laidMet.reads h (n := "strings.asciiSpace") (d := Rows.laid_strings_asciiSpace) (by simp [Rows.fnExactPartsOfRow])
  obtain rfl := Option.some.inj ((show (Tryd.prog.globals[0]?).map (·.type) = some 43 by kernel_rfl).symm.trans (by rw [← ht]; congr 2; exact Option.some.inj ((show Tryd.prog.globalNamed "strings.asciiSpace" = some 0 by kernel_rfl).symm.trans hg)))
  have e : Rows.laid_strings_asciiSpace = (Lib.tabData .u8 Lib.asciiSpaceTab : DataW Unit) := by kernel_rfl
  rw [e] at hd
  unfold Lib.TabIs
  rw [hv, ← Lib.cells_of_tab Tryd.underlying43 Tryd.underlying5 (by kernel_rfl) (by kernel_rfl) hd]
set_option maxHeartbeats 4000000 in
theorem walk (s0 : ByteArray) (w : World) (W0 : s0.size ≤ maxLen) (hL : laidMetH Tryd.prog Rows.fnExactPartsOfRow.laid w) :
    Calls Tryd.prog 4 #[.string s0] w fun e w' => e = .returned (.bool true) ∧ Below w.heap.size w w' := by
  unfold maxLen at W0
  have HTAB := Lib.hid (fun (W : World) (hW : Below w.heap.size w W) => tab_below (tab_of_laid hL) hW)
  clear hL
  by_cases g0 : (1048576 : Int) < s0.size
  · go_enter Tryd.func4, Tryd.ntmps4
    go_wp2
    go_ret
    exact ⟨rfl, (by repeat (first | exact Below.refl _ _ | refine Below.drew ?_ | refine below_drewN ?_ _ | refine Below.allocC ?_ _ | refine Below.setCell ?_ (by first | (simp; done) | (simp; omega)) _ | refine Below.chain ?_ (by assumption)))⟩
  have g0' : s0.size ≤ 1048576 := by omega
  clear g0
  go_enter Tryd.func4, Tryd.ntmps4
  have HKL := Lib.hid (partsV_len s0)
  go_wp2_with fail
  refine (specPartsOf_c _ _).mono ?_
  rintro e w1 ⟨v1, rfl, o1, hb1⟩
  have B1 : Below w.heap.size w w1 := (by repeat (first | exact Below.refl _ _ | refine Below.drew ?_ | refine below_drewN ?_ _ | refine Below.allocC ?_ _ | refine Below.setCell ?_ (by first | (simp; done) | (simp; omega)) _ | refine Below.chain ?_ (by assumption)))
  obtain ⟨a1', c1', rfl, r1', k1', m1'⟩ := reads_of_owns' encS_len o1
  go_wp2_with fail
  refine (implPartsOf_c _ _ (HTAB.out _ B1)).mono ?_
  rintro e w2 ⟨v2, rfl, o2, hb2⟩
  have B2 : Below w.heap.size w w2 := (by repeat (first | exact Below.refl _ _ | refine Below.drew ?_ | refine below_drewN ?_ _ | refine Below.allocC ?_ _ | refine Below.setCell ?_ (by first | (simp; done) | (simp; omega)) _ | refine Below.chain ?_ (by assumption)))
  obtain ⟨a2', c2', rfl, r2', k2', m2'⟩ := reads_of_owns' encS_len o2
  go_wp2_with fail
  refine (eqStringS_c _ _ _ _ _ _ _ (Nat.le_trans HKL.out (by unfold maxLen; omega)) r2' (r1'.below hb2)).mono ?_
  rintro e w3 ⟨rfl, hb3⟩
  have B3 : Below w.heap.size w w3 := (by repeat (first | exact Below.refl _ _ | refine Below.drew ?_ | refine below_drewN ?_ _ | refine Below.allocC ?_ _ | refine Below.setCell ?_ (by first | (simp; done) | (simp; omega)) _ | refine Below.chain ?_ (by assumption)))
  rw [same_self]
  have Q1 := Lib.hid (ownsRow_below (ownsRow_below o1 hb2) hb3)
  have Q2 := Lib.hid (ownsRow_below o2 hb3)
  have S1 := Lib.hid o1
  have S2 := Lib.hid o2
  have Z1 := Lib.hid hb1.size
  have Z2 := Lib.hid hb2.size
  have Z3 := Lib.hid hb3.size
  clear r1' r2'
  go_wp2_with fail
  refine (markStringS_c _ _ _ 1 _ _ (by omega) (by have := HKL.out; omega) Q2.out).mono ?_
  rintro e w4 ⟨rfl, oG, gG⟩
  have B4 : Below w.heap.size w w4 := below_of_own B3 (ownsRow_base Q2.out B1.size) gG
  have D3 := Lib.hid (own_keep Q1.out gG (fun b h1 h2 => by have := (S1.out.lt b h1).2; have := (Q2.out.lt b h2).1; have := Z1.out; omega))
  have D4 := Lib.hid oG
  have e4 := reads_marks D4.out
  obtain ⟨_, _, e3, t3⟩ := reads_of_owns encS_len D3.out
  cases e3
  clear oG gG
  obtain ⟨mm, hmm⟩ : ∃ mm : Int, ((1 + (partsV s0).length : Nat) : Int) = mm := ⟨_, rfl⟩
  have pmm : ¬ mm < 0 := by omega
  have HMM := Lib.hid hmm
  clear hmm
  rw [HMM.out]
  go_wp2_with fail
  refine (heldStringS_c _ _ _ 1 _ (by omega) (by have := HKL.out; omega) e4).mono ?_
  rintro e w5 ⟨rfl, hb5⟩
  have B5 : Below w.heap.size w w5 := (by repeat (first | exact Below.refl _ _ | refine Below.drew ?_ | refine below_drewN ?_ _ | refine Below.allocC ?_ _ | refine Below.setCell ?_ (by first | (simp; done) | (simp; omega)) _ | refine Below.chain ?_ (by assumption)))
  rw [HMM.out]
  go_wp2_with fail
  refine (implPartsOf_c _ _ (HTAB.out _ B5)).mono ?_
  rintro e w6 ⟨v6, rfl, o6, hb6⟩
  have B6 : Below w.heap.size w w6 := (by repeat (first | exact Below.refl _ _ | refine Below.drew ?_ | refine below_drewN ?_ _ | refine Below.allocC ?_ _ | refine Below.setCell ?_ (by first | (simp; done) | (simp; omega)) _ | refine Below.chain ?_ (by assumption)))
  obtain ⟨a6', c6', rfl, r6', k6', m6'⟩ := reads_of_owns' encS_len o6
  go_wp2_with fail
  refine (eqStringS_c _ _ _ _ _ _ _ (Nat.le_trans HKL.out (by unfold maxLen; omega)) r6' ((t3.below hb5).below hb6)).mono ?_
  rintro e w7 ⟨rfl, hb7⟩
  have B7 : Below w.heap.size w w7 := (by repeat (first | exact Below.refl _ _ | refine Below.drew ?_ | refine below_drewN ?_ _ | refine Below.allocC ?_ _ | refine Below.setCell ?_ (by first | (simp; done) | (simp; omega)) _ | refine Below.chain ?_ (by assumption)))
  rw [same_self]
  go_wp2_with fail
  refine (heldStringS_c _ _ _ 1 _ (by omega) (by have := HKL.out; omega) (((e4.below hb5).below hb6).below hb7)).mono ?_
  rintro e w8 ⟨rfl, hb8⟩
  have B8 : Below w.heap.size w w8 := (by repeat (first | exact Below.refl _ _ | refine Below.drew ?_ | refine below_drewN ?_ _ | refine Below.allocC ?_ _ | refine Below.setCell ?_ (by first | (simp; done) | (simp; omega)) _ | refine Below.chain ?_ (by assumption)))
  rw [HMM.out]
  go_wp2
  go_ret
  exact ⟨rfl, (by repeat (first | exact Below.refl _ _ | refine Below.drew ?_ | refine below_drewN ?_ _ | refine Below.allocC ?_ _ | refine Below.setCell ?_ (by first | (simp; done) | (simp; omega)) _ | refine Below.chain ?_ (by assumption)))⟩

/- SIG
theorem walk (s0 : ByteArray) (w : World) (w0 : s0.size ≤ maxLen) (hL : laidMetH Tryd.prog Rows.fnExactPartsOfRow.laid w) :
    Calls Tryd.prog 4 #[.string s0] w fun e w' => e = .returned (.bool true) ∧ Below w.heap.size w w' := by
-/
theorem own : ownKnob Tryd.prog.godebug = none := by kernel_rfl
theorem laidOut : laidOutB Tryd.prog = true := by kernel_rfl
theorem door_met (os : Os) (args : Array Value) : laidMetH Tryd.prog Rows.fnExactPartsOfRow.laid ((World.doorLaid Tryd.prog 400 os).forCall (fun _ _ => 0) ⟨#[], args, []⟩).memory :=
  laidMetH_of_parts3 (fuel := 8) (laidMet_of_run' 8 (by kernel_rfl) (by kernel_rfl)) (by kernel_rfl) (by kernel_rfl)
set_option maxRecDepth 100000 in
theorem lifted (os : Os) (started : os.Started) (H : Type) (enc : TypeId × Value → H) :
    ReturnsInHanded {} Tryd.checked os 4 .any (fun w args => (Rows.fnExactPartsOfSpec.pre enc Tryd.prog Tryd.f4 [] false w args ∧ laidMetH Tryd.prog Rows.fnExactPartsOfRow.laid w) ∧ sizedMet enc Tryd.prog Tryd.f4 (OpenSpec.ofChange Rows.fnExactPartsOfSpec) false w args)
      (Rows.fnExactPartsOfSpec.post enc Tryd.prog Tryd.f4 false true false false) := by
  refine returnsInHanded_of_change_and (C := Tryd.checked) (X := fun w _ => laidMetH Tryd.prog Rows.fnExactPartsOfRow.laid w) (fun _ _ _ hh h => h.of_heap hh) own started (by kernel_rfl) Tryd.func4
    (ChangeSpec.witness_shaped (enc := enc) (C := Tryd.checked) (os := os) (X := fun w _ => laidMetH Tryd.prog Rows.fnExactPartsOfRow.laid w) false (World.doorLaid Tryd.prog 400 os) #[.string ByteArray.empty] 8 rfl (World.shaped_of_RefB (by kernel_rfl) (by kernel_rfl)) (by kernel_rfl) (by kernel_rfl) (by kernel_rfl) (door_met os _)) ?_
  intro W base args ds gs before hval0 hW _ _ hL _
  have hval : ∀ (j : Nat) t v, Tryd.f4.params[j]? = some t → args[j]? = some v → Value.okWide Tryd.prog W .any base t v := hval0
  have hW' := hW
  obtain ⟨p, q, hA0, hV, rfl, hfz, hnd⟩ := hW
  have hA : DataW.TrodAll enc Tryd.prog W 0 (fun _ => true) true Tryd.f4.params.toList args.toList ds p := hA0
  rw [Tryd.params4] at hA hval
  obtain ⟨v0, vs0, d0, ds0, p0, q0, hargs, rfl, rfl, h0, g0⟩ := trodAll_cons hA
  obtain ⟨rfl, rfl, rfl⟩ := trodAll_nil g0
  obtain rfl : args = #[v0] := by cases args; simp_all
  have hlen := trodVars_length hV
  obtain rfl : gs = [] := List.eq_nil_of_length_eq_zero hlen
  have k0 := h0
  have lt0 : ∀ x ∈ p0, x.block < W.heap.size := by obtain ⟨m, hm⟩ := k0; exact DataW.trod_lt m _ _ _ hm
  obtain ⟨s0, rfl, _, _, w0⟩ := open_string Tryd.underlying9 (hval 0 9 v0 rfl rfl) h0
  clear hA0 hval0
  refine (walk s0 W w0 hL).mono fun e W' ⟨he, bel⟩ => ?_
  subst he
  exact ⟨_, rfl, _, _, _, [], _, _, hW', trodAll_mk1 (shut_bool Tryd.underlying4 _), (trodAll_cons_mk (Below.trod laidOut (by kernel_rfl) (of_decide_eq_true (by kernel_rfl)) k0 bel lt0) trodAll_mk0), Below.trodVars laidOut bel (by kernel_rfl) hV, bel.frame _, fun h => by cases h⟩
theorem over : Rows.fnExactPartsOfRow.holds Tryd.pinned (OpenSpec.ofChange Rows.fnExactPartsOfSpec) :=
  OpenClaim.holds_of_wide 4 Tryd.f4 rfl rfl rfl rfl rfl rfl rfl ⟨rfl, rfl, rfl, rfl, rfl⟩ rfl rfl rfl rfl rfl (by kernel_rfl) Tryd.func4 (by kernel_rfl)
    (of_decide_eq_true (by kernel_rfl)) (by unfold Func.isWrapper; first | (rw [if_pos (by decide +kernel)]; kernel_rfl) | (rw [if_neg (by decide +kernel)]; exact ⟨rfl, rfl⟩))
    (fun os started H enc _ => lifted os started H enc)
theorem proved : Rows.FnExactPartsOfCardSaid :=
  Claim7.holds_tied_plain_at .later [] [.listed, .data] true (true, "a959512bff9e97bffe8151e4aafd0302205308171e99df3007738d994d29e669") false
    over (fun _ h => by cases h) (by kernel_rfl) (fun _ h => by cases h) fnExactPartsOf_row_tie rfl ⟨rfl, rfl⟩ (by kernel_rfl) rfl
    (fun f fn hf hfn => by
      obtain rfl : f = 4 := Option.some.inj ((show Tryd.prog.funcNamed "loop.example/g00974/laws.FnExactPartsOf" = some 4 by kernel_rfl).symm.trans hf) |>.symm
      obtain rfl : fn = Tryd.f4 := (Option.some.inj (Tryd.func4.symm.trans hfn)).symm
      exact ⟨by kernel_rfl, fun j t ht => by
        rw [Tryd.params4] at ht
        have hm : t ∈ [9] := by have := Array.mem_of_getElem? ht; simp at this; simp; omega
        have hall : ([9].all fun u => !Tryd.prog.wantsStandIn u) = true := by kernel_rfl
        exact (show Tryd.prog.wantsStandIn t = false by simpa using List.all_eq_true.1 hall t hm)⟩)
    (by kernel_rfl)
#print axioms proved

end Go.Proofs.YtillkpjhbakgfaaDoor.fnExactPartsOf
