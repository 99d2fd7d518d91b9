/- FnSerial: runs in parts and by both sides make the same, where the library's variables hold what their texts lay. -/
import Derived.Test.YtihghflppegnmaaGreatDoorCards
import Derived.Test.YtihghflppegnmaaGreatDoorTie
import Derived.Test.YtihghflppegnmaaGreatDoorCv14
import Derived.Stop.Joined
import Derived.SevenTiedAt
import Derived.LaidLaws
set_option linter.unusedSimpArgs false
set_option linter.unusedVariables false
namespace Go.Proofs.YtihghflppegnmaaGreatDoor.fnSerial
open Go.ChangeShapes Go.WideShapes Go.ChangeAt Go.RowKit
open Go.ChangeMaps (open_string shut_string)
open Go.Proofs.Tryz
open Go.Proofs.YtihghflppegnmaaGreatDoor.Rows (fnSerialRow fnSerialSpec)
theorem own : ownKnob prog.godebug = none := by kernel_rfl
theorem laidOut : laidOutB prog = true := by kernel_rfl
theorem door_met (os : Os) (args : Array Value) : laidMetH prog fnSerialRow.laid ((World.doorLaid prog 400 os).forCall (fun _ _ => 0) ⟨#[], args, []⟩).memory :=
 laidMetH_of_parts3 (fuel := 8) (laidMet_of_run' 8 (by kernel_rfl) (by kernel_rfl)) (by kernel_rfl) (by kernel_rfl)
set_option maxRecDepth 100000 in
theorem lifted (os : Os) (started : os.Started) (H : Type) (enc : TypeId × Value → H) :
 ReturnsInHanded {} checked os 8 .any (fun w args => (fnSerialSpec.pre enc prog f8 [] false w args ∧ laidMetH prog fnSerialRow.laid w) ∧ sizedMet enc prog f8 (OpenSpec.ofChange fnSerialSpec) false w args)
  (fnSerialSpec.post enc prog f8 false true false false) := by
 refine returnsInHanded_of_change_and (C := checked) (X := fun w _ => laidMetH prog fnSerialRow.laid w) (fun _ _ _ hh h => h.of_heap hh) own started (by kernel_rfl) func8
  (ChangeSpec.witness_shaped (enc := enc) (C := checked) (os := os) (X := fun w _ => laidMetH prog fnSerialRow.laid w) false (World.doorLaid prog 400 os) #[.slice none 0 0] 8 rfl (World.shaped_of_RefB (by kernel_rfl) (by kernel_rfl)) (by kernel_rfl) (by kernel_rfl) (by kernel_rfl) (door_met os _)) ?_
 intro W base args ds gs before hval0 hW _ _ hL _;have hval : ∀ (j : Nat) t v, f8.params[j]? = some t → args[j]? = some v → Value.okWide prog W .any base t v := hval0;have hW' := hW;obtain ⟨p, q, hA0, hV, rfl, hfz, hnd⟩ := hW;have hA : DataW.TrodAll enc prog W 0 (fun _ => true) true f8.params.toList args.toList ds p := hA0;rw [params8] at hA hval;obtain ⟨v0, vs0, d0, ds0, p0, q0, hargs, rfl, rfl, h0, g0⟩ := trodAll_cons hA;obtain ⟨rfl, rfl, rfl⟩ := trodAll_nil g0;obtain rfl : args = #[v0] := by cases args; simp_all
 have hlen := trodVars_length hV;obtain rfl : gs = [] := List.eq_nil_of_length_eq_zero hlen;have k0 := h0;have lt0 : ∀ x ∈ p0, x.block < W.heap.size := by obtain ⟨m, hm⟩ := k0; exact DataW.trod_lt m _ _ _ hm
 obtain ⟨a0, len0, cap0, rfl⟩ := okWide_slice underlying22 (hval 0 22 v0 rfl rfl);obtain ⟨z0, w0⟩ := isRow_of underlying22 underlying5 (by kernel_rfl) h0;clear hA0 hval0;refine (walk a0 len0 cap0 z0 W w0 hL).mono fun e W' ⟨he, bel⟩ => ?_;subst he;exact ⟨_, rfl, _, _, _, [], _, _, hW', trodAll_mk1 (shut_bool underlying4 _), (trodAll_cons_mk (Below.trod laidOut (by kernel_rfl) (of_decide_eq_true (by kernel_rfl)) k0 bel lt0) trodAll_mk0), Below.trodVars laidOut bel (by kernel_rfl) hV, bel.frame _, fun h => by cases h⟩
theorem j1 : (fnSerialRow.wf (OpenSpec.ofChange fnSerialSpec)) = true := by kernel_rfl
theorem j2 : (laidOutB prog) = true := by kernel_rfl
theorem j3 : (mapsRowed prog) = true := by kernel_rfl
theorem j4 : (f8.params.all (prog.readableRec ·)) = true := by kernel_rfl
theorem j5 : (namedTie prog fnSerialRow.named fnSerialSpec.vars) = true := by kernel_rfl
theorem j6 : (fnSerialRow.stops == []) = true := by kernel_rfl
theorem j7 : (prog.stops == []) = true := by kernel_rfl
theorem j8 : (fnSerialRow.knobs == []) = true := by kernel_rfl
theorem j9 : (prog.stopKnobs == []) = true := by kernel_rfl
theorem j10 : (fnSerialRow.inPlace == prog.inPlace 8) = true := by kernel_rfl
theorem j11 : (fnSerialRow.unfollowed == prog.unfollowed 8) = true := by kernel_rfl
theorem j12 : (fnSerialRow.recurses == prog.recurses 8) = true := by kernel_rfl
theorem j13 : (fnSerialRow.named == prog.varsNamed 8) = true := by kernel_rfl
theorem j14 : (fnSerialRow.maps == (f8.params.toList ++ fnSerialSpec.plain.varTypes prog).any (prog.mapsRec ·)) = true := by kernel_rfl
theorem j15 : (fnSerialRow.ifaces == (f8.params.toList ++ fnSerialSpec.plain.varTypes prog).any (prog.ifacesRec ·)) = true := by kernel_rfl
theorem j16 : (fnSerialRow.mapsOut == prog.mapsAmong f8.resultTypes.toList) = true := by kernel_rfl
theorem j17 : (fnSerialRow.loops == (f8.params.toList ++ fnSerialSpec.plain.varTypes prog).any (prog.loopsFrom ·)) = true := by kernel_rfl
theorem j18 : (fnSerialRow.wideKeys == (f8.params.toList ++ fnSerialSpec.plain.varTypes prog ++ f8.resultTypes.toList).any (prog.wideKeysFrom ·)) = true := by kernel_rfl
theorem j19 : (fnSerialSpec.vars.all (prog.varReadable ·)) = true := by kernel_rfl
theorem j20 : (f8.resultTypes.all (fun t => prog.readableRec t && decide (t < prog.types.size))) = true := by kernel_rfl
theorem j21 : (fnSerialRow.ifacesOut == f8.resultTypes.toList.any (prog.ifacesRec ·)) = true := by kernel_rfl
theorem j22 : (fnSerialRow.loopsOut == f8.resultTypes.toList.any (prog.loopsFrom ·)) = true := by kernel_rfl
theorem j23 : (fnSerialRow.plainKeys == prog.plainKeys) = true := by kernel_rfl
theorem j24 : (fnSerialRow.shortTexts.isNone) = true := by kernel_rfl
theorem j25 : (prog.stopsHeard) = true := by kernel_rfl
theorem j26 : (prog.mayEnter) = true := by kernel_rfl
theorem j27 : (fnSerialRow.lifted == prog.liftsFinal) = true := by kernel_rfl
theorem j28 : (prog.make == some fnSerialRow.make) = true := by kernel_rfl
theorem j29 : (fnSerialRow.kinds == (if fnSerialRow.domain.isEmpty then [] else f8.params.toList.map fun t => match prog.underlying t with | some (.int k) => some k | _ => none)) = true := by kernel_rfl
theorem j30 : (fnSerialRow.pinned == fnSerialRow.pinnedBy) = true := by kernel_rfl
theorem j31 : (fnSerialRow.veiled == (f8.params.toList ++ fnSerialSpec.plain.varTypes prog ++ f8.resultTypes.toList).any (prog.veiledRec ·)) = true := by kernel_rfl
theorem j32 : (fnSerialRow.veiledFits prog f8.params.toList (f8.params.toList ++ fnSerialSpec.plain.varTypes prog ++ f8.resultTypes.toList)) = true := by kernel_rfl
theorem aa {a b : Bool} (h : a = true) (g : b = true) : (a && b) = true := by rw [h, g]; rfl
set_option maxRecDepth 100000 in
theorem joined : joinedFacts prog 8 f8 fnSerialSpec fnSerialRow = true := by
 unfold joinedFacts;exact (aa (aa (aa (aa (aa (aa (aa (aa (aa (aa (aa (aa (aa (aa (aa (aa (aa (aa (aa (aa (aa (aa (aa (aa (aa (aa (aa (aa (aa (aa (aa j1 j2) j3) j4) j5) j6) j7) j8) j9) j10) j11) j12) j13) j14) j15) j16) j17) j18) j19) j20) j21) j22) j23) j24) j25) j26) j27) j28) j29) j30) j31) j32)
theorem over : fnSerialRow.holds Tryz.pinned (OpenSpec.ofChange fnSerialSpec) :=
 OpenClaim.holds_of_wide 8 f8 rfl rfl rfl rfl rfl rfl rfl ⟨rfl, rfl, rfl, rfl, rfl⟩ rfl rfl rfl rfl rfl (by kernel_rfl) func8 joined
  (of_decide_eq_true (by kernel_rfl)) (by unfold Func.isWrapper; first | (rw [if_pos (by decide +kernel)]; kernel_rfl) | (rw [if_neg (by decide +kernel)]; exact ⟨rfl, rfl⟩))
  (fun os started H enc _ => lifted os started H enc)
theorem proved : Rows.FnSerialCardSaid :=
 Claim7.holds_tied_plain_at .later [] [.data, .data, .data, .sentinel, .sentinel, .sentinel] true (true, "d8b1018ee02a441800818dac90769dbc09caff18266711d159069bc0b79c8719") true
  over (fun _ h => by cases h) (by kernel_rfl) (fun _ h => by cases h) fnSerial_row_tie rfl ⟨rfl, rfl⟩ (by kernel_rfl) rfl
  (fun f fn hf hfn => by
   obtain rfl : f = 8 := Option.some.inj ((show prog.funcNamed "loop.example/g00974/laws.FnSerial" = some 8 by kernel_rfl).symm.trans hf) |>.symm;obtain rfl : fn = f8 := (Option.some.inj (func8.symm.trans hfn)).symm;exact ⟨by kernel_rfl, fun j t ht => by
    rw [params8] at ht;have hm : t ∈ [22] := by
     have this := Array.mem_of_getElem? ht;simp only [List.mem_toArray, List.mem_cons, List.not_mem_nil, or_false] at this ⊢
     all_goals first | assumption | (rcases this with h <;> simp [h])
    have hall : ([22].all fun u => !prog.wantsStandIn u) = true := by kernel_rfl
    exact (show prog.wantsStandIn t = false by simpa using List.all_eq_true.1 hall t hm)⟩)
  (by kernel_rfl)
#print axioms proved
end Go.Proofs.YtihghflppegnmaaGreatDoor.fnSerial
