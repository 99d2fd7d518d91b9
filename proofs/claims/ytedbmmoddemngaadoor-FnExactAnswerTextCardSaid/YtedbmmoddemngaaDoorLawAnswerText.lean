/- FnExactAnswerText: for every input the program's AnswerText returns what the reference's returns, where the library's table of powers holds what its text lays. -/
import Derived.Test.YtedbmmoddemngaaDoorCards
import Derived.Test.YtedbmmoddemngaaDoorTie
import Derived.Test.YtedbmmoddemngaaDoorRead
import Derived.Test.YtedbmmoddemngaaDoorAnsText
import Derived.Test.YtedbmmoddemngaaDoorElemAnswer
import Derived.LaidMore
import Derived.OpenVars
import Derived.Stop.Joined
import Derived.SevenTiedAt
import Derived.Lib.LaidU8
import Derived.LaidLaws
import Derived.Lib.Hide
import Derived.Deep.RegionHeld3
import Derived.Deep.DrawnRows
namespace Go.Proofs.YtedbmmoddemngaaDoor.fnExactAnswerText
open Go.ChangeShapes Go.WideShapes Go.ChangeAt Go.RowKit
open Go.ChangeMaps (open_string shut_string)
attribute [local go_sem ↓] Go.wp_at_zero Go.wp_at_succ
theorem dec_of_laid {w : World} (h : laidMetH Tryd.prog Rows.fnExactAnswerTextRow.laid w) : DecTab w := by
  rw [MakeChecks.laidMetH_plain _ _ _ (by kernel_rfl)] at h
  obtain ⟨g, t, cs, fuel, p, hg, ht, hv, hd⟩ := Lib.laidMet.reads h (n := "internal/strconv.uint64pow10") (d := Rows.laid_internal_strconv_uint64pow10) (by repeat (first | exact List.Mem.head _ | apply List.Mem.tail))
  obtain rfl := Option.some.inj ((show (Tryd.prog.globals[4]?).map (·.type) = some 129 by kernel_rfl).symm.trans (by rw [← ht]; congr 2; exact Option.some.inj ((show Tryd.prog.globalNamed "internal/strconv.uint64pow10" = some 4 by kernel_rfl).symm.trans hg)))
  have e : Rows.laid_internal_strconv_uint64pow10 = (Lib.tabData .u64 Lib.pow10Tab : DataW Unit) := by kernel_rfl
  rw [e] at hd
  unfold DecTab Lib.TabIs
  rw [hv, ← Lib.cells_of_tab Tryd.underlying129 Tryd.underlying117 (by kernel_rfl) (by kernel_rfl) hd]
set_option maxHeartbeats 4000000 in
theorem walk (x0 : Ans) (w : World) (w0 : okA x0) (hL : laidMetH Tryd.prog Rows.fnExactAnswerTextRow.laid w) :
    Calls Tryd.prog 7 #[.agg (encA x0).toArray] w fun e w' => e = .returned (.bool true) ∧ Below w.heap.size w w' := by
  show Calls Tryd.prog 7 #[.agg #[.int .i64 x0.code, .int .i64 x0.n, .string x0.text]] w _
  have HTAB := Lib.hid (fun (W : World) (hW : Below w.heap.size w W) => (dec_of_laid hL).below hW)
  have HC := Lib.hid (bounds_i64 w0.1)
  have HN := Lib.hid (bounds_i64 w0.2.1)
  have HT := Lib.hid w0.2.2
  clear hL w0
  by_cases q0 : (1048576 : Int) < (bulkA x0 : Nat)
  · have E0 := Lib.hid (szSub_no q0)
    go_enter Tryd.func7, Tryd.ntmps7
    go_wp2_with fail
    refine (szAnswer_c x0 _ (by omega) (by omega) HT.out _).mono ?_
    rintro e w1 ⟨rfl, hb1⟩
    have B1 : Below w.heap.size w w1 := (by repeat (first | exact Below.refl _ _ | refine Below.drew ?_ | refine below_drewN ?_ _ | refine Below.allocC ?_ _ | refine Below.setCell ?_ (by first | (simp; done) | (simp; omega)) _ | refine Below.chain ?_ (by assumption)))
    rw [E0.out]
    go_wp2
    go_ret
    exact ⟨rfl, (by repeat (first | exact Below.refl _ _ | refine Below.drew ?_ | refine below_drewN ?_ _ | refine Below.allocC ?_ _ | refine Below.setCell ?_ (by first | (simp; done) | (simp; omega)) _ | refine Below.chain ?_ (by assumption)))⟩
  have E0 := Lib.hid (szSub_yes (left := 1048576) (n := bulkA x0) (by omega))
  have q1 : x0.text.size ≤ 1048576 := by unfold bulkA at q0; omega
  go_enter Tryd.func7, Tryd.ntmps7
  go_wp2_with fail
  refine (szAnswer_c x0 _ (by omega) (by omega) HT.out _).mono ?_
  rintro e w1 ⟨rfl, hb1⟩
  have B1 : Below w.heap.size w w1 := (by repeat (first | exact Below.refl _ _ | refine Below.drew ?_ | refine below_drewN ?_ _ | refine Below.allocC ?_ _ | refine Below.setCell ?_ (by first | (simp; done) | (simp; omega)) _ | refine Below.chain ?_ (by assumption)))
  rw [E0.out]
  have X1 := Lib.hid ((Box.new w [.int .i64 x0.code, .int .i64 x0.n, .string x0.text] _).below hb1)
  have d10 : w1.cell? ⟨w.heap.size, 0, none⟩ = some (.int .i64 x0.code) := X1.out.cell 0 _ rfl
  have d11 : w1.cell? ⟨w.heap.size, 1, none⟩ = some (.int .i64 x0.n) := X1.out.cell 1 _ rfl
  have d12 : w1.cell? ⟨w.heap.size, 2, none⟩ = some (.string x0.text) := X1.out.cell 2 _ rfl
  go_wp2_with fail
  refine (toAnswer_c x0 _).mono ?_
  rintro e w2 ⟨rfl, hb2⟩
  have B2 : Below w.heap.size w w2 := (by repeat (first | exact Below.refl _ _ | refine Below.drew ?_ | refine below_drewN ?_ _ | refine Below.allocC ?_ _ | refine Below.setCell ?_ (by first | (simp; done) | (simp; omega)) _ | refine Below.chain ?_ (by assumption)))
  have X2 := Lib.hid (X1.out.below hb2)
  have d20 : w2.cell? ⟨w.heap.size, 0, none⟩ = some (.int .i64 x0.code) := X2.out.cell 0 _ rfl
  have d21 : w2.cell? ⟨w.heap.size, 1, none⟩ = some (.int .i64 x0.n) := X2.out.cell 1 _ rfl
  have d22 : w2.cell? ⟨w.heap.size, 2, none⟩ = some (.string x0.text) := X2.out.cell 2 _ rfl
  go_wp2_with fail
  refine (specAnsText_c x0.code x0.n x0.text _ HC.out.1 HC.out.2 HN.out.1 HN.out.2 (by omega)).mono ?_
  rintro e w3 ⟨rfl, hb3⟩
  have B3 : Below w.heap.size w w3 := (by repeat (first | exact Below.refl _ _ | refine Below.drew ?_ | refine below_drewN ?_ _ | refine Below.allocC ?_ _ | refine Below.setCell ?_ (by first | (simp; done) | (simp; omega)) _ | refine Below.chain ?_ (by assumption)))
  have X3 := Lib.hid (X2.out.below hb3)
  have d30 : w3.cell? ⟨w.heap.size, 0, none⟩ = some (.int .i64 x0.code) := X3.out.cell 0 _ rfl
  have d31 : w3.cell? ⟨w.heap.size, 1, none⟩ = some (.int .i64 x0.n) := X3.out.cell 1 _ rfl
  have d32 : w3.cell? ⟨w.heap.size, 2, none⟩ = some (.string x0.text) := X3.out.cell 2 _ rfl
  go_wp2_with fail
  refine (toAnswer_c x0 _).mono ?_
  rintro e w4 ⟨rfl, hb4⟩
  have B4 : Below w.heap.size w w4 := (by repeat (first | exact Below.refl _ _ | refine Below.drew ?_ | refine below_drewN ?_ _ | refine Below.allocC ?_ _ | refine Below.setCell ?_ (by first | (simp; done) | (simp; omega)) _ | refine Below.chain ?_ (by assumption)))
  have X4 := Lib.hid (X3.out.below hb4)
  have d40 : w4.cell? ⟨w.heap.size, 0, none⟩ = some (.int .i64 x0.code) := X4.out.cell 0 _ rfl
  have d41 : w4.cell? ⟨w.heap.size, 1, none⟩ = some (.int .i64 x0.n) := X4.out.cell 1 _ rfl
  have d42 : w4.cell? ⟨w.heap.size, 2, none⟩ = some (.string x0.text) := X4.out.cell 2 _ rfl
  go_wp2_with fail
  refine (implAnsText_c x0.code x0.n x0.text _ HC.out.1 HC.out.2 HN.out.1 HN.out.2 (HTAB.out _ B4) (by omega)).mono ?_
  rintro e w5 ⟨rfl, hb5⟩
  have B5 : Below w.heap.size w w5 := (by repeat (first | exact Below.refl _ _ | refine Below.drew ?_ | refine below_drewN ?_ _ | refine Below.allocC ?_ _ | refine Below.setCell ?_ (by first | (simp; done) | (simp; omega)) _ | refine Below.chain ?_ (by assumption)))
  have X5 := Lib.hid (X4.out.below hb5)
  have d50 : w5.cell? ⟨w.heap.size, 0, none⟩ = some (.int .i64 x0.code) := X5.out.cell 0 _ rfl
  have d51 : w5.cell? ⟨w.heap.size, 1, none⟩ = some (.int .i64 x0.n) := X5.out.cell 1 _ rfl
  have d52 : w5.cell? ⟨w.heap.size, 2, none⟩ = some (.string x0.text) := X5.out.cell 2 _ rfl
  generalize ansS x0.code x0.n x0.text = r
  go_wp2
  go_ret
  exact ⟨rfl, (by repeat (first | exact Below.refl _ _ | refine Below.drew ?_ | refine below_drewN ?_ _ | refine Below.allocC ?_ _ | refine Below.setCell ?_ (by first | (simp; done) | (simp; omega)) _ | refine Below.chain ?_ (by assumption)))⟩

/- SIG
theorem walk (x0 : Ans) (w : World) (w0 : okA x0) (hL : laidMetH Tryd.prog Rows.fnExactAnswerTextRow.laid w) :
    Calls Tryd.prog 7 #[.agg (encA x0).toArray] w fun e w' => e = .returned (.bool true) ∧ Below w.heap.size w w' := by
-/
theorem own : ownKnob Tryd.prog.godebug = none := by kernel_rfl
theorem laidOut : laidOutB Tryd.prog = true := by kernel_rfl
theorem door_met (os : Os) (args : Array Value) : laidMetH Tryd.prog Rows.fnExactAnswerTextRow.laid ((World.doorLaid Tryd.prog 400 os).forCall (fun _ _ => 0) ⟨#[], args, []⟩).memory :=
  laidMetH_of_parts3 (fuel := 8) (laidMet_of_run' 8 (by kernel_rfl) (by kernel_rfl)) (by kernel_rfl) (by kernel_rfl)
set_option maxRecDepth 100000 in
theorem lifted (os : Os) (started : os.Started) (H : Type) (enc : TypeId × Value → H) :
    ReturnsInHanded {} Tryd.checked os 7 .any (fun w args => (Rows.fnExactAnswerTextSpec.pre enc Tryd.prog Tryd.f7 [] false w args ∧ laidMetH Tryd.prog Rows.fnExactAnswerTextRow.laid w) ∧ sizedMet enc Tryd.prog Tryd.f7 (OpenSpec.ofChange Rows.fnExactAnswerTextSpec) false w args)
      (Rows.fnExactAnswerTextSpec.post enc Tryd.prog Tryd.f7 false true false false) := by
  refine returnsInHanded_of_change_and (C := Tryd.checked) (X := fun w _ => laidMetH Tryd.prog Rows.fnExactAnswerTextRow.laid w) (fun _ _ _ hh h => h.of_heap hh) own started (by kernel_rfl) Tryd.func7
    (ChangeSpec.witness_shaped (enc := enc) (C := Tryd.checked) (os := os) (X := fun w _ => laidMetH Tryd.prog Rows.fnExactAnswerTextRow.laid w) false (World.doorLaid Tryd.prog 400 os) #[.agg #[.int .i64 0, .int .i64 0, .string ByteArray.empty]] 8 rfl (World.shaped_of_RefB (by kernel_rfl) (by kernel_rfl)) (by kernel_rfl) (by kernel_rfl) (by kernel_rfl) (door_met os _)) ?_
  intro W base args ds gs before hval0 hW _ _ hL _
  have hval : ∀ (j : Nat) t v, Tryd.f7.params[j]? = some t → args[j]? = some v → Value.okWide Tryd.prog W .any base t v := hval0
  have hW' := hW
  obtain ⟨p, q, hA0, hV, rfl, hfz, hnd⟩ := hW
  have hA : DataW.TrodAll enc Tryd.prog W 0 (fun _ => true) true Tryd.f7.params.toList args.toList ds p := hA0
  rw [Tryd.params7] at hA hval
  obtain ⟨v0, vs0, d0, ds0, p0, q0, hargs, rfl, rfl, h0, g0⟩ := trodAll_cons hA
  obtain ⟨rfl, rfl, rfl⟩ := trodAll_nil g0
  obtain rfl : args = #[v0] := by cases args; simp_all
  have hlen := trodVars_length hV
  obtain rfl : gs = [] := List.eq_nil_of_length_eq_zero hlen
  have k0 := h0
  have lt0 : ∀ x ∈ p0, x.block < W.heap.size := by obtain ⟨m, hm⟩ := k0; exact DataW.trod_lt m _ _ _ hm
  obtain ⟨x0, rfl, w0⟩ := open_aggE encA okA 3 Tryd.underlying31 (by kernel_rfl) (elem_answer Tryd.underlying31 (by kernel_rfl) Tryd.underlying3 Tryd.underlying3 Tryd.underlying9) (hval 0 31 v0 rfl rfl) h0
  clear hA0 hval0
  refine (walk x0 W w0 hL).mono fun e W' ⟨he, bel⟩ => ?_
  subst he
  exact ⟨_, rfl, _, _, _, [], _, _, hW', trodAll_mk1 (shut_bool Tryd.underlying4 _), (trodAll_cons_mk (Below.trod laidOut (by kernel_rfl) (of_decide_eq_true (by kernel_rfl)) k0 bel lt0) trodAll_mk0), Below.trodVars laidOut bel (by kernel_rfl) hV, bel.frame _, fun h => by cases h⟩
theorem over : Rows.fnExactAnswerTextRow.holds Tryd.pinned (OpenSpec.ofChange Rows.fnExactAnswerTextSpec) :=
  OpenClaim.holds_of_wide 7 Tryd.f7 rfl rfl rfl rfl rfl rfl rfl ⟨rfl, rfl, rfl, rfl, rfl⟩ rfl rfl rfl rfl rfl (by kernel_rfl) Tryd.func7 (by kernel_rfl)
    (of_decide_eq_true (by kernel_rfl)) (by unfold Func.isWrapper; first | (rw [if_pos (by decide +kernel)]; kernel_rfl) | (rw [if_neg (by decide +kernel)]; exact ⟨rfl, rfl⟩))
    (fun os started H enc _ => lifted os started H enc)
theorem proved : Rows.FnExactAnswerTextCardSaid :=
  Claim7.holds_tied_plain_at .later [] [.data, .data, .data] true (true, "a394b0db006c70c03e36c392521b106b757790137339a8f1ab7d24a56b76f51b") true
    over (fun _ h => by cases h) (by kernel_rfl) (fun _ h => by cases h) fnExactAnswerText_row_tie rfl ⟨rfl, rfl⟩ (by kernel_rfl) rfl
    (fun f fn hf hfn => by
      obtain rfl : f = 7 := Option.some.inj ((show Tryd.prog.funcNamed "loop.example/g00974/laws.FnExactAnswerText" = some 7 by kernel_rfl).symm.trans hf) |>.symm
      obtain rfl : fn = Tryd.f7 := (Option.some.inj (Tryd.func7.symm.trans hfn)).symm
      exact ⟨by kernel_rfl, fun j t ht => by
        rw [Tryd.params7] at ht
        have hm : t ∈ [31] := by
          have this := Array.mem_of_getElem? ht
          simp only [List.mem_toArray, List.mem_cons, List.not_mem_nil, or_false] at this ⊢
          first | assumption | (rcases this with h <;> simp [h])
        have hall : ([31].all fun u => !Tryd.prog.wantsStandIn u) = true := by kernel_rfl
        exact (show Tryd.prog.wantsStandIn t = false by simpa using List.all_eq_true.1 hall t hm)⟩)
    (by kernel_rfl)
#print axioms proved

end Go.Proofs.YtedbmmoddemngaaDoor.fnExactAnswerText
