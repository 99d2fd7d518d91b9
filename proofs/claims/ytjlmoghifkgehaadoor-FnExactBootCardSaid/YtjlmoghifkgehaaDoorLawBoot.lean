/- FnExactBoot: the program's Boot returns what the reference's returns, in memory of its own, where the library's variables hold what their texts lay. -/
import Derived.Test.YtjlmoghifkgehaaDoorCards
import Derived.Test.YtjlmoghifkgehaaDoorTie
import Derived.Test.YtjlmoghifkgehaaDoorRead
import Derived.Test.YtjlmoghifkgehaaDoorBoot
import Derived.Test.YtjlmoghifkgehaaDoorSliceCell
import Derived.Test.YtjlmoghifkgehaaDoorMarkC
import Derived.Test.YtjlmoghifkgehaaDoorHeldC
import Derived.Test.YtjlmoghifkgehaaDoorOwnKeep
import Derived.LaidMore
import Derived.OpenVars
import Derived.Stop.Joined
import Derived.SevenTiedAt
import Derived.Lib.LaidU8
import Derived.LaidLaws
import Derived.Lib.Hide
import Derived.Deep.RegionHeld3
import Derived.Deep.DrawnRows
namespace Go.Proofs.YtjlmoghifkgehaaDoor.fnExactBoot
open Go.ChangeShapes Go.WideShapes Go.ChangeAt Go.RowKit
open Go.ChangeMaps (open_string shut_string)
attribute [local go_sem ↓] Go.wp_at_zero Go.wp_at_succ
theorem dec_of_laid {w : World} (h : laidMetH Tryd.prog Rows.fnExactBootRow.laid w) : DecTab w := by
  rw [MakeChecks.laidMetH_plain _ _ _ (by kernel_rfl)] at h
  obtain ⟨g, t, cs, fuel, p, hg, ht, hv, hd⟩ := Lib.laidMet.reads h (n := "internal/strconv.uint64pow10") (d := Rows.laid_internal_strconv_uint64pow10) (by repeat (first | exact List.Mem.head _ | apply List.Mem.tail))
  obtain rfl := Option.some.inj ((show (Tryd.prog.globals[2]?).map (·.type) = some 100 by kernel_rfl).symm.trans (by rw [← ht]; congr 2; exact Option.some.inj ((show Tryd.prog.globalNamed "internal/strconv.uint64pow10" = some 2 by kernel_rfl).symm.trans hg)))
  have e : Rows.laid_internal_strconv_uint64pow10 = (Lib.tabData .u64 Lib.pow10Tab : DataW Unit) := by kernel_rfl
  rw [e] at hd
  unfold DecTab Lib.TabIs
  rw [hv, ← Lib.cells_of_tab Tryd.underlying100 Tryd.underlying86 (by kernel_rfl) (by kernel_rfl) hd]
theorem syn_of_laid {w : World} (h : laidMetH Tryd.prog Rows.fnExactBootRow.laid w) : ∃ tp p, w.var? Tryd.prog "strconv.ErrSyntax" = some #[.iface tp p] := by
  rw [MakeChecks.laidMetH_plain _ _ _ (by kernel_rfl)] at h
  obtain ⟨g, t, cs, fuel, p, hg, ht, hv, hd⟩ := Lib.laidMet.reads h (n := "strconv.ErrSyntax") (d := Rows.laid_strconv_ErrSyntax) (by repeat (first | exact List.Mem.head _ | apply List.Mem.tail))
  obtain rfl := Option.some.inj ((show (Tryd.prog.globals[0]?).map (·.type) = some 64 by kernel_rfl).symm.trans (by rw [← ht]; congr 2; exact Option.some.inj ((show Tryd.prog.globalNamed "strconv.ErrSyntax" = some 0 by kernel_rfl).symm.trans hg)))
  obtain ⟨_, u, v, e, _, _⟩ := iface_of_trod Tryd.underlying64 hd
  have e2 : cs = #[.iface u v] := by
    apply Array.toList_inj.1
    simpa using e
  rw [e2] at hv
  exact ⟨u, v, hv⟩
theorem ran_of_laid {w : World} (h : laidMetH Tryd.prog Rows.fnExactBootRow.laid w) : ∃ tp p, w.var? Tryd.prog "strconv.ErrRange" = some #[.iface tp p] := by
  rw [MakeChecks.laidMetH_plain _ _ _ (by kernel_rfl)] at h
  obtain ⟨g, t, cs, fuel, p, hg, ht, hv, hd⟩ := Lib.laidMet.reads h (n := "strconv.ErrRange") (d := Rows.laid_strconv_ErrRange) (by repeat (first | exact List.Mem.head _ | apply List.Mem.tail))
  obtain rfl := Option.some.inj ((show (Tryd.prog.globals[1]?).map (·.type) = some 64 by kernel_rfl).symm.trans (by rw [← ht]; congr 2; exact Option.some.inj ((show Tryd.prog.globalNamed "strconv.ErrRange" = some 1 by kernel_rfl).symm.trans hg)))
  obtain ⟨_, u, v, e, _, _⟩ := iface_of_trod Tryd.underlying64 hd
  have e2 : cs = #[.iface u v] := by
    apply Array.toList_inj.1
    simpa using e
  rw [e2] at hv
  exact ⟨u, v, hv⟩
theorem boot_len : bootM.st.length ≤ 5 := by
  have h0 := (mEmpty_ok 0).look kProc
  have hid := bumpN_bounds (lookM mEmpty kProc) kProc
  have hk1 := procK_size (bumpN (lookM mEmpty kProc) kProc) kS (by omega) (by omega) (by decide)
  have hk2 := procK_size (bumpN (lookM mEmpty kProc) kProc) kP (by omega) (by omega) (by decide)
  unfold bootM spawnM
  split
  · exact Nat.le_trans h0.l1 (by omega)
  · exact Nat.le_trans (((h0.bump (by decide)).set hk1 1).set hk2 0).l1 (by omega)
theorem below_own1 {w W w' : World} {T K n : Nat} {v : Value} {cells : List Value} (hb : Below w.heap.size w W) (ho : W.ownsRow w.heap.size T K v n cells) (hg : W.grownBy w' v.ownBlock) : Below w.heap.size w w' := by
  rcases ho.2 with ⟨rfl, _⟩ | ⟨g, cap, cur, rfl, hge, _⟩
  · exact hb.trans ⟨hg.os, hg.tape, hg.output, hg.size, fun k hk => hg.block k (Nat.lt_of_lt_of_le hk hb.size) (by simp [Value.ownBlock])⟩
  · exact hb.trans (below_of_grown hg hge hb.size)
set_option maxHeartbeats 4000000 in
theorem walk (w : World) (hL : laidMetH Tryd.prog Rows.fnExactBootRow.laid w) :
    Calls Tryd.prog 3 #[] w fun e w' => e = .returned (.bool true) ∧ Below w.heap.size w w' := by
  have HTABS := Lib.hid (fun (W : World) (hW : Below w.heap.size w W) => (And.intro ((dec_of_laid hL).below hW) (NumErr.below ⟨syn_of_laid hL, ran_of_laid hL⟩ hW) : NumTab W))
  clear hL
  have hkl := boot_len
  have K1 := Lib.hid (specBoot_c w)
  have KI := Lib.hid (fun W (hW : Below w.heap.size w W) => implBoot_c W (fun W' hW' => HTABS.out W' (hW.trans (hW'.mono hW.size))))
  generalize bootM.st = xs at *
  go_enter Tryd.func3, Tryd.ntmps3
  go_wp2_with fail
  refine K1.out.mono ?_
  rintro e w1 ⟨a1, c1, rfl, r1, b1⟩
  have R1 := Lib.hid r1
  have B1 := Lib.hid b1
  clear r1 b1 K1
  go_wp2_with fail
  refine (KI.out _ B1.out).mono ?_
  rintro e w2 ⟨v2, rfl, o2, b2⟩
  obtain ⟨a2, c2, hv2, r2, _, _⟩ := reads_of_owns' encC_len o2
  subst hv2
  have O2 := Lib.hid o2
  have B2 := Lib.hid b2
  have KE := Lib.hid (eqCellS_c a2 a1 c2 c1 xs xs w2 (by unfold maxLen; omega) r2 (R1.out.below b2))
  rw [same_self] at KE
  clear r2 o2 b2
  go_wp2_with fail
  refine KE.out.mono ?_
  rintro e w3 ⟨rfl, b3⟩
  have O3 := Lib.hid (ownsRow_below O2.out b3)
  have B3 := Lib.hid (B2.out.trans (b3.mono B2.out.size))
  have KM := Lib.hid (markCellS_c (.slice a2 xs.length c2) w1.heap.size xs.length 1 _ w3 (by omega) (by omega) O3.out)
  clear b3 KE O2 B2
  go_wp2_with fail
  refine KM.out.mono ?_
  rintro e w4 ⟨rfl, oG, gG⟩
  have B4 := Lib.hid (below_own1 B3.out O3.out gG)
  have E4 := Lib.hid (reads_marksC oG)
  obtain ⟨mm, hmm⟩ : ∃ mm : Int, ((1 + 2 * xs.length : Nat) : Int) = mm := ⟨_, rfl⟩
  have pmm : ¬ mm < 0 := by omega
  have KH := Lib.hid (fun W (h : Reads W a2 2 encC (marksC 1 xs.length)) => heldCellS_c a2 c2 xs.length 1 W (by omega) (by omega) h)
  rw [hmm] at KH
  have HMM := Lib.hid hmm
  clear oG gG hmm KM O3 B3
  rw [HMM.out]
  go_wp2_with fail
  refine (KH.out _ E4.out).mono ?_
  rintro e w5 ⟨rfl, b5⟩
  have E5 := Lib.hid (E4.out.below b5)
  have B5 := Lib.hid (B4.out.trans (b5.mono B4.out.size))
  have BW5 := Lib.hid (B1.out.trans (B5.out.mono B1.out.size))
  clear b5 E4 B4
  go_wp2_with fail
  refine (KI.out _ BW5.out).mono ?_
  rintro e w6 ⟨v6, rfl, o6, b6⟩
  obtain ⟨a6, c6, hv6, r6, _, _⟩ := reads_of_owns' encC_len o6
  subst hv6
  have E6 := Lib.hid (E5.out.below b6)
  have B6 := Lib.hid (B5.out.trans (b6.mono B5.out.size))
  have KE2 := Lib.hid (eqCellS_c a6 a1 c6 c1 xs xs w6 (by unfold maxLen; omega) r6 (R1.out.below B6.out))
  rw [same_self] at KE2
  clear r6 o6 b6 E5 B5 BW5
  go_wp2_with fail
  refine KE2.out.mono ?_
  rintro e w7 ⟨rfl, b7⟩
  have E7 := Lib.hid (E6.out.below b7)
  have B7 := Lib.hid (B6.out.trans (b7.mono B6.out.size))
  clear b7 KE2 E6 B6
  go_wp2_with fail
  refine (KH.out _ E7.out).mono ?_
  rintro e w8 ⟨rfl, b8⟩
  have B8 := Lib.hid (B1.out.trans ((B7.out.trans (b8.mono B7.out.size)).mono B1.out.size))
  clear b8 E7 B7
  go_wp2
  go_ret
  exact ⟨rfl, B8.out⟩

/- SIG
theorem walk  (w : World)  (hL : laidMetH Tryd.prog Rows.fnExactBootRow.laid w) :
    Calls Tryd.prog 3 #[] w fun e w' => e = .returned (.bool true) ∧ Below w.heap.size w w' := by
-/
theorem own : ownKnob Tryd.prog.godebug = none := by kernel_rfl
theorem laidOut : laidOutB Tryd.prog = true := by kernel_rfl
theorem door_met (os : Os) (args : Array Value) : laidMetH Tryd.prog Rows.fnExactBootRow.laid ((World.doorLaid Tryd.prog 400 os).forCall (fun _ _ => 0) ⟨#[], args, []⟩).memory :=
  laidMetH_of_parts3 (fuel := 8) (laidMet_of_run' 8 (by kernel_rfl) (by kernel_rfl)) (by kernel_rfl) (by kernel_rfl)
set_option maxRecDepth 100000 in
theorem lifted (os : Os) (started : os.Started) (H : Type) (enc : TypeId × Value → H) :
    ReturnsInHanded {} Tryd.checked os 3 .any (fun w args => (Rows.fnExactBootSpec.pre enc Tryd.prog Tryd.f3 [] false w args ∧ laidMetH Tryd.prog Rows.fnExactBootRow.laid w) ∧ sizedMet enc Tryd.prog Tryd.f3 (OpenSpec.ofChange Rows.fnExactBootSpec) false w args)
      (Rows.fnExactBootSpec.post enc Tryd.prog Tryd.f3 false true false false) := by
  refine returnsInHanded_of_change_and (C := Tryd.checked) (X := fun w _ => laidMetH Tryd.prog Rows.fnExactBootRow.laid w) (fun _ _ _ hh h => h.of_heap hh) own started (by kernel_rfl) Tryd.func3
    (ChangeSpec.witness_shaped (enc := enc) (C := Tryd.checked) (os := os) (X := fun w _ => laidMetH Tryd.prog Rows.fnExactBootRow.laid w) false (World.doorLaid Tryd.prog 400 os) #[] 8 rfl (World.shaped_of_RefB (by kernel_rfl) (by kernel_rfl)) (by kernel_rfl) (by kernel_rfl) (by kernel_rfl) (door_met os _)) ?_
  intro W base args ds gs before hval0 hW _ _ hL _
  have hval : ∀ (j : Nat) t v, Tryd.f3.params[j]? = some t → args[j]? = some v → Value.okWide Tryd.prog W .any base t v := hval0
  have hW' := hW
  obtain ⟨p, q, hA0, hV, rfl, hfz, hnd⟩ := hW
  have hA : DataW.TrodAll enc Tryd.prog W 0 (fun _ => true) true Tryd.f3.params.toList args.toList ds p := hA0
  rw [Tryd.params3] at hA hval
  obtain ⟨hnil, rfl, rfl⟩ := trodAll_nil hA
  obtain rfl : args = #[] := by cases args; simp_all
  have hlen := trodVars_length hV
  obtain rfl : gs = [] := List.eq_nil_of_length_eq_zero hlen
  clear hA0 hval0
  refine (walk  W hL).mono fun e W' ⟨he, bel⟩ => ?_
  subst he
  exact ⟨_, rfl, _, _, _, [], _, _, hW', trodAll_mk1 (shut_bool Tryd.underlying4 _), trodAll_mk0, Below.trodVars laidOut bel (by kernel_rfl) hV, bel.frame _, fun h => by cases h⟩
theorem over : Rows.fnExactBootRow.holds Tryd.pinned (OpenSpec.ofChange Rows.fnExactBootSpec) :=
  OpenClaim.holds_of_wide 3 Tryd.f3 rfl rfl rfl rfl rfl rfl rfl ⟨rfl, rfl, rfl, rfl, rfl⟩ rfl rfl rfl rfl rfl (by kernel_rfl) Tryd.func3 (by kernel_rfl)
    (of_decide_eq_true (by kernel_rfl)) (by unfold Func.isWrapper; first | (rw [if_pos (by decide +kernel)]; kernel_rfl) | (rw [if_neg (by decide +kernel)]; exact ⟨rfl, rfl⟩))
    (fun os started H enc _ => lifted os started H enc)
theorem proved : Rows.FnExactBootCardSaid :=
  Claim7.holds_tied_plain_at .later [] [.data, .data, .data, .sentinel, .sentinel] true (true, "31bf58c4c7bf8e50b2f00e8a6f21657a1729db3418361ce33dcc443b837fb643") true
    over (fun _ h => by cases h) (by kernel_rfl) (fun _ h => by cases h) fnExactBoot_row_tie rfl ⟨rfl, rfl⟩ (by kernel_rfl) rfl
    (fun f fn hf hfn => by
      obtain rfl : f = 3 := Option.some.inj ((show Tryd.prog.funcNamed "loop.example/g00974/laws.FnExactBoot" = some 3 by kernel_rfl).symm.trans hf) |>.symm
      obtain rfl : fn = Tryd.f3 := (Option.some.inj (Tryd.func3.symm.trans hfn)).symm
      exact ⟨by kernel_rfl, fun j t ht => by
        rw [Tryd.params3] at ht
        have hm : t ∈ [] := by
          have this := Array.mem_of_getElem? ht
          simp only [List.mem_toArray, List.mem_cons, List.not_mem_nil, or_false] at this ⊢
          all_goals first | assumption | (rcases this with h <;> simp [h])
        have hall : ([].all fun u => !Tryd.prog.wantsStandIn u) = true := by kernel_rfl
        exact (show Tryd.prog.wantsStandIn t = false by simpa using List.all_eq_true.1 hall t hm)⟩)
    (by kernel_rfl)
#print axioms proved

end Go.Proofs.YtjlmoghifkgehaaDoor.fnExactBoot
