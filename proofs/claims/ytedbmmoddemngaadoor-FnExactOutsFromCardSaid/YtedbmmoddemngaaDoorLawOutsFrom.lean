/- FnExactOutsFrom: for every input the program's OutsFrom returns what the reference's returns, leaves its argument, and shares no memory, where the library's variables hold what their texts lay. -/
import Derived.Test.YtedbmmoddemngaaDoorCards
import Derived.Test.YtedbmmoddemngaaDoorTie
import Derived.Test.YtedbmmoddemngaaDoorRead
import Derived.Test.YtedbmmoddemngaaDoorOutsF
import Derived.Test.YtedbmmoddemngaaDoorSliceCell
import Derived.Test.YtedbmmoddemngaaDoorMarkS
import Derived.Test.YtedbmmoddemngaaDoorMarkC
import Derived.Test.YtedbmmoddemngaaDoorOwnKeep
import Derived.LaidMore
import Derived.OpenVars
import Derived.Stop.Joined
import Derived.SevenTiedAt
import Derived.Lib.LaidU8
import Derived.LaidLaws
import Derived.Lib.Hide
import Derived.Deep.RegionHeld3
import Derived.Deep.DrawnRows
namespace Go.Proofs.YtedbmmoddemngaaDoor.fnExactOutsFrom
open Go.ChangeShapes Go.WideShapes Go.ChangeAt Go.RowKit
open Go.ChangeMaps (open_string shut_string)
attribute [local go_sem ↓] Go.wp_at_zero Go.wp_at_succ
theorem dec_of_laid {w : World} (h : laidMetH Tryd.prog Rows.fnExactOutsFromRow.laid w) : DecTab w := by
  rw [MakeChecks.laidMetH_plain _ _ _ (by kernel_rfl)] at h
  obtain ⟨g, t, cs, fuel, p, hg, ht, hv, hd⟩ := Lib.laidMet.reads h (n := "internal/strconv.uint64pow10") (d := Rows.laid_internal_strconv_uint64pow10) (by repeat (first | exact List.Mem.head _ | apply List.Mem.tail))
  obtain rfl := Option.some.inj ((show (Tryd.prog.globals[4]?).map (·.type) = some 129 by kernel_rfl).symm.trans (by rw [← ht]; congr 2; exact Option.some.inj ((show Tryd.prog.globalNamed "internal/strconv.uint64pow10" = some 4 by kernel_rfl).symm.trans hg)))
  have e : Rows.laid_internal_strconv_uint64pow10 = (Lib.tabData .u64 Lib.pow10Tab : DataW Unit) := by kernel_rfl
  rw [e] at hd
  unfold DecTab Lib.TabIs
  rw [hv, ← Lib.cells_of_tab Tryd.underlying129 Tryd.underlying117 (by kernel_rfl) (by kernel_rfl) hd]
theorem syn_of_laid {w : World} (h : laidMetH Tryd.prog Rows.fnExactOutsFromRow.laid w) : ∃ tp p, w.var? Tryd.prog "strconv.ErrSyntax" = some #[.iface tp p] := by
  rw [MakeChecks.laidMetH_plain _ _ _ (by kernel_rfl)] at h
  obtain ⟨g, t, cs, fuel, p, hg, ht, hv, hd⟩ := Lib.laidMet.reads h (n := "strconv.ErrSyntax") (d := Rows.laid_strconv_ErrSyntax) (by repeat (first | exact List.Mem.head _ | apply List.Mem.tail))
  obtain rfl := Option.some.inj ((show (Tryd.prog.globals[2]?).map (·.type) = some 69 by kernel_rfl).symm.trans (by rw [← ht]; congr 2; exact Option.some.inj ((show Tryd.prog.globalNamed "strconv.ErrSyntax" = some 2 by kernel_rfl).symm.trans hg)))
  obtain ⟨_, u, v, e, _, _⟩ := iface_of_trod Tryd.underlying69 hd
  have e2 : cs = #[.iface u v] := by
    apply Array.toList_inj.1
    simpa using e
  rw [e2] at hv
  exact ⟨u, v, hv⟩
theorem ran_of_laid {w : World} (h : laidMetH Tryd.prog Rows.fnExactOutsFromRow.laid w) : ∃ tp p, w.var? Tryd.prog "strconv.ErrRange" = some #[.iface tp p] := by
  rw [MakeChecks.laidMetH_plain _ _ _ (by kernel_rfl)] at h
  obtain ⟨g, t, cs, fuel, p, hg, ht, hv, hd⟩ := Lib.laidMet.reads h (n := "strconv.ErrRange") (d := Rows.laid_strconv_ErrRange) (by repeat (first | exact List.Mem.head _ | apply List.Mem.tail))
  obtain rfl := Option.some.inj ((show (Tryd.prog.globals[3]?).map (·.type) = some 69 by kernel_rfl).symm.trans (by rw [← ht]; congr 2; exact Option.some.inj ((show Tryd.prog.globalNamed "strconv.ErrRange" = some 3 by kernel_rfl).symm.trans hg)))
  obtain ⟨_, u, v, e, _, _⟩ := iface_of_trod Tryd.underlying69 hd
  have e2 : cs = #[.iface u v] := by
    apply Array.toList_inj.1
    simpa using e
  rw [e2] at hv
  exact ⟨u, v, hv⟩
theorem odd_of_laid {w : World} (h : laidMetH Tryd.prog Rows.fnExactOutsFromRow.laid w) : OddErr w := by
  rw [MakeChecks.laidMetH_plain _ _ _ (by kernel_rfl)] at h
  obtain ⟨g, t, cs, fuel, p, hg, ht, hv, hd⟩ := Lib.laidMet.reads h (n := "encoding/hex.ErrLength") (d := Rows.laid_encoding_hex_ErrLength) (by repeat (first | exact List.Mem.head _ | apply List.Mem.tail))
  obtain rfl := Option.some.inj ((show Tryd.prog.globalNamed "encoding/hex.ErrLength" = some 1 by kernel_rfl).symm.trans hg)
  obtain rfl := Option.some.inj ((show (Tryd.prog.globals[1]?).map (·.type) = some 69 by kernel_rfl).symm.trans ht)
  obtain ⟨_, u, v, e, _, _⟩ := iface_of_trod Tryd.underlying69 hd
  have hc := World.var?_cell hg hv 0
  have e2 : cs[0]? = some (.iface u v) := by
    have := congrArg (·[0]?) e
    simpa using this
  rw [e2] at hc
  exact ⟨u, v, hc⟩
theorem below_of_own {w W w' : World} {T K n : Nat} {v : Value} {cells : List Value} (hb : Below w.heap.size w W) (ho : W.ownsRow w.heap.size T K v n cells) (hg : W.grownBy w' v.ownBlock) : Below w.heap.size w w' := below_of_own0 hb ho hg
set_option maxHeartbeats 4000000 in
theorem walk (a0 : Option Addr) (cap0 : Nat) (xs0 : List (ByteArray × ByteArray)) (a1 : Int) (w : World) (L0 : xs0.length ≤ maxLen) (R0 : Reads w a0 2 encC xs0) (O0 : ∀ x ∈ xs0, okC x) (_W1 : (Lit.int .i64 a1).wf = true) (hL : laidMetH Tryd.prog Rows.fnExactOutsFromRow.laid w) :
    Calls Tryd.prog 11 #[.slice a0 xs0.length cap0, .int .i64 a1] w fun e w' => e = .returned (.bool true) ∧ Below w.heap.size w w' := by
  have HR0 := Lib.hid R0
  have HO0 := Lib.hid O0
  clear R0 O0
  have HTABS := Lib.hid (fun (W : World) (hW : Below w.heap.size w W) => Tabs.below ⟨dec_of_laid hL, ⟨syn_of_laid hL, ran_of_laid hL⟩, odd_of_laid hL⟩ hW)
  clear hL
  by_cases q0 : (1048576 : Int) < (bulkL bulkC xs0 : Nat)
  · have E0 := Lib.hid (szSub_no q0)
    go_enter Tryd.func11, Tryd.ntmps11
    go_wp2_with fail
    refine (szCellS_c _ _ _ _ (by omega) (by omega) _ L0 HR0.out HO0.out).mono ?_
    rintro e w1 ⟨rfl, hb1⟩
    have B1 : Below w.heap.size w w1 := (by repeat (first | exact Below.refl _ _ | refine Below.drew ?_ | refine below_drewN ?_ _ | refine Below.allocC ?_ _ | refine Below.setCell ?_ (by first | (simp; done) | (simp; omega)) _ | refine Below.chain ?_ (by assumption)))
    rw [E0.out]
    go_wp2
    go_ret
    exact ⟨rfl, (by repeat (first | exact Below.refl _ _ | refine Below.drew ?_ | refine below_drewN ?_ _ | refine Below.allocC ?_ _ | refine Below.setCell ?_ (by first | (simp; done) | (simp; omega)) _ | refine Below.chain ?_ (by assumption)))⟩
  have E0 := Lib.hid (szSub_yes (left := 1048576) (n := bulkL bulkC xs0) (by omega))
  have M0 : xs0.length ≤ 1048576 := by have := bulkL_ge bulkC xs0; omega
  go_enter Tryd.func11, Tryd.ntmps11
  go_wp2_with fail
  refine (szCellS_c _ _ _ _ (by omega) (by omega) _ L0 HR0.out HO0.out).mono ?_
  rintro e w1 ⟨rfl, hb1⟩
  have B1 : Below w.heap.size w w1 := (by repeat (first | exact Below.refl _ _ | refine Below.drew ?_ | refine below_drewN ?_ _ | refine Below.allocC ?_ _ | refine Below.setCell ?_ (by first | (simp; done) | (simp; omega)) _ | refine Below.chain ?_ (by assumption)))
  rw [E0.out]
  have HVS := Lib.hid (show ∀ x ∈ xs0, x.2.size ≤ 1048576 from fun x hx => by have h1 := bulkL_mem bulkC hx; have h2 : bulkC x = x.1.size + x.2.size := rfl; omega)
  have HKL := Lib.hid (show (outsF xs0 a1).length ≤ 1048577 from (by have := outsF_len xs0 a1; omega))
  go_wp2_with fail
  refine (toCellS_c _ _ _ _ M0 (HR0.out.below B1)).mono ?_
  rintro e w2 ⟨v2, rfl, o2, hb2⟩
  have B2 : Below w.heap.size w w2 := (by repeat (first | exact Below.refl _ _ | refine Below.drew ?_ | refine below_drewN ?_ _ | refine Below.allocC ?_ _ | refine Below.setCell ?_ (by first | (simp; done) | (simp; omega)) _ | refine Below.chain ?_ (by assumption)))
  obtain ⟨a2', c2', rfl, r2', k2', m2'⟩ := reads_of_owns' encC_len o2
  go_wp2_with fail
  refine (specOutsFrom_c _ _ _ _ _ M0 r2' HVS.out).mono ?_
  rintro e w3 ⟨v3, rfl, o3, hb3⟩
  have B3 : Below w.heap.size w w3 := (by repeat (first | exact Below.refl _ _ | refine Below.drew ?_ | refine below_drewN ?_ _ | refine Below.allocC ?_ _ | refine Below.setCell ?_ (by first | (simp; done) | (simp; omega)) _ | refine Below.chain ?_ (by assumption)))
  obtain ⟨a3', c3', rfl, r3', k3', m3'⟩ := reads_of_owns' encS_len o3
  go_wp2_with fail
  refine (toCellS_c _ _ _ _ M0 (HR0.out.below B3)).mono ?_
  rintro e w4 ⟨v4, rfl, o4, hb4⟩
  have B4 : Below w.heap.size w w4 := (by repeat (first | exact Below.refl _ _ | refine Below.drew ?_ | refine below_drewN ?_ _ | refine Below.allocC ?_ _ | refine Below.setCell ?_ (by first | (simp; done) | (simp; omega)) _ | refine Below.chain ?_ (by assumption)))
  obtain ⟨a4', c4', rfl, r4', k4', m4'⟩ := reads_of_owns' encC_len o4
  go_wp2_with fail
  refine (implOutsFrom_c _ _ _ _ _ M0 r4' HVS.out (HTABS.out _ B4)).mono ?_
  rintro e w5 ⟨v5, rfl, o5, hb5⟩
  have B5 : Below w.heap.size w w5 := (by repeat (first | exact Below.refl _ _ | refine Below.drew ?_ | refine below_drewN ?_ _ | refine Below.allocC ?_ _ | refine Below.setCell ?_ (by first | (simp; done) | (simp; omega)) _ | refine Below.chain ?_ (by assumption)))
  obtain ⟨a5', c5', rfl, r5', k5', m5'⟩ := reads_of_owns' encS_len o5
  go_wp2_with fail
  refine (eqStringS_c _ _ _ _ _ _ _ (Nat.le_trans HKL.out (by unfold maxLen; omega)) r5' ((r3'.below hb4).below hb5)).mono ?_
  rintro e w6 ⟨rfl, hb6⟩
  have B6 : Below w.heap.size w w6 := (by repeat (first | exact Below.refl _ _ | refine Below.drew ?_ | refine below_drewN ?_ _ | refine Below.allocC ?_ _ | refine Below.setCell ?_ (by first | (simp; done) | (simp; omega)) _ | refine Below.chain ?_ (by assumption)))
  rw [same_self]
  go_wp2_with fail
  refine (toCellS_c _ _ _ _ M0 (HR0.out.below B6)).mono ?_
  rintro e w7 ⟨v7, rfl, o7, hb7⟩
  have B7 : Below w.heap.size w w7 := (by repeat (first | exact Below.refl _ _ | refine Below.drew ?_ | refine below_drewN ?_ _ | refine Below.allocC ?_ _ | refine Below.setCell ?_ (by first | (simp; done) | (simp; omega)) _ | refine Below.chain ?_ (by assumption)))
  obtain ⟨a7', c7', rfl, r7', k7', m7'⟩ := reads_of_owns' encC_len o7
  go_wp2_with fail
  refine (eqCellS_c _ _ _ _ _ _ _ (by unfold maxLen; omega) (((r4'.below hb5).below hb6).below hb7) r7').mono ?_
  rintro e w8 ⟨rfl, hb8⟩
  have B8 : Below w.heap.size w w8 := (by repeat (first | exact Below.refl _ _ | refine Below.drew ?_ | refine below_drewN ?_ _ | refine Below.allocC ?_ _ | refine Below.setCell ?_ (by first | (simp; done) | (simp; omega)) _ | refine Below.chain ?_ (by assumption)))
  rw [same_self]
  have Q3 := Lib.hid (ownsRow_below (ownsRow_below (ownsRow_below (ownsRow_below (ownsRow_below o3 hb4) hb5) hb6) hb7) hb8)
  have Q4 := Lib.hid (ownsRow_below (ownsRow_below (ownsRow_below (ownsRow_below o4 hb5) hb6) hb7) hb8)
  have Q5 := Lib.hid (ownsRow_below (ownsRow_below (ownsRow_below o5 hb6) hb7) hb8)
  have S3 := Lib.hid o3
  have S4 := Lib.hid o4
  have S5 := Lib.hid o5
  have Z1 := Lib.hid hb1.size
  have Z2 := Lib.hid hb2.size
  have Z3 := Lib.hid hb3.size
  have Z4 := Lib.hid hb4.size
  have Z5 := Lib.hid hb5.size
  have Z6 := Lib.hid hb6.size
  have Z7 := Lib.hid hb7.size
  have Z8 := Lib.hid hb8.size
  clear r2' r3' r4' r5' r7'
  go_wp2_with fail
  refine (markCellS_c _ _ _ 1 _ _ (by omega) (by omega) Q4.out).mono ?_
  rintro e w9 ⟨rfl, oX, gX⟩
  have B9 : Below w.heap.size w w9 := below_of_own B8 (ownsRow_base Q4.out B3.size) gX
  have D1 := Lib.hid (own_keep Q3.out gX (fun b h1 h2 => by have := (S3.out.lt b h1).2; have := (Q4.out.lt b h2).1; have := Z3.out; omega))
  have D2 := Lib.hid (own_keep Q5.out gX (fun b h1 h2 => by have := (Q5.out.lt b h1).1; have := (S4.out.lt b h2).2; omega))
  obtain ⟨_, _, e1, t1⟩ := reads_of_owns encS_len D1.out
  cases e1
  obtain ⟨_, _, e2, t2⟩ := reads_of_owns encS_len D2.out
  cases e2
  clear oX gX
  generalize hkk : ((1 + 2 * xs0.length : Nat) : Int) = kk
  have pkk : ¬ kk < 0 := by omega
  clear hkk
  go_wp2_with fail
  refine (eqStringS_c _ _ _ _ _ _ _ (Nat.le_trans HKL.out (by unfold maxLen; omega)) t2 t1).mono ?_
  rintro e w10 ⟨rfl, hb10⟩
  have B10 : Below w.heap.size w w10 := (by repeat (first | exact Below.refl _ _ | refine Below.drew ?_ | refine below_drewN ?_ _ | refine Below.allocC ?_ _ | refine Below.setCell ?_ (by first | (simp; done) | (simp; omega)) _ | refine Below.chain ?_ (by assumption)))
  rw [same_self]
  go_wp2_with fail
  refine (markStringS_c _ _ _ 1 _ _ (by omega) (by have := HKL.out; omega) (ownsRow_below D2.out hb10)).mono ?_
  rintro e w11 ⟨rfl, oG, gG⟩
  have B11 : Below w.heap.size w w11 := below_of_own B10 (ownsRow_base (ownsRow_below D2.out hb10) B4.size) gG
  have D3 := Lib.hid (own_keep (ownsRow_below D1.out hb10) gG (fun b h1 h2 => by have := (S3.out.lt b h1).2; have := (D2.out.lt b h2).1; have := Z4.out; have := Z4.out; omega))
  have D4 := Lib.hid oG
  have e4 := reads_marks D4.out
  obtain ⟨_, _, e3, t3⟩ := reads_of_owns encS_len D3.out
  cases e3
  clear oG gG t1 t2
  obtain ⟨mm, hmm⟩ : ∃ mm : Int, ((1 + (outsF xs0 a1).length : Nat) : Int) = mm := ⟨_, rfl⟩
  have pmm : ¬ mm < 0 := by omega
  have HMM := Lib.hid hmm
  clear hmm
  rw [HMM.out]
  go_wp2_with fail
  refine (heldStringS_c _ _ _ 1 _ (by omega) (by have := HKL.out; omega) e4).mono ?_
  rintro e w12 ⟨rfl, hb12⟩
  have B12 : Below w.heap.size w w12 := (by repeat (first | exact Below.refl _ _ | refine Below.drew ?_ | refine below_drewN ?_ _ | refine Below.allocC ?_ _ | refine Below.setCell ?_ (by first | (simp; done) | (simp; omega)) _ | refine Below.chain ?_ (by assumption)))
  rw [HMM.out]
  go_wp2_with fail
  refine (toCellS_c _ _ _ _ M0 (HR0.out.below B12)).mono ?_
  rintro e w13 ⟨v13, rfl, o13, hb13⟩
  have B13 : Below w.heap.size w w13 := (by repeat (first | exact Below.refl _ _ | refine Below.drew ?_ | refine below_drewN ?_ _ | refine Below.allocC ?_ _ | refine Below.setCell ?_ (by first | (simp; done) | (simp; omega)) _ | refine Below.chain ?_ (by assumption)))
  obtain ⟨a13', c13', rfl, r13', k13', m13'⟩ := reads_of_owns' encC_len o13
  go_wp2_with fail
  refine (implOutsFrom_c _ _ _ _ _ M0 r13' HVS.out (HTABS.out _ B13)).mono ?_
  rintro e w14 ⟨v14, rfl, o14, hb14⟩
  have B14 : Below w.heap.size w w14 := (by repeat (first | exact Below.refl _ _ | refine Below.drew ?_ | refine below_drewN ?_ _ | refine Below.allocC ?_ _ | refine Below.setCell ?_ (by first | (simp; done) | (simp; omega)) _ | refine Below.chain ?_ (by assumption)))
  obtain ⟨a14', c14', rfl, r14', k14', m14'⟩ := reads_of_owns' encS_len o14
  go_wp2_with fail
  refine (eqStringS_c _ _ _ _ _ _ _ (Nat.le_trans HKL.out (by unfold maxLen; omega)) r14' (((t3.below hb12).below hb13).below hb14)).mono ?_
  rintro e w15 ⟨rfl, hb15⟩
  have B15 : Below w.heap.size w w15 := (by repeat (first | exact Below.refl _ _ | refine Below.drew ?_ | refine below_drewN ?_ _ | refine Below.allocC ?_ _ | refine Below.setCell ?_ (by first | (simp; done) | (simp; omega)) _ | refine Below.chain ?_ (by assumption)))
  rw [same_self]
  go_wp2_with fail
  refine (heldStringS_c _ _ _ 1 _ (by omega) (by have := HKL.out; omega) ((((e4.below hb12).below hb13).below hb14).below hb15)).mono ?_
  rintro e w16 ⟨rfl, hb16⟩
  have B16 : Below w.heap.size w w16 := (by repeat (first | exact Below.refl _ _ | refine Below.drew ?_ | refine below_drewN ?_ _ | refine Below.allocC ?_ _ | refine Below.setCell ?_ (by first | (simp; done) | (simp; omega)) _ | refine Below.chain ?_ (by assumption)))
  rw [HMM.out]
  go_wp2
  go_ret
  exact ⟨rfl, (by repeat (first | exact Below.refl _ _ | refine Below.drew ?_ | refine below_drewN ?_ _ | refine Below.allocC ?_ _ | refine Below.setCell ?_ (by first | (simp; done) | (simp; omega)) _ | refine Below.chain ?_ (by assumption)))⟩

/- SIG
theorem walk (a0 : Option Addr) (cap0 : Nat) (xs0 : List (ByteArray × ByteArray)) (a1 : Int) (w : World) (l0 : xs0.length ≤ maxLen) (r0 : Reads w a0 2 encC xs0) (w0 : ∀ x ∈ xs0, okC x) (w1 : (Lit.int .i64 a1).wf = true) (hL : laidMetH Tryd.prog Rows.fnExactOutsFromRow.laid w) :
    Calls Tryd.prog 11 #[.slice a0 xs0.length cap0, .int .i64 a1] w fun e w' => e = .returned (.bool true) ∧ Below w.heap.size w w' := by
-/
theorem own : ownKnob Tryd.prog.godebug = none := by kernel_rfl
theorem laidOut : laidOutB Tryd.prog = true := by kernel_rfl
theorem door_met (os : Os) (args : Array Value) : laidMetH Tryd.prog Rows.fnExactOutsFromRow.laid ((World.doorLaid Tryd.prog 400 os).forCall (fun _ _ => 0) ⟨#[], args, []⟩).memory :=
  laidMetH_of_parts3 (fuel := 8) (laidMet_of_run' 8 (by kernel_rfl) (by kernel_rfl)) (by kernel_rfl) (by kernel_rfl)
set_option maxRecDepth 100000 in
theorem lifted (os : Os) (started : os.Started) (H : Type) (enc : TypeId × Value → H) :
    ReturnsInHanded {} Tryd.checked os 11 .any (fun w args => (Rows.fnExactOutsFromSpec.pre enc Tryd.prog Tryd.f11 [] false w args ∧ laidMetH Tryd.prog Rows.fnExactOutsFromRow.laid w) ∧ sizedMet enc Tryd.prog Tryd.f11 (OpenSpec.ofChange Rows.fnExactOutsFromSpec) false w args)
      (Rows.fnExactOutsFromSpec.post enc Tryd.prog Tryd.f11 false true false false) := by
  refine returnsInHanded_of_change_and (C := Tryd.checked) (X := fun w _ => laidMetH Tryd.prog Rows.fnExactOutsFromRow.laid w) (fun _ _ _ hh h => h.of_heap hh) own started (by kernel_rfl) Tryd.func11
    (ChangeSpec.witness_shaped (enc := enc) (C := Tryd.checked) (os := os) (X := fun w _ => laidMetH Tryd.prog Rows.fnExactOutsFromRow.laid w) false (World.doorLaid Tryd.prog 400 os) #[.slice none 0 0, .int .i64 0] 8 rfl (World.shaped_of_RefB (by kernel_rfl) (by kernel_rfl)) (by kernel_rfl) (by kernel_rfl) (by kernel_rfl) (door_met os _)) ?_
  intro W base args ds gs before hval0 hW _ _ hL _
  have hval : ∀ (j : Nat) t v, Tryd.f11.params[j]? = some t → args[j]? = some v → Value.okWide Tryd.prog W .any base t v := hval0
  have hW' := hW
  obtain ⟨p, q, hA0, hV, rfl, hfz, hnd⟩ := hW
  have hA : DataW.TrodAll enc Tryd.prog W 0 (fun _ => true) true Tryd.f11.params.toList args.toList ds p := hA0
  rw [Tryd.params11] at hA hval
  obtain ⟨v0, vs0, d0, ds0, p0, q0, hargs, rfl, rfl, h0, g0⟩ := trodAll_cons hA
  obtain ⟨v1, vs1, d1, ds1, p1, q1, rfl, rfl, rfl, h1, g1⟩ := trodAll_cons g0
  obtain ⟨rfl, rfl, rfl⟩ := trodAll_nil g1
  obtain rfl : args = #[v0, v1] := by cases args; simp_all
  have hlen := trodVars_length hV
  obtain rfl : gs = [] := List.eq_nil_of_length_eq_zero hlen
  have k0 := h0
  have lt0 : ∀ x ∈ p0, x.block < W.heap.size := by obtain ⟨m, hm⟩ := k0; exact DataW.trod_lt m _ _ _ hm
  have k1 := h1
  have lt1 : ∀ x ∈ p1, x.block < W.heap.size := by obtain ⟨m, hm⟩ := k1; exact DataW.trod_lt m _ _ _ hm
  obtain ⟨a0, len0, cap0, rfl⟩ := okWide_slice Tryd.underlying44 (hval 0 44 v0 rfl rfl)
  obtain ⟨l0, xs0, rfl, r0, w0⟩ := open_rows encC okC 2 Tryd.underlying44 (by kernel_rfl) (by decide) (elem_cell Tryd.underlying81 (by kernel_rfl) Tryd.underlying9 Tryd.underlying9) h0
  obtain ⟨a1, rfl, _, _, w1⟩ := open_int Tryd.underlying3 (hval 1 3 v1 rfl rfl) h1
  clear hA0 hval0
  refine (walk a0 cap0 xs0 a1 W l0 r0 w0 w1 hL).mono fun e W' ⟨he, bel⟩ => ?_
  subst he
  exact ⟨_, rfl, _, _, _, [], _, _, hW', trodAll_mk1 (shut_bool Tryd.underlying4 _), (trodAll_cons_mk (Below.trod laidOut (by kernel_rfl) (of_decide_eq_true (by kernel_rfl)) k0 bel lt0) (trodAll_cons_mk (Below.trod laidOut (by kernel_rfl) (of_decide_eq_true (by kernel_rfl)) k1 bel lt1) trodAll_mk0)), Below.trodVars laidOut bel (by kernel_rfl) hV, bel.frame _, fun h => by cases h⟩
theorem over : Rows.fnExactOutsFromRow.holds Tryd.pinned (OpenSpec.ofChange Rows.fnExactOutsFromSpec) :=
  OpenClaim.holds_of_wide 11 Tryd.f11 rfl rfl rfl rfl rfl rfl rfl ⟨rfl, rfl, rfl, rfl, rfl⟩ rfl rfl rfl rfl rfl (by kernel_rfl) Tryd.func11 (by kernel_rfl)
    (of_decide_eq_true (by kernel_rfl)) (by unfold Func.isWrapper; first | (rw [if_pos (by decide +kernel)]; kernel_rfl) | (rw [if_neg (by decide +kernel)]; exact ⟨rfl, rfl⟩))
    (fun os started H enc _ => lifted os started H enc)
theorem proved : Rows.FnExactOutsFromCardSaid :=
  Claim7.holds_tied_plain_at .later [] [.data, .data, .data, .sentinel, .sentinel, .sentinel] true (true, "a394b0db006c70c03e36c392521b106b757790137339a8f1ab7d24a56b76f51b") true
    over (fun _ h => by cases h) (by kernel_rfl) (fun _ h => by cases h) fnExactOutsFrom_row_tie rfl ⟨rfl, rfl⟩ (by kernel_rfl) rfl
    (fun f fn hf hfn => by
      obtain rfl : f = 11 := Option.some.inj ((show Tryd.prog.funcNamed "loop.example/g00974/laws.FnExactOutsFrom" = some 11 by kernel_rfl).symm.trans hf) |>.symm
      obtain rfl : fn = Tryd.f11 := (Option.some.inj (Tryd.func11.symm.trans hfn)).symm
      exact ⟨by kernel_rfl, fun j t ht => by
        rw [Tryd.params11] at ht
        have hm : t ∈ [3, 44] := by
          have this := Array.mem_of_getElem? ht
          simp only [List.mem_toArray, List.mem_cons, List.not_mem_nil, or_false] at this ⊢
          all_goals first | assumption | (rcases this with h | h <;> simp [h])
        have hall : ([3, 44].all fun u => !Tryd.prog.wantsStandIn u) = true := by kernel_rfl
        exact (show Tryd.prog.wantsStandIn t = false by simpa using List.all_eq_true.1 hall t hm)⟩)
    (by kernel_rfl)
#print axioms proved

end Go.Proofs.YtedbmmoddemngaaDoor.fnExactOutsFrom
