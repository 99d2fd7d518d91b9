/- FnCallsTold: what a call does not use counts for nothing, and each kind has its own name, where the program's table of names starts as its text lays it. -/
import Derived.Test.YtedbmmoddemngaaDoorCards
import Derived.Test.YtedbmmoddemngaaDoorTie
import Derived.Test.YtedbmmoddemngaaDoorCallName
import Derived.Test.YtedbmmoddemngaaDoorDrawX2
import Derived.Test.YtedbmmoddemngaaDoorSameCall
import Derived.Test.YtedbmmoddemngaaDoorCallOk
import Derived.Test.YtedbmmoddemngaaDoorCallEq
import Derived.Test.YtedbmmoddemngaaDoorLooks
import Derived.Test.YtedbmmoddemngaaDoorBig
import Derived.LaidMore
import Derived.OpenVars
import Derived.Stop.Joined
import Derived.SevenTiedAt
import Derived.Lib.LaidU8
import Derived.LaidLaws
import Derived.Lib.Hide
import Derived.Deep.RegionHeld3
import Derived.Deep.DrawnRows
namespace Go.Proofs.YtedbmmoddemngaaDoor.fnCallsTold
open Go.ChangeShapes Go.WideShapes Go.ChangeAt Go.RowKit
open Go.ChangeMaps (open_string shut_string)
attribute [local go_sem ↓] Go.wp_at_zero Go.wp_at_succ
theorem names_of_laid {w : World} (h : laidMetH Tryd.prog Rows.fnCallsToldRow.laid w) : NameCells w 0 := by
  rw [MakeChecks.laidMetH_plain _ _ _ (by kernel_rfl)] at h
  obtain ⟨g, t, cs, fuel, p, hg, ht, hv, hd⟩ := Lib.laidMet.reads h (n := "loop.example/g00974/impl.callNames") (d := Rows.laid_loop_example_g00974_impl_callNames) (by repeat (first | exact List.Mem.head _ | apply List.Mem.tail))
  obtain rfl := Option.some.inj ((show Tryd.prog.globalNamed "loop.example/g00974/impl.callNames" = some 0 by kernel_rfl).symm.trans hg)
  obtain rfl := Option.some.inj ((show (Tryd.prog.globals[0]?).map (·.type) = some 90 by kernel_rfl).symm.trans ht)
  intro j l hl
  have hj : j < 22 := (List.getElem?_eq_some_iff.1 hl).1
  obtain ⟨fuel', d, q, h1, h2⟩ := Lib.array_elem Tryd.underlying90 hd j hj
  obtain ⟨s, e1, e2, _⟩ := DataW.trod_string Tryd.underlying9 h2
  have hc : Tryd.prog.cellsOf 9 = 1 := by kernel_rfl
  rw [hc, Nat.mul_one] at e1
  have e3 : cs[j]? = some (.string s) := by
    have := congrArg (·[0]?) e1
    simpa [List.getElem?_take, List.getElem?_drop] using this
  have e4 : (nameTab.map fun l => (DataW.lit (.string l) : DataW Unit))[j]? = some d := h1
  rw [List.getElem?_map, hl] at e4
  simp only [Prod.mk.injEq] at e2
  rw [e2.1] at e4
  simp at e4
  rw [World.var?_cell hg hv j, e3, e4]
theorem strIf_twice (b : Bool) (s : ByteArray) : strIf b (strIf b s) = strIf b s := by cases b <;> rfl
theorem intIf_twice (b : Bool) (n : Int) : intIf b (intIf b n) = intIf b n := by cases b <;> rfl
theorem told_twice (x : Cal) : toldOf (toldOf x) = toldOf x := by
  have : toldOf (toldOf x) = ⟨x.kind, strIf (useN x.kind) (strIf (useN x.kind) x.name), strIf (useT x.kind) (strIf (useT x.kind) x.dest), intIf (useA x.kind) (intIf (useA x.kind) x.a), intIf (useB x.kind) (intIf (useB x.kind) x.b), strIf (useX x.kind) (strIf (useX x.kind) x.text)⟩ := rfl
  rw [this, strIf_twice, strIf_twice, strIf_twice, intIf_twice, intIf_twice]
  rfl
def nameNe : Bool := (List.range 23).all fun i => (List.range i).all fun n => n == 0 || !((callNameOf (i : Int)).toList == (callNameOf (n : Int)).toList)
theorem nameNe_yes : nameNe = true := by kernel_rfl
theorem names_ne {i m : Nat} (h1 : 1 ≤ m) (h2 : m < i) (h3 : i ≤ 22) : ((callNameOf (i : Int)).toList == (callNameOf (m : Int)).toList) = false := by
  have h := nameNe_yes
  unfold nameNe at h
  have a := List.all_eq_true.1 h i (List.mem_range.2 (by omega))
  have b := List.all_eq_true.1 a m (List.mem_range.2 h2)
  rw [Bool.or_eq_true] at b
  rcases b with b | b
  · simp at b; omega
  · simpa using b
/-- The five boxes stand, and the older world. -/
structure Hold5 (w0 : World) (b1 b2 b5 b6 b8 : Nat) (F1 F2 F5 F6 F8 : List Value) (W : World) : Prop where
  x1 : Box W b1 F1
  x2 : Box W b2 F2
  x5 : Box W b5 F5
  x6 : Box W b6 F6
  x8 : Box W b8 F8
  bel : Below w0.heap.size w0 W
theorem Hold5.below {w0 W W' : World} {b1 b2 b5 b6 b8 : Nat} {F1 F2 F5 F6 F8 : List Value} (h : Hold5 w0 b1 b2 b5 b6 b8 F1 F2 F5 F6 F8 W) (hb : Below W.heap.size W W') : Hold5 w0 b1 b2 b5 b6 b8 F1 F2 F5 F6 F8 W' :=
  ⟨h.x1.below hb, h.x2.below hb, h.x5.below hb, h.x6.below hb, h.x8.below hb, h.bel.trans (hb.mono h.bel.size)⟩
theorem Hold5.drew {w0 W : World} {b1 b2 b5 b6 b8 : Nat} {F1 F2 F5 F6 F8 : List Value} (h : Hold5 w0 b1 b2 b5 b6 b8 F1 F2 F5 F6 F8 W) : Hold5 w0 b1 b2 b5 b6 b8 F1 F2 F5 F6 F8 W.drew := h.below (by repeat (first | exact Below.refl _ _ | refine Below.drew ?_ | refine below_drewN ?_ _ | refine Below.allocC ?_ _ | refine Below.setCell ?_ (by first | (simp; done) | (simp; omega)) _ | refine Below.chain ?_ (by assumption)))
theorem name_out : callNameOf 22 = ⟨#[111, 117, 116]⟩ := by kernel_rfl
set_option maxRecDepth 100000 in
set_option maxHeartbeats 8000000 in
theorem walk (a0 : Option Addr) (len0 cap0 : Nat) (z0 : List Int) (w : World) (w0 : IsRow .u8 w a0 len0 cap0 z0) (hL : laidMetH Tryd.prog Rows.fnCallsToldRow.laid w) :
    Calls Tryd.prog 12 #[.slice a0 len0 cap0] w fun e w' => e = .returned (.bool true) ∧ Below w.heap.size w w' := by
  have HT := Lib.hid (fun (W : World) (hW : Below w.heap.size w W) => (show NameCells W 0 from fun j l hl => keepS hW (names_of_laid hL j l hl)))
  clear hL
  have HZ := Lib.hid w0
  clear w0
  by_cases hbig : 1048576 < len0
  · have KB := Lib.hid (fun W => big_yes a0 len0 cap0 W hbig)
    go_enter Tryd.func12, Tryd.ntmps12
    go_wp2_with fail
    refine (KB.out _).mono ?_
    rintro e w1 ⟨rfl, rfl⟩
    go_wp2
    go_ret
    exact ⟨rfl, Below.refl _ _⟩
  · have KB := Lib.hid (fun W => big_no a0 len0 cap0 W (by omega))
    have KD1 := Lib.hid (drawTold_c a0 len0 cap0 z0 w HZ.out)
    go_enter Tryd.func12, Tryd.ntmps12
    go_wp2_with fail
    refine (KB.out _).mono ?_
    rintro e w1 ⟨rfl, rfl⟩
    go_wp2_with fail
    refine KD1.out.mono ?_
    rintro e w1 ⟨v, rfl, ⟨ck, cn, cd, ca, cb, ct, rfl, _, _, _⟩, hb1⟩
    have HB1 := Lib.hid hb1
    have B1 := Lib.hid (Box.new w1 (fieldsV ck cn cd ca cb ct) 59)
    clear hb1 KD1
    obtain ⟨y, hy⟩ : ∃ y, toldOf ⟨ck, cn, cd, ca, cb, ct⟩ = y := ⟨_, rfl⟩
    have hyy : toldOf y = y := by rw [← hy]; exact told_twice _
    have hyk : ck = y.kind := by rw [← hy]; rfl
    have KT1 := Lib.hid (fun W => specTold_c ⟨ck, cn, cd, ca, cb, ct⟩ W)
    have KT2 := Lib.hid (fun W => implTold_c ⟨ck, cn, cd, ca, cb, ct⟩ W)
    have KT3 := Lib.hid (fun W => implTold_c y W)
    rw [hyy] at KT3
    rw [hy] at KT1 KT2
    clear hy hyy
    obtain ⟨yk, yn, yd, ya, yb, yt⟩ := y
    dsimp only at hyk KT1 KT2 KT3
    subst hyk
    go_wp2_with fail
    refine (KT2.out _).mono ?_
    rintro e w2 ⟨rfl, hb2⟩
    have HB2 := Lib.hid (show Below w.heap.size w w2 from (HB1.out.trans ((show Below w1.heap.size w1 (w1.alloc (.cells (fieldsV ck cn cd ca cb ct).toArray 59)) from (by repeat (first | exact Below.refl _ _ | refine Below.drew ?_ | refine below_drewN ?_ _ | refine Below.allocC ?_ _ | refine Below.setCell ?_ (by first | (simp; done) | (simp; omega)) _ | refine Below.chain ?_ (by assumption)))).mono HB1.out.size)).trans (hb2.mono (Nat.le_trans HB1.out.size (show Below w1.heap.size w1 (w1.alloc (.cells (fieldsV ck cn cd ca cb ct).toArray 59)) from (by repeat (first | exact Below.refl _ _ | refine Below.drew ?_ | refine below_drewN ?_ _ | refine Below.allocC ?_ _ | refine Below.setCell ?_ (by first | (simp; done) | (simp; omega)) _ | refine Below.chain ?_ (by assumption)))).size)))
    have B12 := Lib.hid ((B1.out.below hb2).alloc (.cells (fieldsV ck yn yd ya yb yt).toArray 59))
    have B2 := Lib.hid (Box.new w2 (fieldsV ck yn yd ya yb yt) 59)
    clear hb2 B1 HB1 KT2
    have HBA := Lib.hid (show Below w.heap.size w (w2.alloc (.cells (fieldsV ck yn yd ya yb yt).toArray 59)) from HB2.out.trans ((show Below w2.heap.size w2 (w2.alloc (.cells (fieldsV ck yn yd ya yb yt).toArray 59)) from (by repeat (first | exact Below.refl _ _ | refine Below.drew ?_ | refine below_drewN ?_ _ | refine Below.allocC ?_ _ | refine Below.setCell ?_ (by first | (simp; done) | (simp; omega)) _ | refine Below.chain ?_ (by assumption)))).mono HB2.out.size))
    have KD2 := Lib.hid (drawSameCall_c a0 len0 cap0 z0 (w2.alloc (.cells (fieldsV ck yn yd ya yb yt).toArray 59)) (rowBelow HZ.out HBA.out))
    go_wp2_with fail
    refine KD2.out.mono ?_
    rintro e w3 ⟨v1, v2, rfl, ⟨ak, an, ad, aa, ab, at1, rfl, _, _, _⟩, ⟨bk, bn, bd, ba, bb, bt, rfl, _, _, _⟩, hb3⟩
    have B13 := Lib.hid (B12.out.below hb3)
    have B23 := Lib.hid (B2.out.below hb3)
    have HB3 := Lib.hid (HBA.out.trans (hb3.mono HBA.out.size))
    clear hb3 B12 B2 HB2 HBA KD2
    have HBB := Lib.hid (show Below w.heap.size w ((w3.alloc (.cells #[.int .i64 ak, .string an, .string ad, .int .i64 aa, .int .i64 ab, .string at1] 59)).alloc (.cells #[.int .i64 bk, .string bn, .string bd, .int .i64 ba, .int .i64 bb, .string bt] 59)) from HB3.out.trans ((show Below w3.heap.size w3 ((w3.alloc (.cells #[.int .i64 ak, .string an, .string ad, .int .i64 aa, .int .i64 ab, .string at1] 59)).alloc (.cells #[.int .i64 bk, .string bn, .string bd, .int .i64 ba, .int .i64 bb, .string bt] 59)) from (by repeat (first | exact Below.refl _ _ | refine Below.drew ?_ | refine below_drewN ?_ _ | refine Below.allocC ?_ _ | refine Below.setCell ?_ (by first | (simp; done) | (simp; omega)) _ | refine Below.chain ?_ (by assumption)))).mono HB3.out.size))
    have A3 : Box ((w3.alloc (.cells #[.int .i64 ak, .string an, .string ad, .int .i64 aa, .int .i64 ab, .string at1] 59)).alloc (.cells #[.int .i64 bk, .string bn, .string bd, .int .i64 ba, .int .i64 bb, .string bt] 59)) w3.heap.size (fieldsV ak an ad aa ab at1) := (Box.new w3 (fieldsV ak an ad aa ab at1) 59).alloc _
    have BB3 : Box ((w3.alloc (.cells #[.int .i64 ak, .string an, .string ad, .int .i64 aa, .int .i64 ab, .string at1] 59)).alloc (.cells #[.int .i64 bk, .string bn, .string bd, .int .i64 ba, .int .i64 bb, .string bt] 59)) (w3.heap.size + 1) (fieldsV bk bn bd ba bb bt) := by
      have h := Box.new (w3.alloc (.cells #[.int .i64 ak, .string an, .string ad, .int .i64 aa, .int .i64 ab, .string at1] 59)) (fieldsV bk bn bd ba bb bt) 59
      rw [show ((w3.alloc (.cells #[.int .i64 ak, .string an, .string ad, .int .i64 aa, .int .i64 ab, .string at1] 59))).heap.size = w3.heap.size + 1 by simp] at h
      exact h
    have B14 : Box ((w3.alloc (.cells #[.int .i64 ak, .string an, .string ad, .int .i64 aa, .int .i64 ab, .string at1] 59)).alloc (.cells #[.int .i64 bk, .string bn, .string bd, .int .i64 ba, .int .i64 bb, .string bt] 59)) w1.heap.size (fieldsV ck cn cd ca cb ct) := (B13.out.alloc _).alloc _
    have B24 : Box ((w3.alloc (.cells #[.int .i64 ak, .string an, .string ad, .int .i64 aa, .int .i64 ab, .string at1] 59)).alloc (.cells #[.int .i64 bk, .string bn, .string bd, .int .i64 ba, .int .i64 bb, .string bt] 59)) w2.heap.size (fieldsV ck yn yd ya yb yt) := (B23.out.alloc _).alloc _
    have HA3 := Lib.hid A3
    have HBB3 := Lib.hid BB3
    have HB14 := Lib.hid B14
    have HB24 := Lib.hid B24
    clear A3 BB3 B14 B24 B13 B23 HB3
    have KD3 := Lib.hid (drawCallName_c a0 len0 cap0 z0 ((w3.alloc (.cells #[.int .i64 ak, .string an, .string ad, .int .i64 aa, .int .i64 ab, .string at1] 59)).alloc (.cells #[.int .i64 bk, .string bn, .string bd, .int .i64 ba, .int .i64 bb, .string bt] 59)) (rowBelow HZ.out HBB.out))
    go_wp2_with fail
    refine KD3.out.mono ?_
    rintro e w4 ⟨nk, rfl, _, _, hb4⟩
    have A4 := Lib.hid (HA3.out.below hb4)
    have BB4 := Lib.hid (HBB3.out.below hb4)
    have B15 := Lib.hid (HB14.out.below hb4)
    have B25 := Lib.hid (HB24.out.below hb4)
    have HB4 := Lib.hid (HBB.out.trans (hb4.mono HBB.out.size))
    clear hb4 HA3 HBB3 HB14 HB24 HBB KD3
    have KD4 := Lib.hid (drawCallOk_c a0 len0 cap0 z0 w4 (rowBelow HZ.out HB4.out))
    go_wp2_with fail
    refine KD4.out.mono ?_
    rintro e w5 ⟨v, rfl, ⟨xk, xn, xd, xa, xb, xt, rfl, x1, x2, x3⟩, hb5⟩
    have HL := Lib.hid (show Hold5 w w1.heap.size w2.heap.size w3.heap.size (w3.heap.size + 1) w5.heap.size (fieldsV ck cn cd ca cb ct) (fieldsV ck yn yd ya yb yt) (fieldsV ak an ad aa ab at1) (fieldsV bk bn bd ba bb bt) (fieldsV xk xn xd xa xb xt) (w5.alloc (.cells #[.int .i64 xk, .string xn, .string xd, .int .i64 xa, .int .i64 xb, .string xt] 59)) from ⟨(B15.out.below hb5).alloc _, (B25.out.below hb5).alloc _, (A4.out.below hb5).alloc _, (BB4.out.below hb5).alloc _, Box.new w5 (fieldsV xk xn xd xa xb xt) 59, (HB4.out.trans (hb5.mono HB4.out.size)).trans (Below.mono (show Below w5.heap.size w5 (w5.alloc (.cells #[.int .i64 xk, .string xn, .string xd, .int .i64 xa, .int .i64 xb, .string xt] 59)) from (by repeat (first | exact Below.refl _ _ | refine Below.drew ?_ | refine below_drewN ?_ _ | refine Below.allocC ?_ _ | refine Below.setCell ?_ (by first | (simp; done) | (simp; omega)) _ | refine Below.chain ?_ (by assumption)))) (Nat.le_trans HB4.out.size hb5.size))⟩)
    have KO1 := Lib.hid (fun W => implCallOk_c ⟨xk, xn, xd, xa, xb, xt⟩ (by show _ ≤ maxLen; unfold maxLen; show xn.size ≤ _; omega) (by show _ ≤ maxLen; unfold maxLen; show xd.size ≤ _; omega) (by show _ ≤ maxLen; unfold maxLen; show xt.size ≤ _; omega) W)
    have KO2 := Lib.hid (fun W => specCallOk_c ⟨xk, xn, xd, xa, xb, xt⟩ (by show _ ≤ maxLen; unfold maxLen; show xn.size ≤ _; omega) (by show _ ≤ maxLen; unfold maxLen; show xd.size ≤ _; omega) (by show _ ≤ maxLen; unfold maxLen; show xt.size ≤ _; omega) W)
    clear hb5 A4 BB4 B15 B25 HB4 KD4 x1 x2 x3
    generalize callOkB ⟨xk, xn, xd, xa, xb, xt⟩ = ob at *
    go_wp2
    go_loopw [9] (fun v wr => ∃ i : Nat, 1 ≤ i ∧ i ≤ 23 ∧ v = .int .i64 i ∧ Hold5 w w1.heap.size w2.heap.size w3.heap.size (w3.heap.size + 1) w5.heap.size (fieldsV ck cn cd ca cb ct) (fieldsV ck yn yd ya yb yt) (fieldsV ak an ad aa ab at1) (fieldsV bk bn bd ba bb bt) (fieldsV xk xn xd xa xb xt) wr) (fun v _ => 23 - (intOf v).toNat)
    case atStart => exact ⟨1, by omega, by omega, rfl, HL.out⟩
    case round =>
      obtain ⟨i, i1, i2, rfl, hh⟩ := hrel
      by_cases hlt : i ≤ 22
      · have p1 : (i : Int) ≤ 22 := by omega
        obtain ⟨wo, hwo⟩ : ∃ wo : World, wo = wr := ⟨_, rfl⟩
        subst hwo
        go_wp2
        go_loopw [10] (fun v wr => ∃ m : Nat, 1 ≤ m ∧ m ≤ i ∧ v = .int .i64 m ∧ Hold5 w w1.heap.size w2.heap.size w3.heap.size (w3.heap.size + 1) w5.heap.size (fieldsV ck cn cd ca cb ct) (fieldsV ck yn yd ya yb yt) (fieldsV ak an ad aa ab at1) (fieldsV bk bn bd ba bb bt) (fieldsV xk xn xd xa xb xt) wr) (fun v _ => i - (intOf v).toNat)
        case atStart => exact ⟨1, by omega, by omega, rfl, hh⟩
        case round =>
          obtain ⟨m, m1, m2, rfl, hi⟩ := hrel
          by_cases hm : m < i
          · have p2 : (m : Int) < (i : Int) := by omega
            have hne := names_ne m1 hm hlt
            have KC1 := Lib.hid (fun W (h : Below w.heap.size w W) => implCallName_c (i : Int) W (HT.out W h))
            have KC2 := Lib.hid (fun W (h : Below w.heap.size w W) => implCallName_c (m : Int) W (HT.out W h))
            generalize callNameOf (i : Int) = si at *
            generalize callNameOf (m : Int) = sm at *
            have HI := Lib.hid hi
            clear hh hi
            go_wp2_with fail
            refine (KC1.out _ HI.out.bel).mono ?_
            rintro e w6 ⟨rfl, hb6⟩
            have HI6 := Lib.hid (HI.out.below hb6)
            clear hb6 HI
            go_wp2_with fail
            refine (KC2.out _ HI6.out.bel).mono ?_
            rintro e w7 ⟨rfl, hb7⟩
            have HI7 := Lib.hid (HI6.out.below hb7)
            clear hb7 HI6
            go_wp2
            go_roundw
            case rel => exact ⟨m + 1, by omega, by omega, by go_num, HI7.out⟩
            case measure => simp [intOf]; omega
          · have p2 : ¬ (m : Int) < (i : Int) := by omega
            go_wp2
            go_roundw
            case rel => exact ⟨i + 1, by omega, by omega, by go_num, hi⟩
            case measure => simp [intOf]; omega
      · have p1 : ¬ (i : Int) ≤ 22 := by omega
        have KCk := Lib.hid (fun W (h : Below w.heap.size w W) => implCallName_c nk W (HT.out W h))
        have KCs := Lib.hid (fun W => specCallName_c nk W)
        have KCo := Lib.hid (fun W (h : Below w.heap.size w W) => implCallName_c 22 W (HT.out W h))
        rw [name_out] at KCo
        generalize callNameOf nk = sk at *
        have KL1 := Lib.hid (fun W => implLooks_c nk W)
        have KL2 := Lib.hid (fun W => specLooks_c nk W)
        generalize looksB nk = lb at *
        have KL6 := Lib.hid (fun W => (show Calls Tryd.prog 52 #[.int .i64 6] W fun e w' => e = .returned (.bool true) ∧ W = w' from implLooks_c 6 W))
        have KSC := Lib.hid (fun W => implSameCall_c ⟨ak, an, ad, aa, ab, at1⟩ ⟨bk, bn, bd, ba, bb, bt⟩ W)
        have HQ := fun W => eqCal_run ⟨ak, an, ad, aa, ab, at1⟩ ⟨bk, bn, bd, ba, bb, bt⟩ W
        generalize same (⟨ak, an, ad, aa, ab, at1⟩ : Cal) ⟨bk, bn, bd, ba, bb, bt⟩ = bs at *
        dsimp only at KSC HQ
        have HQ1 := fun W => eqCal_run ⟨ck, yn, yd, ya, yb, yt⟩ ⟨ck, yn, yd, ya, yb, yt⟩ W
        rw [same_self] at HQ1
        dsimp only at HQ1
        clear HT HZ hlt i1 i2
        have r00 : ∀ W, Hold5 w w1.heap.size w2.heap.size w3.heap.size (w3.heap.size + 1) w5.heap.size (fieldsV ck cn cd ca cb ct) (fieldsV ck yn yd ya yb yt) (fieldsV ak an ad aa ab at1) (fieldsV bk bn bd ba bb bt) (fieldsV xk xn xd xa xb xt) W → W.cell? ⟨w1.heap.size, 0, none⟩ = some (.int .i64 ck) := fun W h => h.x1.cell 0 _ rfl
        have r01 : ∀ W, Hold5 w w1.heap.size w2.heap.size w3.heap.size (w3.heap.size + 1) w5.heap.size (fieldsV ck cn cd ca cb ct) (fieldsV ck yn yd ya yb yt) (fieldsV ak an ad aa ab at1) (fieldsV bk bn bd ba bb bt) (fieldsV xk xn xd xa xb xt) W → W.cell? ⟨w1.heap.size, 1, none⟩ = some (.string cn) := fun W h => h.x1.cell 1 _ rfl
        have r02 : ∀ W, Hold5 w w1.heap.size w2.heap.size w3.heap.size (w3.heap.size + 1) w5.heap.size (fieldsV ck cn cd ca cb ct) (fieldsV ck yn yd ya yb yt) (fieldsV ak an ad aa ab at1) (fieldsV bk bn bd ba bb bt) (fieldsV xk xn xd xa xb xt) W → W.cell? ⟨w1.heap.size, 2, none⟩ = some (.string cd) := fun W h => h.x1.cell 2 _ rfl
        have r03 : ∀ W, Hold5 w w1.heap.size w2.heap.size w3.heap.size (w3.heap.size + 1) w5.heap.size (fieldsV ck cn cd ca cb ct) (fieldsV ck yn yd ya yb yt) (fieldsV ak an ad aa ab at1) (fieldsV bk bn bd ba bb bt) (fieldsV xk xn xd xa xb xt) W → W.cell? ⟨w1.heap.size, 3, none⟩ = some (.int .i64 ca) := fun W h => h.x1.cell 3 _ rfl
        have r04 : ∀ W, Hold5 w w1.heap.size w2.heap.size w3.heap.size (w3.heap.size + 1) w5.heap.size (fieldsV ck cn cd ca cb ct) (fieldsV ck yn yd ya yb yt) (fieldsV ak an ad aa ab at1) (fieldsV bk bn bd ba bb bt) (fieldsV xk xn xd xa xb xt) W → W.cell? ⟨w1.heap.size, 4, none⟩ = some (.int .i64 cb) := fun W h => h.x1.cell 4 _ rfl
        have r05 : ∀ W, Hold5 w w1.heap.size w2.heap.size w3.heap.size (w3.heap.size + 1) w5.heap.size (fieldsV ck cn cd ca cb ct) (fieldsV ck yn yd ya yb yt) (fieldsV ak an ad aa ab at1) (fieldsV bk bn bd ba bb bt) (fieldsV xk xn xd xa xb xt) W → W.cell? ⟨w1.heap.size, 5, none⟩ = some (.string ct) := fun W h => h.x1.cell 5 _ rfl
        have r10 : ∀ W, Hold5 w w1.heap.size w2.heap.size w3.heap.size (w3.heap.size + 1) w5.heap.size (fieldsV ck cn cd ca cb ct) (fieldsV ck yn yd ya yb yt) (fieldsV ak an ad aa ab at1) (fieldsV bk bn bd ba bb bt) (fieldsV xk xn xd xa xb xt) W → W.cell? ⟨w2.heap.size, 0, none⟩ = some (.int .i64 ck) := fun W h => h.x2.cell 0 _ rfl
        have r11 : ∀ W, Hold5 w w1.heap.size w2.heap.size w3.heap.size (w3.heap.size + 1) w5.heap.size (fieldsV ck cn cd ca cb ct) (fieldsV ck yn yd ya yb yt) (fieldsV ak an ad aa ab at1) (fieldsV bk bn bd ba bb bt) (fieldsV xk xn xd xa xb xt) W → W.cell? ⟨w2.heap.size, 1, none⟩ = some (.string yn) := fun W h => h.x2.cell 1 _ rfl
        have r12 : ∀ W, Hold5 w w1.heap.size w2.heap.size w3.heap.size (w3.heap.size + 1) w5.heap.size (fieldsV ck cn cd ca cb ct) (fieldsV ck yn yd ya yb yt) (fieldsV ak an ad aa ab at1) (fieldsV bk bn bd ba bb bt) (fieldsV xk xn xd xa xb xt) W → W.cell? ⟨w2.heap.size, 2, none⟩ = some (.string yd) := fun W h => h.x2.cell 2 _ rfl
        have r13 : ∀ W, Hold5 w w1.heap.size w2.heap.size w3.heap.size (w3.heap.size + 1) w5.heap.size (fieldsV ck cn cd ca cb ct) (fieldsV ck yn yd ya yb yt) (fieldsV ak an ad aa ab at1) (fieldsV bk bn bd ba bb bt) (fieldsV xk xn xd xa xb xt) W → W.cell? ⟨w2.heap.size, 3, none⟩ = some (.int .i64 ya) := fun W h => h.x2.cell 3 _ rfl
        have r14 : ∀ W, Hold5 w w1.heap.size w2.heap.size w3.heap.size (w3.heap.size + 1) w5.heap.size (fieldsV ck cn cd ca cb ct) (fieldsV ck yn yd ya yb yt) (fieldsV ak an ad aa ab at1) (fieldsV bk bn bd ba bb bt) (fieldsV xk xn xd xa xb xt) W → W.cell? ⟨w2.heap.size, 4, none⟩ = some (.int .i64 yb) := fun W h => h.x2.cell 4 _ rfl
        have r15 : ∀ W, Hold5 w w1.heap.size w2.heap.size w3.heap.size (w3.heap.size + 1) w5.heap.size (fieldsV ck cn cd ca cb ct) (fieldsV ck yn yd ya yb yt) (fieldsV ak an ad aa ab at1) (fieldsV bk bn bd ba bb bt) (fieldsV xk xn xd xa xb xt) W → W.cell? ⟨w2.heap.size, 5, none⟩ = some (.string yt) := fun W h => h.x2.cell 5 _ rfl
        have r20 : ∀ W, Hold5 w w1.heap.size w2.heap.size w3.heap.size (w3.heap.size + 1) w5.heap.size (fieldsV ck cn cd ca cb ct) (fieldsV ck yn yd ya yb yt) (fieldsV ak an ad aa ab at1) (fieldsV bk bn bd ba bb bt) (fieldsV xk xn xd xa xb xt) W → W.cell? ⟨w3.heap.size, 0, none⟩ = some (.int .i64 ak) := fun W h => h.x5.cell 0 _ rfl
        have r21 : ∀ W, Hold5 w w1.heap.size w2.heap.size w3.heap.size (w3.heap.size + 1) w5.heap.size (fieldsV ck cn cd ca cb ct) (fieldsV ck yn yd ya yb yt) (fieldsV ak an ad aa ab at1) (fieldsV bk bn bd ba bb bt) (fieldsV xk xn xd xa xb xt) W → W.cell? ⟨w3.heap.size, 1, none⟩ = some (.string an) := fun W h => h.x5.cell 1 _ rfl
        have r22 : ∀ W, Hold5 w w1.heap.size w2.heap.size w3.heap.size (w3.heap.size + 1) w5.heap.size (fieldsV ck cn cd ca cb ct) (fieldsV ck yn yd ya yb yt) (fieldsV ak an ad aa ab at1) (fieldsV bk bn bd ba bb bt) (fieldsV xk xn xd xa xb xt) W → W.cell? ⟨w3.heap.size, 2, none⟩ = some (.string ad) := fun W h => h.x5.cell 2 _ rfl
        have r23 : ∀ W, Hold5 w w1.heap.size w2.heap.size w3.heap.size (w3.heap.size + 1) w5.heap.size (fieldsV ck cn cd ca cb ct) (fieldsV ck yn yd ya yb yt) (fieldsV ak an ad aa ab at1) (fieldsV bk bn bd ba bb bt) (fieldsV xk xn xd xa xb xt) W → W.cell? ⟨w3.heap.size, 3, none⟩ = some (.int .i64 aa) := fun W h => h.x5.cell 3 _ rfl
        have r24 : ∀ W, Hold5 w w1.heap.size w2.heap.size w3.heap.size (w3.heap.size + 1) w5.heap.size (fieldsV ck cn cd ca cb ct) (fieldsV ck yn yd ya yb yt) (fieldsV ak an ad aa ab at1) (fieldsV bk bn bd ba bb bt) (fieldsV xk xn xd xa xb xt) W → W.cell? ⟨w3.heap.size, 4, none⟩ = some (.int .i64 ab) := fun W h => h.x5.cell 4 _ rfl
        have r25 : ∀ W, Hold5 w w1.heap.size w2.heap.size w3.heap.size (w3.heap.size + 1) w5.heap.size (fieldsV ck cn cd ca cb ct) (fieldsV ck yn yd ya yb yt) (fieldsV ak an ad aa ab at1) (fieldsV bk bn bd ba bb bt) (fieldsV xk xn xd xa xb xt) W → W.cell? ⟨w3.heap.size, 5, none⟩ = some (.string at1) := fun W h => h.x5.cell 5 _ rfl
        have r30 : ∀ W, Hold5 w w1.heap.size w2.heap.size w3.heap.size (w3.heap.size + 1) w5.heap.size (fieldsV ck cn cd ca cb ct) (fieldsV ck yn yd ya yb yt) (fieldsV ak an ad aa ab at1) (fieldsV bk bn bd ba bb bt) (fieldsV xk xn xd xa xb xt) W → W.cell? ⟨(w3.heap.size + 1), 0, none⟩ = some (.int .i64 bk) := fun W h => h.x6.cell 0 _ rfl
        have r31 : ∀ W, Hold5 w w1.heap.size w2.heap.size w3.heap.size (w3.heap.size + 1) w5.heap.size (fieldsV ck cn cd ca cb ct) (fieldsV ck yn yd ya yb yt) (fieldsV ak an ad aa ab at1) (fieldsV bk bn bd ba bb bt) (fieldsV xk xn xd xa xb xt) W → W.cell? ⟨(w3.heap.size + 1), 1, none⟩ = some (.string bn) := fun W h => h.x6.cell 1 _ rfl
        have r32 : ∀ W, Hold5 w w1.heap.size w2.heap.size w3.heap.size (w3.heap.size + 1) w5.heap.size (fieldsV ck cn cd ca cb ct) (fieldsV ck yn yd ya yb yt) (fieldsV ak an ad aa ab at1) (fieldsV bk bn bd ba bb bt) (fieldsV xk xn xd xa xb xt) W → W.cell? ⟨(w3.heap.size + 1), 2, none⟩ = some (.string bd) := fun W h => h.x6.cell 2 _ rfl
        have r33 : ∀ W, Hold5 w w1.heap.size w2.heap.size w3.heap.size (w3.heap.size + 1) w5.heap.size (fieldsV ck cn cd ca cb ct) (fieldsV ck yn yd ya yb yt) (fieldsV ak an ad aa ab at1) (fieldsV bk bn bd ba bb bt) (fieldsV xk xn xd xa xb xt) W → W.cell? ⟨(w3.heap.size + 1), 3, none⟩ = some (.int .i64 ba) := fun W h => h.x6.cell 3 _ rfl
        have r34 : ∀ W, Hold5 w w1.heap.size w2.heap.size w3.heap.size (w3.heap.size + 1) w5.heap.size (fieldsV ck cn cd ca cb ct) (fieldsV ck yn yd ya yb yt) (fieldsV ak an ad aa ab at1) (fieldsV bk bn bd ba bb bt) (fieldsV xk xn xd xa xb xt) W → W.cell? ⟨(w3.heap.size + 1), 4, none⟩ = some (.int .i64 bb) := fun W h => h.x6.cell 4 _ rfl
        have r35 : ∀ W, Hold5 w w1.heap.size w2.heap.size w3.heap.size (w3.heap.size + 1) w5.heap.size (fieldsV ck cn cd ca cb ct) (fieldsV ck yn yd ya yb yt) (fieldsV ak an ad aa ab at1) (fieldsV bk bn bd ba bb bt) (fieldsV xk xn xd xa xb xt) W → W.cell? ⟨(w3.heap.size + 1), 5, none⟩ = some (.string bt) := fun W h => h.x6.cell 5 _ rfl
        have r40 : ∀ W, Hold5 w w1.heap.size w2.heap.size w3.heap.size (w3.heap.size + 1) w5.heap.size (fieldsV ck cn cd ca cb ct) (fieldsV ck yn yd ya yb yt) (fieldsV ak an ad aa ab at1) (fieldsV bk bn bd ba bb bt) (fieldsV xk xn xd xa xb xt) W → W.cell? ⟨w5.heap.size, 0, none⟩ = some (.int .i64 xk) := fun W h => h.x8.cell 0 _ rfl
        have r41 : ∀ W, Hold5 w w1.heap.size w2.heap.size w3.heap.size (w3.heap.size + 1) w5.heap.size (fieldsV ck cn cd ca cb ct) (fieldsV ck yn yd ya yb yt) (fieldsV ak an ad aa ab at1) (fieldsV bk bn bd ba bb bt) (fieldsV xk xn xd xa xb xt) W → W.cell? ⟨w5.heap.size, 1, none⟩ = some (.string xn) := fun W h => h.x8.cell 1 _ rfl
        have r42 : ∀ W, Hold5 w w1.heap.size w2.heap.size w3.heap.size (w3.heap.size + 1) w5.heap.size (fieldsV ck cn cd ca cb ct) (fieldsV ck yn yd ya yb yt) (fieldsV ak an ad aa ab at1) (fieldsV bk bn bd ba bb bt) (fieldsV xk xn xd xa xb xt) W → W.cell? ⟨w5.heap.size, 2, none⟩ = some (.string xd) := fun W h => h.x8.cell 2 _ rfl
        have r43 : ∀ W, Hold5 w w1.heap.size w2.heap.size w3.heap.size (w3.heap.size + 1) w5.heap.size (fieldsV ck cn cd ca cb ct) (fieldsV ck yn yd ya yb yt) (fieldsV ak an ad aa ab at1) (fieldsV bk bn bd ba bb bt) (fieldsV xk xn xd xa xb xt) W → W.cell? ⟨w5.heap.size, 3, none⟩ = some (.int .i64 xa) := fun W h => h.x8.cell 3 _ rfl
        have r44 : ∀ W, Hold5 w w1.heap.size w2.heap.size w3.heap.size (w3.heap.size + 1) w5.heap.size (fieldsV ck cn cd ca cb ct) (fieldsV ck yn yd ya yb yt) (fieldsV ak an ad aa ab at1) (fieldsV bk bn bd ba bb bt) (fieldsV xk xn xd xa xb xt) W → W.cell? ⟨w5.heap.size, 4, none⟩ = some (.int .i64 xb) := fun W h => h.x8.cell 4 _ rfl
        have r45 : ∀ W, Hold5 w w1.heap.size w2.heap.size w3.heap.size (w3.heap.size + 1) w5.heap.size (fieldsV ck cn cd ca cb ct) (fieldsV ck yn yd ya yb yt) (fieldsV ak an ad aa ab at1) (fieldsV bk bn bd ba bb bt) (fieldsV xk xn xd xa xb xt) W → W.cell? ⟨w5.heap.size, 5, none⟩ = some (.string xt) := fun W h => h.x8.cell 5 _ rfl
        go_wp2_with fail
        go_region_held3 (fun w' => Hold5 w w1.heap.size w2.heap.size w3.heap.size (w3.heap.size + 1) w5.heap.size (fieldsV ck cn cd ca cb ct) (fieldsV ck yn yd ya yb yt) (fieldsV ak an ad aa ab at1) (fieldsV bk bn bd ba bb bt) (fieldsV xk xn xd xa xb xt) w') (first | with_reducible assumption | with_reducible exact Hold5.drew (by with_reducible assumption) | with_reducible exact Hold5.below (by with_reducible assumption) (by with_reducible assumption)) (first | (go_at_call 49; refine (KT1.out _).mono ?_; rintro e w' ⟨rfl, hbk⟩) | (go_at_call 44; refine (KT3.out _).mono ?_; rintro e w' ⟨rfl, hbk⟩) | (go_at_call 50; refine (KSC.out _).mono ?_; rintro e w' ⟨rfl, hbk⟩) | (go_at_call_of 48 (Value.int IntKind.i64 22); refine (KCo.out _ (Hold5.bel (by with_reducible assumption))).mono ?_; rintro e w' ⟨rfl, hbk⟩) | (go_at_call 48; refine (KCk.out _ (Hold5.bel (by with_reducible assumption))).mono ?_; rintro e w' ⟨rfl, hbk⟩) | (go_at_call 51; refine (KCs.out _).mono ?_; rintro e w' ⟨rfl, hbk⟩) | (go_at_call_of 52 (Value.int IntKind.i64 6); refine (KL6.out _).mono ?_; rintro e w' ⟨rfl, rfl⟩) | (go_at_call 52; refine (KL1.out _).mono ?_; rintro e w' ⟨rfl, rfl⟩) | (go_at_call 53; refine (KL2.out _).mono ?_; rintro e w' ⟨rfl, rfl⟩) | (go_at_call 54; refine (KO1.out _).mono ?_; rintro e w' ⟨rfl, hbk⟩) | (go_at_call 55; refine (KO2.out _).mono ?_; rintro e w' ⟨rfl, hbk⟩))
        all_goals
          go_wp2
          go_ret
          exact ⟨rfl, (show Hold5 w w1.heap.size w2.heap.size w3.heap.size (w3.heap.size + 1) w5.heap.size (fieldsV ck cn cd ca cb ct) (fieldsV ck yn yd ya yb yt) (fieldsV ak an ad aa ab at1) (fieldsV bk bn bd ba bb bt) (fieldsV xk xn xd xa xb xt) _ from by with_reducible assumption).bel⟩

/- SIG
theorem walk (a0 : Option Addr) (len0 cap0 : Nat) (z0 : List Int) (w : World) (w0 : IsRow .u8 w a0 len0 cap0 z0) (hL : laidMetH Tryd.prog Rows.fnCallsToldRow.laid w) :
    Calls Tryd.prog 12 #[.slice a0 len0 cap0] w fun e w' => e = .returned (.bool true) ∧ Below w.heap.size w w' := by
-/
theorem own : ownKnob Tryd.prog.godebug = none := by kernel_rfl
theorem laidOut : laidOutB Tryd.prog = true := by kernel_rfl
theorem door_met (os : Os) (args : Array Value) : laidMetH Tryd.prog Rows.fnCallsToldRow.laid ((World.doorLaid Tryd.prog 400 os).forCall (fun _ _ => 0) ⟨#[], args, []⟩).memory :=
  laidMetH_of_parts3 (fuel := 8) (laidMet_of_run' 8 (by kernel_rfl) (by kernel_rfl)) (by kernel_rfl) (by kernel_rfl)
set_option maxRecDepth 100000 in
theorem lifted (os : Os) (started : os.Started) (H : Type) (enc : TypeId × Value → H) :
    ReturnsInHanded {} Tryd.checked os 12 .any (fun w args => (Rows.fnCallsToldSpec.pre enc Tryd.prog Tryd.f12 [] false w args ∧ laidMetH Tryd.prog Rows.fnCallsToldRow.laid w) ∧ sizedMet enc Tryd.prog Tryd.f12 (OpenSpec.ofChange Rows.fnCallsToldSpec) false w args)
      (Rows.fnCallsToldSpec.post enc Tryd.prog Tryd.f12 false true false false) := by
  refine returnsInHanded_of_change_and (C := Tryd.checked) (X := fun w _ => laidMetH Tryd.prog Rows.fnCallsToldRow.laid w) (fun _ _ _ hh h => h.of_heap hh) own started (by kernel_rfl) Tryd.func12
    (ChangeSpec.witness_shaped (enc := enc) (C := Tryd.checked) (os := os) (X := fun w _ => laidMetH Tryd.prog Rows.fnCallsToldRow.laid w) false (World.doorLaid Tryd.prog 400 os) #[.slice none 0 0] 8 rfl (World.shaped_of_RefB (by kernel_rfl) (by kernel_rfl)) (by kernel_rfl) (by kernel_rfl) (by kernel_rfl) (door_met os _)) ?_
  intro W base args ds gs before hval0 hW _ _ hL _
  have hval : ∀ (j : Nat) t v, Tryd.f12.params[j]? = some t → args[j]? = some v → Value.okWide Tryd.prog W .any base t v := hval0
  have hW' := hW
  obtain ⟨p, q, hA0, hV, rfl, hfz, hnd⟩ := hW
  have hA : DataW.TrodAll enc Tryd.prog W 0 (fun _ => true) true Tryd.f12.params.toList args.toList ds p := hA0
  rw [Tryd.params12] at hA hval
  obtain ⟨v0, vs0, d0, ds0, p0, q0, hargs, rfl, rfl, h0, g0⟩ := trodAll_cons hA
  obtain ⟨rfl, rfl, rfl⟩ := trodAll_nil g0
  obtain rfl : args = #[v0] := by cases args; simp_all
  have hlen := trodVars_length hV
  obtain ⟨e0, rfl⟩ : ∃ e0, gs = [e0] := by
    match gs, hlen with
    | [e0], _ => exact ⟨e0, rfl⟩
  have k0 := h0
  have lt0 : ∀ x ∈ p0, x.block < W.heap.size := by obtain ⟨m, hm⟩ := k0; exact DataW.trod_lt m _ _ _ hm
  obtain ⟨a0, len0, cap0, rfl⟩ := okWide_slice Tryd.underlying37 (hval 0 37 v0 rfl rfl)
  obtain ⟨z0, w0⟩ := isRow_of Tryd.underlying37 Tryd.underlying5 (by kernel_rfl) h0
  clear hA0 hval0
  refine (walk a0 len0 cap0 z0 W w0 hL).mono fun e W' ⟨he, bel⟩ => ?_
  subst he
  exact ⟨_, rfl, _, _, _, [], _, _, hW', trodAll_mk1 (shut_bool Tryd.underlying4 _), (trodAll_cons_mk (Below.trod laidOut (by kernel_rfl) (of_decide_eq_true (by kernel_rfl)) k0 bel lt0) trodAll_mk0), Below.trodVars laidOut bel (by kernel_rfl) hV, bel.frame _, fun h => by cases h⟩
theorem over : Rows.fnCallsToldRow.holds Tryd.pinned (OpenSpec.ofChange Rows.fnCallsToldSpec) :=
  OpenClaim.holds_of_wide 12 Tryd.f12 rfl rfl rfl rfl rfl rfl rfl ⟨rfl, rfl, rfl, rfl, rfl⟩ rfl rfl rfl rfl rfl (by kernel_rfl) Tryd.func12 (by kernel_rfl)
    (of_decide_eq_true (by kernel_rfl)) (by unfold Func.isWrapper; first | (rw [if_pos (by decide +kernel)]; kernel_rfl) | (rw [if_neg (by decide +kernel)]; exact ⟨rfl, rfl⟩))
    (fun os started H enc _ => lifted os started H enc)
theorem proved : Rows.FnCallsToldCardSaid :=
  Claim7.holds_tied_plain_at .later [] [.widerDeep] true (true, "a394b0db006c70c03e36c392521b106b757790137339a8f1ab7d24a56b76f51b") true
    over (fun _ h => by cases h) (by kernel_rfl) (fun _ h => by cases h) fnCallsTold_row_tie rfl ⟨rfl, rfl⟩ (by kernel_rfl) rfl
    (fun f fn hf hfn => by
      obtain rfl : f = 12 := Option.some.inj ((show Tryd.prog.funcNamed "loop.example/g00974/laws.FnCallsTold" = some 12 by kernel_rfl).symm.trans hf) |>.symm
      obtain rfl : fn = Tryd.f12 := (Option.some.inj (Tryd.func12.symm.trans hfn)).symm
      exact ⟨by kernel_rfl, fun j t ht => by
        rw [Tryd.params12] at ht
        have hm : t ∈ [37] := by
          have this := Array.mem_of_getElem? ht
          simp only [List.mem_toArray, List.mem_cons, List.not_mem_nil, or_false] at this ⊢
          first | assumption | (rcases this with h <;> simp [h])
        have hall : ([37].all fun u => !Tryd.prog.wantsStandIn u) = true := by kernel_rfl
        exact (show Tryd.prog.wantsStandIn t = false by simpa using List.all_eq_true.1 hall t hm)⟩)
    (by kernel_rfl)
#print axioms proved

end Go.Proofs.YtedbmmoddemngaaDoor.fnCallsTold
