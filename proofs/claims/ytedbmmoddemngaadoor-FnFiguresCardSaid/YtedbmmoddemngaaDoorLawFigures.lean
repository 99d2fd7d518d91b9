/- FnFigures: hexadecimal and decimal figures are read back as they were written, and a number brought into a range lies there, where the library's variables hold what their texts lay. -/
import Derived.Test.YtedbmmoddemngaaDoorCards
import Derived.Test.YtedbmmoddemngaaDoorTie
import Derived.Test.YtedbmmoddemngaaDoorOuts
import Derived.Test.YtedbmmoddemngaaDoorPlaces
import Derived.Test.YtedbmmoddemngaaDoorBig
import Derived.LaidMore
import Derived.OpenVars
import Derived.Stop.Joined
import Derived.SevenTiedAt
import Derived.Lib.LaidU8
import Derived.LaidLaws
import Derived.Lib.Hide
import Derived.Deep.RegionHeld3
import Derived.Deep.DrawnRows
import Derived.BigQuiet
namespace Go.Proofs.YtedbmmoddemngaaDoor.fnFigures
open Go.ChangeShapes Go.WideShapes Go.ChangeAt Go.RowKit
open Go.ChangeMaps (open_string shut_string)
attribute [local go_sem ↓] Go.wp_at_zero Go.wp_at_succ
theorem dec_of_laid {w : World} (h : laidMetH Tryd.prog Rows.fnFiguresRow.laid w) : DecTab w := by
  rw [MakeChecks.laidMetH_plain _ _ _ (by kernel_rfl)] at h
  obtain ⟨g, t, cs, fuel, p, hg, ht, hv, hd⟩ := Lib.laidMet.reads h (n := "internal/strconv.uint64pow10") (d := Rows.laid_internal_strconv_uint64pow10) (by repeat (first | exact List.Mem.head _ | apply List.Mem.tail))
  obtain rfl := Option.some.inj ((show (Tryd.prog.globals[4]?).map (·.type) = some 129 by kernel_rfl).symm.trans (by rw [← ht]; congr 2; exact Option.some.inj ((show Tryd.prog.globalNamed "internal/strconv.uint64pow10" = some 4 by kernel_rfl).symm.trans hg)))
  have e : Rows.laid_internal_strconv_uint64pow10 = (Lib.tabData .u64 Lib.pow10Tab : DataW Unit) := by kernel_rfl
  rw [e] at hd
  unfold DecTab Lib.TabIs
  rw [hv, ← Lib.cells_of_tab Tryd.underlying129 Tryd.underlying117 (by kernel_rfl) (by kernel_rfl) hd]
theorem syn_of_laid {w : World} (h : laidMetH Tryd.prog Rows.fnFiguresRow.laid w) : ∃ tp p, w.var? Tryd.prog "strconv.ErrSyntax" = some #[.iface tp p] := by
  rw [MakeChecks.laidMetH_plain _ _ _ (by kernel_rfl)] at h
  obtain ⟨g, t, cs, fuel, p, hg, ht, hv, hd⟩ := Lib.laidMet.reads h (n := "strconv.ErrSyntax") (d := Rows.laid_strconv_ErrSyntax) (by repeat (first | exact List.Mem.head _ | apply List.Mem.tail))
  obtain rfl := Option.some.inj ((show (Tryd.prog.globals[2]?).map (·.type) = some 69 by kernel_rfl).symm.trans (by rw [← ht]; congr 2; exact Option.some.inj ((show Tryd.prog.globalNamed "strconv.ErrSyntax" = some 2 by kernel_rfl).symm.trans hg)))
  obtain ⟨_, u, v, e, _, _⟩ := iface_of_trod Tryd.underlying69 hd
  have e2 : cs = #[.iface u v] := by
    apply Array.toList_inj.1
    simpa using e
  rw [e2] at hv
  exact ⟨u, v, hv⟩
theorem ran_of_laid {w : World} (h : laidMetH Tryd.prog Rows.fnFiguresRow.laid w) : ∃ tp p, w.var? Tryd.prog "strconv.ErrRange" = some #[.iface tp p] := by
  rw [MakeChecks.laidMetH_plain _ _ _ (by kernel_rfl)] at h
  obtain ⟨g, t, cs, fuel, p, hg, ht, hv, hd⟩ := Lib.laidMet.reads h (n := "strconv.ErrRange") (d := Rows.laid_strconv_ErrRange) (by repeat (first | exact List.Mem.head _ | apply List.Mem.tail))
  obtain rfl := Option.some.inj ((show (Tryd.prog.globals[3]?).map (·.type) = some 69 by kernel_rfl).symm.trans (by rw [← ht]; congr 2; exact Option.some.inj ((show Tryd.prog.globalNamed "strconv.ErrRange" = some 3 by kernel_rfl).symm.trans hg)))
  obtain ⟨_, u, v, e, _, _⟩ := iface_of_trod Tryd.underlying69 hd
  have e2 : cs = #[.iface u v] := by
    apply Array.toList_inj.1
    simpa using e
  rw [e2] at hv
  exact ⟨u, v, hv⟩
theorem odd_of_laid {w : World} (h : laidMetH Tryd.prog Rows.fnFiguresRow.laid w) : OddErr w := by
  rw [MakeChecks.laidMetH_plain _ _ _ (by kernel_rfl)] at h
  obtain ⟨g, t, cs, fuel, p, hg, ht, hv, hd⟩ := Lib.laidMet.reads h (n := "encoding/hex.ErrLength") (d := Rows.laid_encoding_hex_ErrLength) (by repeat (first | exact List.Mem.head _ | apply List.Mem.tail))
  obtain rfl := Option.some.inj ((show Tryd.prog.globalNamed "encoding/hex.ErrLength" = some 1 by kernel_rfl).symm.trans hg)
  obtain rfl := Option.some.inj ((show (Tryd.prog.globals[1]?).map (·.type) = some 69 by kernel_rfl).symm.trans ht)
  obtain ⟨_, u, v, e, _, _⟩ := iface_of_trod Tryd.underlying69 hd
  have hc := World.var?_cell hg hv 0
  have e2 : cs[0]? = some (.iface u v) := by
    have := congrArg (·[0]?) e
    simpa using this
  rw [e2] at hc
  exact ⟨u, v, hc⟩
theorem conv2 (W wr : World) (c d : UInt8) (x y : Int) (hx : (c.toNat : Int) = x) (hy : (d.toNat : Int) = y) (hb : Below (W.alloc (.cells #[.int .u8 x, .int .u8 y] 5)).heap.size (W.alloc (.cells #[.int .u8 x, .int .u8 y] 5)) wr) :
    (convert 37 9 (.slice (some ⟨W.heap.size, 0, none⟩) 2 2)).run Tryd.prog wr = .ok (.string ⟨#[c, d]⟩) wr := by
  have := run_convert_bytes_back (P := Tryd.prog) wr 37 9 5 ⟨W.heap.size, 0, none⟩ 2 [c, d] Tryd.underlying37 Tryd.underlying5 Tryd.underlying9 (by
    intro j hj
    have hj1 : j < 2 := hj
    rw [add_none]
    have h0 := keepS hb ((Box.new W [.int .u8 x, .int .u8 y] 5).cell 0 _ rfl)
    have h1 := keepS hb ((Box.new W [.int .u8 x, .int .u8 y] 5).cell 1 _ rfl)
    match j, hj with
    | 0, _ => show _ = some (Value.int .u8 (c.toNat : Int)); rw [hx]; exact h0
    | 1, _ => show _ = some (Value.int .u8 (d.toNat : Int)); rw [hy]; exact h1)
  simpa using this
theorem u8_of (x : Int) (h0 : 0 ≤ x) : ∃ c : UInt8, (c.toNat : Int) = IntKind.u8.wrap x := by
  refine ⟨UInt8.ofNat (x.toNat % 256), ?_⟩
  rw [UInt8.toNat_ofNat', Nat.mod_eq_of_lt (by omega)]
  show _ = x % 256
  omega

set_option maxRecDepth 100000 in
set_option maxHeartbeats 4000000 in
theorem walk (a0 : Option Addr) (len0 cap0 : Nat) (z0 : List Int) (w : World) (w0 : IsRow .u8 w a0 len0 cap0 z0) (hL : laidMetH Tryd.prog Rows.fnFiguresRow.laid w) :
    Calls Tryd.prog 8 #[.slice a0 len0 cap0] w fun e w' => e = .returned (.bool true) ∧ Below w.heap.size w w' := by
  have HT := Lib.hid (fun (W : World) (hW : Below w.heap.size w W) => Tabs.below ⟨dec_of_laid hL, ⟨syn_of_laid hL, ran_of_laid hL⟩, odd_of_laid hL⟩ hW)
  clear hL
  have HZ := Lib.hid w0
  clear w0
  by_cases hbig : 1048576 < len0
  · have KB := Lib.hid (fun W => big_yes a0 len0 cap0 W hbig)
    go_enter Tryd.func8, Tryd.ntmps8
    go_wp2_with fail
    refine (KB.out _).mono ?_
    rintro e w1 ⟨rfl, rfl⟩
    go_wp2
    go_ret
    exact ⟨rfl, Below.refl _ _⟩
  · have KB := Lib.hid (fun W => big_no a0 len0 cap0 W (by omega))
    have KM := Lib.hid (drawPlaces_c a0 len0 cap0 z0 w HZ.out)
    go_enter Tryd.func8, Tryd.ntmps8
    go_wp2_with fail
    refine (KB.out _).mono ?_
    rintro e w1 ⟨rfl, rfl⟩
    go_wp2_with fail
    refine KM.out.mono ?_
    rintro e w1 ⟨a, cap, xs, rfl, hl, hx, hr, hb1⟩
    obtain ⟨b, off, rfl⟩ : ∃ b off, a = some ⟨b, off, none⟩ := by
      rcases hr with h | ⟨b, off, h, _⟩
      · rw [h] at hl; simp at hl
      · exact ⟨b, off, h⟩
    have HR := Lib.hid hr
    have HX := Lib.hid hx
    have HB1 := Lib.hid hb1
    have P : Hid (∀ k, k < 12 → ∃ x : Int, 0 ≤ x ∧ x < 10000 ∧ ∀ W, Below w1.heap.size w1 W → W.cell? ⟨b, off + k, none⟩ = some (.int .i64 x)) := Lib.hid (fun k hk => by
      obtain ⟨x, hx⟩ := some_of_lt (xs := xs) (k := k) (by omega)
      have h := HX.out x (List.mem_of_getElem? hx)
      refine ⟨x, h.1, h.2, fun W hW => ?_⟩
      rcases HR.out.below hW with h | ⟨b', off', e, h2, h3⟩
      · rw [h] at hx; simp at hx
      · cases e
        have := h3 k x hx 0 (.int .i64 x) rfl
        simpa using this)
    clear hr hx hb1 HR HX hl
    obtain ⟨x0, l0, m0, c0'⟩ := P.out 0 (by decide)
    obtain ⟨x1, l1, m1, c1'⟩ := P.out 1 (by decide)
    obtain ⟨x2, l2, m2, c2'⟩ := P.out 2 (by decide)
    obtain ⟨x3, l3, m3, c3'⟩ := P.out 3 (by decide)
    obtain ⟨x4, l4, m4, c4'⟩ := P.out 4 (by decide)
    obtain ⟨x5, l5, m5, c5'⟩ := P.out 5 (by decide)
    obtain ⟨x6, l6, m6, c6'⟩ := P.out 6 (by decide)
    obtain ⟨x7, l7, m7, c7'⟩ := P.out 7 (by decide)
    have C0 := Lib.hid c0'
    have C1 := Lib.hid c1'
    have C2 := Lib.hid c2'
    have C3 := Lib.hid c3'
    have C4 := Lib.hid c4'
    have C5 := Lib.hid c5'
    have C6 := Lib.hid c6'
    have C7 := Lib.hid c7'
    have c5 := c5' w1 (Below.refl _ _)
    have c6 := c6' w1 (Below.refl _ _)
    have c7 := c7' w1 (Below.refl _ _)
    clear c0' c1' c2' c3' c4' c5' c6' c7' P
    obtain ⟨d6, hd6⟩ := u8_of x6 l6
    obtain ⟨d7, hd7⟩ := u8_of x7 l7
    have HCV := Lib.hid (fun (W wr : World) hb => conv2 W wr d6 d7 _ _ hd6 hd7 hb)
    have KD5 := Lib.hid (fun W (h : Below w.heap.size w W) => implDecimal_c x5 W (by omega) (by omega) (HT.out W h).1)
    obtain ⟨t5, ht5⟩ : ∃ t, decS x5 = t := ⟨_, rfl⟩
    have hs5 : t5.size ≤ 20 := by rw [← ht5]; exact decS_size x5 (by omega) (by omega)
    rw [ht5] at KD5
    clear hd6 hd7 ht5
    have hcv0 : ∀ W : World, (convert 37 9 (.slice (some ⟨W.heap.size, 0, none⟩) 2 2)).run Tryd.prog (W.alloc (.cells #[.int .u8 (IntKind.u8.wrap x6), .int .u8 (IntKind.u8.wrap x7)] 5)) = .ok (.string ⟨#[d6, d7]⟩) (W.alloc (.cells #[.int .u8 (IntKind.u8.wrap x6), .int .u8 (IntKind.u8.wrap x7)] 5)) := fun W => HCV.out W _ (Below.refl _ _)
    have hcv1 : ∀ W wr : World, Below (W.alloc (.cells #[.int .u8 (IntKind.u8.wrap x6), .int .u8 (IntKind.u8.wrap x7)] 5)).heap.size (W.alloc (.cells #[.int .u8 (IntKind.u8.wrap x6), .int .u8 (IntKind.u8.wrap x7)] 5)) wr → (convert 37 9 (.slice (some ⟨W.heap.size, 0, none⟩) 2 2)).run Tryd.prog wr = .ok (.string ⟨#[d6, d7]⟩) wr := fun W wr h => HCV.out W wr h
    have hcv3 : (convert 37 9 (.slice (some ⟨w1.heap.size, 0, none⟩) 2 2)).run Tryd.prog (w1.alloc (.cells #[.int .u8 (IntKind.u8.wrap x6), .int .u8 (IntKind.u8.wrap x7)] 5)).drew = .ok (.string ⟨#[d6, d7]⟩) (w1.alloc (.cells #[.int .u8 (IntKind.u8.wrap x6), .int .u8 (IntKind.u8.wrap x7)] 5)).drew := HCV.out w1 _ (by repeat (first | exact Below.refl _ _ | refine Below.drew ?_ | refine below_drewN ?_ _ | refine Below.allocC ?_ _ | refine Below.setCell ?_ (by first | (simp; done) | (simp; omega)) _ | refine Below.chain ?_ (by assumption)))
    have had : ∀ t, binOp .add t (.string t5) (.string ⟨#[d6, d7]⟩) = pure (.string (t5 ++ ⟨#[d6, d7]⟩)) := fun t => by
      rw [binOp_string_add]
      unfold Op.stringOp
      simp only
      rw [if_neg]
      show ¬ (((t5.size + 2 : Nat) : Int) > 9223372036854775807)
      omega
    obtain ⟨t, ht⟩ : ∃ t, t5 ++ ⟨#[d6, d7]⟩ = t := ⟨_, rfl⟩
    have hts : t.size ≤ 22 := by rw [← ht, ByteArray.size_append]; show t5.size + 2 ≤ 22; omega
    rw [ht] at had
    obtain ⟨h, hh⟩ : ∃ h, hexS t = h := ⟨_, rfl⟩
    have hhs : h.size = 2 * t.size := by rw [← hh]; exact hexS_size t
    have KH := Lib.hid (fun W => implHex_c t W)
    rw [(hex_yes (show t.size ≤ 20000 by omega)).1, (hex_yes (show t.size ≤ 20000 by omega)).2, hh] at KH
    have hun := unhex_yes (s := h) (r := t.data.toList) (by rw [← hh]; rfl) (by have : t.data.toList.length = t.size := Array.length_toList; omega)
    have KU := Lib.hid (fun W (hW : Below w.heap.size w W) => implUnhex_c h W (by omega) (HT.out W hW).2.2)
    rw [hun.1, hun.2] at KU
    have ht2 : (⟨t.data.toList.toArray⟩ : ByteArray) = t := rfl
    rw [ht2] at KU
    clear ht hh hun ht2
    obtain ⟨N, hN⟩ : ∃ N : Nat, x0 * 10000 + x1 = (N : Int) := ⟨(x0 * 10000 + x1).toNat, by omega⟩
    have KDN := Lib.hid (fun W (h : Below w.heap.size w W) => implDecimal_c (x0 * 10000 + x1) W (by omega) (by omega) (HT.out W h).1)
    obtain ⟨dn, hdn⟩ : ∃ dn, decS (x0 * 10000 + x1) = dn := ⟨_, rfl⟩
    have hdns : dn.size ≤ 20 := by rw [← hdn]; exact decS_size _ (by omega) (by omega)
    have KRN := Lib.hid (fun W (h : Below w.heap.size w W) => implReadDec_c dn W (by omega) (HT.out W h).1 (HT.out W h).2.1)
    have hry := read_yes (s := dn) (n := N) (numIs_of (by omega) (by rw [← hN]; exact hdn))
    rw [hry.1, hry.2, ← hN] at KRN
    rw [hdn] at KDN
    have KBR := Lib.hid (fun W => implBrought_c (x2 - 5000) (-x3) x4 W)
    obtain ⟨bb, hbb⟩ : ∃ bb, broughtV (x2 - 5000) (-x3) x4 = bb := ⟨_, rfl⟩
    have f1 : -x3 ≤ bb := by rw [← hbb]; unfold broughtV; omega
    have f2 : bb ≤ x4 := by rw [← hbb]; unfold broughtV; omega
    have KBR2 := Lib.hid (fun W => implBrought_c bb (-x3) x4 W)
    rw [show broughtV bb (-x3) x4 = bb by unfold broughtV; omega] at KBR2
    rw [hbb] at KBR
    have hsI : (h.size : Int) = 2 * (t.size : Int) := by omega
    have hw3 : IntKind.i64.wrap (-x3) = -x3 := by rw [IntKind.wrap_i64]; omega
    have hw2 : IntKind.i64.wrap (2 * (t.size : Int)) = 2 * (t.size : Int) := by rw [IntKind.wrap_i64]; omega
    have htt : ∀ ty, binOp .eql ty (.string t) (.string t) = pure (.bool true) := fun ty => by rw [binOp_string_eql, beq_self_eq_true]
    clear hN hdn hry hbb hhs
    go_wp2_with fail
    refine wp_region_held_drew (S := (fun w' => Below w.heap.size w w' ∧ Below w1.heap.size w1 w' ∧ w'.cell? ⟨b, off + 5, none⟩ = some (.int .i64 x5) ∧ w'.cell? ⟨b, off + 6, none⟩ = some (.int .i64 x6) ∧ w'.cell? ⟨b, off + 7, none⟩ = some (.int .i64 x7))) (by kernel_rfl) ?_ (fun hHeld => ?_)
    · (try dsimp only); (go_split_ands; (repeat' apply And.intro) <;> first | assumption | exact HB1.out | exact keepS (by assumption) (by assumption) | exact C5.out _ (show Below w1.heap.size w1 _ from (by repeat (first | exact Below.refl _ _ | refine Below.drew ?_ | refine below_drewN ?_ _ | refine Below.allocC ?_ _ | refine Below.setCell ?_ (by first | (simp; done) | (simp; omega)) _ | refine Below.chain ?_ (by assumption)))) | exact C6.out _ (show Below w1.heap.size w1 _ from (by repeat (first | exact Below.refl _ _ | refine Below.drew ?_ | refine below_drewN ?_ _ | refine Below.allocC ?_ _ | refine Below.setCell ?_ (by first | (simp; done) | (simp; omega)) _ | refine Below.chain ?_ (by assumption)))) | exact C7.out _ (show Below w1.heap.size w1 _ from (by repeat (first | exact Below.refl _ _ | refine Below.drew ?_ | refine below_drewN ?_ _ | refine Below.allocC ?_ _ | refine Below.setCell ?_ (by first | (simp; done) | (simp; omega)) _ | refine Below.chain ?_ (by assumption)))) | exact (show Below w1.heap.size w1 _ from (by repeat (first | exact Below.refl _ _ | refine Below.drew ?_ | refine below_drewN ?_ _ | refine Below.allocC ?_ _ | refine Below.setCell ?_ (by first | (simp; done) | (simp; omega)) _ | refine Below.chain ?_ (by assumption)))) | exact HB1.out.trans ((show Below w1.heap.size w1 _ from (by repeat (first | exact Below.refl _ _ | refine Below.drew ?_ | refine below_drewN ?_ _ | refine Below.allocC ?_ _ | refine Below.setCell ?_ (by first | (simp; done) | (simp; omega)) _ | refine Below.chain ?_ (by assumption)))).mono HB1.out.size))
    refine wpAnyH_take (i := 0) (oi := _) (v := ?_) rfl (by kernel_rfl) (by kernel_rfl) (by kernel_rfl) (fun _ _ _ h => h) (Or.inl ⟨by rfl, ?_⟩) (by assumption) ?_
    rotate_left
    · (intro w hSw; (try dsimp only at hSw); go_simp); all_goals with_reducible rfl
    try simp only [Act.put, List.setIfInBounds_toArray, List.set_cons_zero, List.set_cons_succ]
    refine wpAnyH_take (i := 1) (oi := _) (v := ?_) rfl (by kernel_rfl) (by kernel_rfl) (by kernel_rfl) (fun _ _ _ h => h) (Or.inl ⟨by rfl, ?_⟩) (by assumption) ?_
    rotate_left
    · (intro w hSw; (try dsimp only at hSw); go_simp); all_goals with_reducible rfl
    try simp only [Act.put, List.setIfInBounds_toArray, List.set_cons_zero, List.set_cons_succ]
    refine wpAnyH_take (i := 2) (oi := _) (v := ?_) rfl (by kernel_rfl) (by kernel_rfl) (by kernel_rfl) (fun _ _ _ h => h) (Or.inl ⟨by rfl, ?_⟩) (by assumption) ?_
    rotate_left
    · (intro w hSw; (try dsimp only at hSw); go_simp); all_goals with_reducible rfl
    try simp only [Act.put, List.setIfInBounds_toArray, List.set_cons_zero, List.set_cons_succ]
    refine wpAnyH_take (i := 4) (oi := _) (v := ?_) rfl (by kernel_rfl) (by kernel_rfl) (by kernel_rfl) (fun _ _ _ h => h) (Or.inl ⟨by rfl, ?_⟩) (by assumption) ?_
    rotate_left
    · (intro w hSw; (try dsimp only at hSw); go_simp); all_goals with_reducible rfl
    try simp only [Act.put, List.setIfInBounds_toArray, List.set_cons_zero, List.set_cons_succ]
    refine wpAnyH_take (i := 5) (oi := _) (v := ?_) rfl (by kernel_rfl) (by kernel_rfl) (by kernel_rfl) (fun _ _ _ h => h) (Or.inl ⟨by rfl, ?_⟩) (by assumption) ?_
    rotate_left
    · (intro w hSw; (try dsimp only at hSw); go_simp); all_goals with_reducible rfl
    try simp only [Act.put, List.setIfInBounds_toArray, List.set_cons_zero, List.set_cons_succ]
    refine wpAnyH_take (i := 6) (oi := _) (v := ?_) rfl (by kernel_rfl) (by kernel_rfl) (by kernel_rfl) (fun _ _ _ h => h) (Or.inl ⟨by rfl, ?_⟩) (by assumption) ?_
    rotate_left
    · (intro w hSw; (try dsimp only at hSw); go_simp); all_goals with_reducible rfl
    try simp only [Act.put, List.setIfInBounds_toArray, List.set_cons_zero, List.set_cons_succ]
    refine wpAnyH_take (i := 7) (oi := _) (v := ?_) rfl (by kernel_rfl) (by kernel_rfl) (by kernel_rfl) (fun _ _ _ h => h) (Or.inl ⟨by rfl, ?_⟩) (by assumption) ?_
    rotate_left
    · (intro w hSw; (try dsimp only at hSw); go_simp); all_goals with_reducible rfl
    try simp only [Act.put, List.setIfInBounds_toArray, List.set_cons_zero, List.set_cons_succ]
    refine wpAnyH_take (i := 8) (oi := _) (v := ?_) rfl (by kernel_rfl) (by kernel_rfl) (by kernel_rfl) (fun _ _ _ h => h) (Or.inl ⟨by rfl, ?_⟩) (by assumption) ?_
    rotate_left
    · (intro w hSw; (try dsimp only at hSw); go_simp); all_goals with_reducible rfl
    try simp only [Act.put, List.setIfInBounds_toArray, List.set_cons_zero, List.set_cons_succ]
    refine wpAnyH_take (i := 9) (oi := _) (v := ?_) rfl (by kernel_rfl) (by kernel_rfl) (by kernel_rfl) (fun _ _ _ h => h) (Or.inl ⟨by rfl, ?_⟩) (by assumption) ?_
    rotate_left
    · (intro w hSw; (try dsimp only at hSw); go_simp); all_goals with_reducible rfl
    try simp only [Act.put, List.setIfInBounds_toArray, List.set_cons_zero, List.set_cons_succ]
    refine wpAnyH_take (i := 10) (oi := _) (v := ?_) rfl (by kernel_rfl) (by kernel_rfl) (by kernel_rfl) (fun _ _ _ h => h) (Or.inl ⟨by rfl, ?_⟩) (by assumption) ?_
    rotate_left
    · (intro w hSw; (try dsimp only at hSw); go_simp); all_goals with_reducible rfl
    try simp only [Act.put, List.setIfInBounds_toArray, List.set_cons_zero, List.set_cons_succ]
    refine wpAnyH_take (i := 11) (oi := _) (v := ?_) rfl (by kernel_rfl) (by kernel_rfl) (by kernel_rfl) (fun _ _ _ h => h) (Or.inl ⟨by rfl, ?_⟩) (by assumption) ?_
    rotate_left
    · (intro w hSw; (try dsimp only at hSw); go_simp); all_goals with_reducible rfl
    try simp only [Act.put, List.setIfInBounds_toArray, List.set_cons_zero, List.set_cons_succ]
    refine wpAnyH_ready (rs := [3, 12]) (by kernel_rfl) (by simp) ?_
    refine AllReadyH.cons (o := _) rfl (fun K hK => ?g1n3) (AllReadyH.cons (o := _) rfl (fun K hK => ?g1n12) AllReadyH.nil)
    case' g1n3 =>
      go_simp
      go_at_call 14
      refine (KD5.out _ (by go_split_ands; assumption)).mono ?_
      rintro e w' ⟨rfl, hbk⟩
      try (have hcvz : (convert 37 9 (.slice (some ⟨w1.heap.size, 0, none⟩) 2 2)).run Tryd.prog w' = .ok (.string ⟨#[d6, d7]⟩) w' := HCV.out w1.drew _ hbk)
      go_wp2_with fail
      refine hK.out _ _ ?_ (fun hHeld2 => ?_)
      · (try dsimp only); (go_split_ands; (repeat' apply And.intro) <;> first | assumption | exact HB1.out | exact keepS (by assumption) (by assumption) | exact C5.out _ (show Below w1.heap.size w1 _ from (by repeat (first | exact Below.refl _ _ | refine Below.drew ?_ | refine below_drewN ?_ _ | refine Below.allocC ?_ _ | refine Below.setCell ?_ (by first | (simp; done) | (simp; omega)) _ | refine Below.chain ?_ (by assumption)))) | exact C6.out _ (show Below w1.heap.size w1 _ from (by repeat (first | exact Below.refl _ _ | refine Below.drew ?_ | refine below_drewN ?_ _ | refine Below.allocC ?_ _ | refine Below.setCell ?_ (by first | (simp; done) | (simp; omega)) _ | refine Below.chain ?_ (by assumption)))) | exact C7.out _ (show Below w1.heap.size w1 _ from (by repeat (first | exact Below.refl _ _ | refine Below.drew ?_ | refine below_drewN ?_ _ | refine Below.allocC ?_ _ | refine Below.setCell ?_ (by first | (simp; done) | (simp; omega)) _ | refine Below.chain ?_ (by assumption)))) | exact (show Below w1.heap.size w1 _ from (by repeat (first | exact Below.refl _ _ | refine Below.drew ?_ | refine below_drewN ?_ _ | refine Below.allocC ?_ _ | refine Below.setCell ?_ (by first | (simp; done) | (simp; omega)) _ | refine Below.chain ?_ (by assumption)))) | exact HB1.out.trans ((show Below w1.heap.size w1 _ from (by repeat (first | exact Below.refl _ _ | refine Below.drew ?_ | refine below_drewN ?_ _ | refine Below.allocC ?_ _ | refine Below.setCell ?_ (by first | (simp; done) | (simp; omega)) _ | refine Below.chain ?_ (by assumption)))).mono HB1.out.size))
      clear hK K hHeld; have hHeld := hHeld2; clear hHeld2
      try simp only [Act.put, List.setIfInBounds_toArray, List.set_cons_zero, List.set_cons_succ]
      refine wpAnyH_ready (rs := [12]) (by kernel_rfl) (by simp) ?_
      refine AllReadyH.cons (o := _) rfl (fun K hK => ?g2n12) AllReadyH.nil
      case' g2n12 =>
        go_simp
        refine hK.out _ _ ?_ (fun hHeld2 => ?_)
        · (try dsimp only); (go_split_ands; (repeat' apply And.intro) <;> first | assumption | exact HB1.out | exact keepS (by assumption) (by assumption) | exact C5.out _ (show Below w1.heap.size w1 _ from (by repeat (first | exact Below.refl _ _ | refine Below.drew ?_ | refine below_drewN ?_ _ | refine Below.allocC ?_ _ | refine Below.setCell ?_ (by first | (simp; done) | (simp; omega)) _ | refine Below.chain ?_ (by assumption)))) | exact C6.out _ (show Below w1.heap.size w1 _ from (by repeat (first | exact Below.refl _ _ | refine Below.drew ?_ | refine below_drewN ?_ _ | refine Below.allocC ?_ _ | refine Below.setCell ?_ (by first | (simp; done) | (simp; omega)) _ | refine Below.chain ?_ (by assumption)))) | exact C7.out _ (show Below w1.heap.size w1 _ from (by repeat (first | exact Below.refl _ _ | refine Below.drew ?_ | refine below_drewN ?_ _ | refine Below.allocC ?_ _ | refine Below.setCell ?_ (by first | (simp; done) | (simp; omega)) _ | refine Below.chain ?_ (by assumption)))) | exact (show Below w1.heap.size w1 _ from (by repeat (first | exact Below.refl _ _ | refine Below.drew ?_ | refine below_drewN ?_ _ | refine Below.allocC ?_ _ | refine Below.setCell ?_ (by first | (simp; done) | (simp; omega)) _ | refine Below.chain ?_ (by assumption)))) | exact HB1.out.trans ((show Below w1.heap.size w1 _ from (by repeat (first | exact Below.refl _ _ | refine Below.drew ?_ | refine below_drewN ?_ _ | refine Below.allocC ?_ _ | refine Below.setCell ?_ (by first | (simp; done) | (simp; omega)) _ | refine Below.chain ?_ (by assumption)))).mono HB1.out.size))
        clear hK K hHeld; have hHeld := hHeld2; clear hHeld2
        try simp only [Act.put, List.setIfInBounds_toArray, List.set_cons_zero, List.set_cons_succ]
        refine wpAnyH_ready (rs := [13]) (by kernel_rfl) (by simp) ?_
        refine AllReadyH.cons (o := _) rfl (fun K hK => ?g3n13) AllReadyH.nil
        case' g3n13 =>
          go_simp
          refine hK.out _ _ ?_ (fun hHeld2 => ?_)
          · (try dsimp only); (go_split_ands; (repeat' apply And.intro) <;> first | assumption | exact HB1.out | exact keepS (by assumption) (by assumption) | exact C5.out _ (show Below w1.heap.size w1 _ from (by repeat (first | exact Below.refl _ _ | refine Below.drew ?_ | refine below_drewN ?_ _ | refine Below.allocC ?_ _ | refine Below.setCell ?_ (by first | (simp; done) | (simp; omega)) _ | refine Below.chain ?_ (by assumption)))) | exact C6.out _ (show Below w1.heap.size w1 _ from (by repeat (first | exact Below.refl _ _ | refine Below.drew ?_ | refine below_drewN ?_ _ | refine Below.allocC ?_ _ | refine Below.setCell ?_ (by first | (simp; done) | (simp; omega)) _ | refine Below.chain ?_ (by assumption)))) | exact C7.out _ (show Below w1.heap.size w1 _ from (by repeat (first | exact Below.refl _ _ | refine Below.drew ?_ | refine below_drewN ?_ _ | refine Below.allocC ?_ _ | refine Below.setCell ?_ (by first | (simp; done) | (simp; omega)) _ | refine Below.chain ?_ (by assumption)))) | exact (show Below w1.heap.size w1 _ from (by repeat (first | exact Below.refl _ _ | refine Below.drew ?_ | refine below_drewN ?_ _ | refine Below.allocC ?_ _ | refine Below.setCell ?_ (by first | (simp; done) | (simp; omega)) _ | refine Below.chain ?_ (by assumption)))) | exact HB1.out.trans ((show Below w1.heap.size w1 _ from (by repeat (first | exact Below.refl _ _ | refine Below.drew ?_ | refine below_drewN ?_ _ | refine Below.allocC ?_ _ | refine Below.setCell ?_ (by first | (simp; done) | (simp; omega)) _ | refine Below.chain ?_ (by assumption)))).mono HB1.out.size))
          clear hK K hHeld; have hHeld := hHeld2; clear hHeld2
          try simp only [Act.put, List.setIfInBounds_toArray, List.set_cons_zero, List.set_cons_succ]
          refine wpAnyH_take (i := 14) (oi := _) (v := ?_) rfl (by kernel_rfl) (by kernel_rfl) (by kernel_rfl) (fun _ _ _ h => h) (Or.inl ⟨by rfl, ?_⟩) (by assumption) ?_
          rotate_left
          · (intro w hSw; (try dsimp only at hSw); go_simp); all_goals with_reducible rfl
          try simp only [Act.put, List.setIfInBounds_toArray, List.set_cons_zero, List.set_cons_succ]
          refine wpAnyH_take (i := 15) (oi := _) (v := ?_) rfl (by kernel_rfl) (by kernel_rfl) (by kernel_rfl) (fun _ _ _ h => h) (Or.inl ⟨by rfl, ?_⟩) (by assumption) ?_
          rotate_left
          · (intro w hSw; (try dsimp only at hSw); go_simp); all_goals with_reducible rfl
          try simp only [Act.put, List.setIfInBounds_toArray, List.set_cons_zero, List.set_cons_succ]
          refine wpAnyH_done (by kernel_rfl) ?_ _
    case' g1n12 =>
      go_simp
      refine hK.out _ _ ?_ (fun hHeld2 => ?_)
      · (try dsimp only); (go_split_ands; (repeat' apply And.intro) <;> first | assumption | exact HB1.out | exact keepS (by assumption) (by assumption) | exact C5.out _ (show Below w1.heap.size w1 _ from (by repeat (first | exact Below.refl _ _ | refine Below.drew ?_ | refine below_drewN ?_ _ | refine Below.allocC ?_ _ | refine Below.setCell ?_ (by first | (simp; done) | (simp; omega)) _ | refine Below.chain ?_ (by assumption)))) | exact C6.out _ (show Below w1.heap.size w1 _ from (by repeat (first | exact Below.refl _ _ | refine Below.drew ?_ | refine below_drewN ?_ _ | refine Below.allocC ?_ _ | refine Below.setCell ?_ (by first | (simp; done) | (simp; omega)) _ | refine Below.chain ?_ (by assumption)))) | exact C7.out _ (show Below w1.heap.size w1 _ from (by repeat (first | exact Below.refl _ _ | refine Below.drew ?_ | refine below_drewN ?_ _ | refine Below.allocC ?_ _ | refine Below.setCell ?_ (by first | (simp; done) | (simp; omega)) _ | refine Below.chain ?_ (by assumption)))) | exact (show Below w1.heap.size w1 _ from (by repeat (first | exact Below.refl _ _ | refine Below.drew ?_ | refine below_drewN ?_ _ | refine Below.allocC ?_ _ | refine Below.setCell ?_ (by first | (simp; done) | (simp; omega)) _ | refine Below.chain ?_ (by assumption)))) | exact HB1.out.trans ((show Below w1.heap.size w1 _ from (by repeat (first | exact Below.refl _ _ | refine Below.drew ?_ | refine below_drewN ?_ _ | refine Below.allocC ?_ _ | refine Below.setCell ?_ (by first | (simp; done) | (simp; omega)) _ | refine Below.chain ?_ (by assumption)))).mono HB1.out.size))
      clear hK K hHeld; have hHeld := hHeld2; clear hHeld2
      try simp only [Act.put, List.setIfInBounds_toArray, List.set_cons_zero, List.set_cons_succ]
      refine wpAnyH_ready (rs := [3, 13]) (by kernel_rfl) (by simp) ?_
      refine AllReadyH.cons (o := _) rfl (fun K hK => ?g4n3) (AllReadyH.cons (o := _) rfl (fun K hK => ?g4n13) AllReadyH.nil)
      case' g4n3 =>
        go_simp
        go_at_call 14
        refine (KD5.out _ (by go_split_ands; assumption)).mono ?_
        rintro e w' ⟨rfl, hbk⟩
        try (have hcvz : (convert 37 9 (.slice (some ⟨w1.heap.size, 0, none⟩) 2 2)).run Tryd.prog w' = .ok (.string ⟨#[d6, d7]⟩) w' := HCV.out w1.drew _ hbk)
        go_wp2_with fail
        refine hK.out _ _ ?_ (fun hHeld2 => ?_)
        · (try dsimp only); (go_split_ands; (repeat' apply And.intro) <;> first | assumption | exact HB1.out | exact keepS (by assumption) (by assumption) | exact C5.out _ (show Below w1.heap.size w1 _ from (by repeat (first | exact Below.refl _ _ | refine Below.drew ?_ | refine below_drewN ?_ _ | refine Below.allocC ?_ _ | refine Below.setCell ?_ (by first | (simp; done) | (simp; omega)) _ | refine Below.chain ?_ (by assumption)))) | exact C6.out _ (show Below w1.heap.size w1 _ from (by repeat (first | exact Below.refl _ _ | refine Below.drew ?_ | refine below_drewN ?_ _ | refine Below.allocC ?_ _ | refine Below.setCell ?_ (by first | (simp; done) | (simp; omega)) _ | refine Below.chain ?_ (by assumption)))) | exact C7.out _ (show Below w1.heap.size w1 _ from (by repeat (first | exact Below.refl _ _ | refine Below.drew ?_ | refine below_drewN ?_ _ | refine Below.allocC ?_ _ | refine Below.setCell ?_ (by first | (simp; done) | (simp; omega)) _ | refine Below.chain ?_ (by assumption)))) | exact (show Below w1.heap.size w1 _ from (by repeat (first | exact Below.refl _ _ | refine Below.drew ?_ | refine below_drewN ?_ _ | refine Below.allocC ?_ _ | refine Below.setCell ?_ (by first | (simp; done) | (simp; omega)) _ | refine Below.chain ?_ (by assumption)))) | exact HB1.out.trans ((show Below w1.heap.size w1 _ from (by repeat (first | exact Below.refl _ _ | refine Below.drew ?_ | refine below_drewN ?_ _ | refine Below.allocC ?_ _ | refine Below.setCell ?_ (by first | (simp; done) | (simp; omega)) _ | refine Below.chain ?_ (by assumption)))).mono HB1.out.size))
        clear hK K hHeld; have hHeld := hHeld2; clear hHeld2
        try simp only [Act.put, List.setIfInBounds_toArray, List.set_cons_zero, List.set_cons_succ]
        refine wpAnyH_ready (rs := [13]) (by kernel_rfl) (by simp) ?_
        refine AllReadyH.cons (o := _) rfl (fun K hK => ?g5n13) AllReadyH.nil
        case' g5n13 =>
          go_simp
          refine hK.out _ _ ?_ (fun hHeld2 => ?_)
          · (try dsimp only); (go_split_ands; (repeat' apply And.intro) <;> first | assumption | exact HB1.out | exact keepS (by assumption) (by assumption) | exact C5.out _ (show Below w1.heap.size w1 _ from (by repeat (first | exact Below.refl _ _ | refine Below.drew ?_ | refine below_drewN ?_ _ | refine Below.allocC ?_ _ | refine Below.setCell ?_ (by first | (simp; done) | (simp; omega)) _ | refine Below.chain ?_ (by assumption)))) | exact C6.out _ (show Below w1.heap.size w1 _ from (by repeat (first | exact Below.refl _ _ | refine Below.drew ?_ | refine below_drewN ?_ _ | refine Below.allocC ?_ _ | refine Below.setCell ?_ (by first | (simp; done) | (simp; omega)) _ | refine Below.chain ?_ (by assumption)))) | exact C7.out _ (show Below w1.heap.size w1 _ from (by repeat (first | exact Below.refl _ _ | refine Below.drew ?_ | refine below_drewN ?_ _ | refine Below.allocC ?_ _ | refine Below.setCell ?_ (by first | (simp; done) | (simp; omega)) _ | refine Below.chain ?_ (by assumption)))) | exact (show Below w1.heap.size w1 _ from (by repeat (first | exact Below.refl _ _ | refine Below.drew ?_ | refine below_drewN ?_ _ | refine Below.allocC ?_ _ | refine Below.setCell ?_ (by first | (simp; done) | (simp; omega)) _ | refine Below.chain ?_ (by assumption)))) | exact HB1.out.trans ((show Below w1.heap.size w1 _ from (by repeat (first | exact Below.refl _ _ | refine Below.drew ?_ | refine below_drewN ?_ _ | refine Below.allocC ?_ _ | refine Below.setCell ?_ (by first | (simp; done) | (simp; omega)) _ | refine Below.chain ?_ (by assumption)))).mono HB1.out.size))
          clear hK K hHeld; have hHeld := hHeld2; clear hHeld2
          try simp only [Act.put, List.setIfInBounds_toArray, List.set_cons_zero, List.set_cons_succ]
          refine wpAnyH_take (i := 14) (oi := _) (v := ?_) rfl (by kernel_rfl) (by kernel_rfl) (by kernel_rfl) (fun _ _ _ h => h) (Or.inl ⟨by rfl, ?_⟩) (by assumption) ?_
          rotate_left
          · (intro w hSw; (try dsimp only at hSw); go_simp); all_goals with_reducible rfl
          try simp only [Act.put, List.setIfInBounds_toArray, List.set_cons_zero, List.set_cons_succ]
          refine wpAnyH_take (i := 15) (oi := _) (v := ?_) rfl (by kernel_rfl) (by kernel_rfl) (by kernel_rfl) (fun _ _ _ h => h) (Or.inl ⟨by rfl, ?_⟩) (by assumption) ?_
          rotate_left
          · (intro w hSw; (try dsimp only at hSw); go_simp); all_goals with_reducible rfl
          try simp only [Act.put, List.setIfInBounds_toArray, List.set_cons_zero, List.set_cons_succ]
          refine wpAnyH_done (by kernel_rfl) ?_ _
      case' g4n13 =>
        go_simp
        refine hK.out _ _ ?_ (fun hHeld2 => ?_)
        · (try dsimp only); (go_split_ands; (repeat' apply And.intro) <;> first | assumption | exact HB1.out | exact keepS (by assumption) (by assumption) | exact C5.out _ (show Below w1.heap.size w1 _ from (by repeat (first | exact Below.refl _ _ | refine Below.drew ?_ | refine below_drewN ?_ _ | refine Below.allocC ?_ _ | refine Below.setCell ?_ (by first | (simp; done) | (simp; omega)) _ | refine Below.chain ?_ (by assumption)))) | exact C6.out _ (show Below w1.heap.size w1 _ from (by repeat (first | exact Below.refl _ _ | refine Below.drew ?_ | refine below_drewN ?_ _ | refine Below.allocC ?_ _ | refine Below.setCell ?_ (by first | (simp; done) | (simp; omega)) _ | refine Below.chain ?_ (by assumption)))) | exact C7.out _ (show Below w1.heap.size w1 _ from (by repeat (first | exact Below.refl _ _ | refine Below.drew ?_ | refine below_drewN ?_ _ | refine Below.allocC ?_ _ | refine Below.setCell ?_ (by first | (simp; done) | (simp; omega)) _ | refine Below.chain ?_ (by assumption)))) | exact (show Below w1.heap.size w1 _ from (by repeat (first | exact Below.refl _ _ | refine Below.drew ?_ | refine below_drewN ?_ _ | refine Below.allocC ?_ _ | refine Below.setCell ?_ (by first | (simp; done) | (simp; omega)) _ | refine Below.chain ?_ (by assumption)))) | exact HB1.out.trans ((show Below w1.heap.size w1 _ from (by repeat (first | exact Below.refl _ _ | refine Below.drew ?_ | refine below_drewN ?_ _ | refine Below.allocC ?_ _ | refine Below.setCell ?_ (by first | (simp; done) | (simp; omega)) _ | refine Below.chain ?_ (by assumption)))).mono HB1.out.size))
        clear hK K hHeld; have hHeld := hHeld2; clear hHeld2
        try simp only [Act.put, List.setIfInBounds_toArray, List.set_cons_zero, List.set_cons_succ]
        refine wpAnyH_ready (rs := [3]) (by kernel_rfl) (by simp) ?_
        refine AllReadyH.cons (o := _) rfl (fun K hK => ?g6n3) AllReadyH.nil
        case' g6n3 =>
          go_simp
          go_at_call 14
          refine (KD5.out _ (by go_split_ands; assumption)).mono ?_
          rintro e w' ⟨rfl, hbk⟩
          try (have hcvz : (convert 37 9 (.slice (some ⟨w1.heap.size, 0, none⟩) 2 2)).run Tryd.prog w' = .ok (.string ⟨#[d6, d7]⟩) w' := HCV.out w1.drew _ hbk)
          go_wp2_with fail
          refine hK.out _ _ ?_ (fun hHeld2 => ?_)
          · (try dsimp only); (go_split_ands; (repeat' apply And.intro) <;> first | assumption | exact HB1.out | exact keepS (by assumption) (by assumption) | exact C5.out _ (show Below w1.heap.size w1 _ from (by repeat (first | exact Below.refl _ _ | refine Below.drew ?_ | refine below_drewN ?_ _ | refine Below.allocC ?_ _ | refine Below.setCell ?_ (by first | (simp; done) | (simp; omega)) _ | refine Below.chain ?_ (by assumption)))) | exact C6.out _ (show Below w1.heap.size w1 _ from (by repeat (first | exact Below.refl _ _ | refine Below.drew ?_ | refine below_drewN ?_ _ | refine Below.allocC ?_ _ | refine Below.setCell ?_ (by first | (simp; done) | (simp; omega)) _ | refine Below.chain ?_ (by assumption)))) | exact C7.out _ (show Below w1.heap.size w1 _ from (by repeat (first | exact Below.refl _ _ | refine Below.drew ?_ | refine below_drewN ?_ _ | refine Below.allocC ?_ _ | refine Below.setCell ?_ (by first | (simp; done) | (simp; omega)) _ | refine Below.chain ?_ (by assumption)))) | exact (show Below w1.heap.size w1 _ from (by repeat (first | exact Below.refl _ _ | refine Below.drew ?_ | refine below_drewN ?_ _ | refine Below.allocC ?_ _ | refine Below.setCell ?_ (by first | (simp; done) | (simp; omega)) _ | refine Below.chain ?_ (by assumption)))) | exact HB1.out.trans ((show Below w1.heap.size w1 _ from (by repeat (first | exact Below.refl _ _ | refine Below.drew ?_ | refine below_drewN ?_ _ | refine Below.allocC ?_ _ | refine Below.setCell ?_ (by first | (simp; done) | (simp; omega)) _ | refine Below.chain ?_ (by assumption)))).mono HB1.out.size))
          clear hK K hHeld; have hHeld := hHeld2; clear hHeld2
          try simp only [Act.put, List.setIfInBounds_toArray, List.set_cons_zero, List.set_cons_succ]
          refine wpAnyH_take (i := 14) (oi := _) (v := ?_) rfl (by kernel_rfl) (by kernel_rfl) (by kernel_rfl) (fun _ _ _ h => h) (Or.inl ⟨by rfl, ?_⟩) (by assumption) ?_
          rotate_left
          · (intro w hSw; (try dsimp only at hSw); go_simp); all_goals with_reducible rfl
          try simp only [Act.put, List.setIfInBounds_toArray, List.set_cons_zero, List.set_cons_succ]
          refine wpAnyH_take (i := 15) (oi := _) (v := ?_) rfl (by kernel_rfl) (by kernel_rfl) (by kernel_rfl) (fun _ _ _ h => h) (Or.inl ⟨by rfl, ?_⟩) (by assumption) ?_
          rotate_left
          · (intro w hSw; (try dsimp only at hSw); go_simp); all_goals with_reducible rfl
          try simp only [Act.put, List.setIfInBounds_toArray, List.set_cons_zero, List.set_cons_succ]
          refine wpAnyH_done (by kernel_rfl) ?_ _
    all_goals
      have HS := hHeld
      clear hHeld
      have HB4 := Lib.hid HS.1
      have H14 := Lib.hid HS.2.1
      clear HS c5 c6 c7
      go_wp2_with fail
      refine (KH.out _).mono ?_
      rintro e w5 ⟨rfl, hb5⟩
      have HB5 := Lib.hid (HB4.out.trans (hb5.mono HB4.out.size))
      have H15 := Lib.hid (H14.out.trans (hb5.mono H14.out.size))
      clear hb5 HB4 H14
      go_wp2_with fail
      refine (KU.out _ HB5.out).mono ?_
      rintro e w6 ⟨rfl, hb6⟩
      have HB6 := Lib.hid (HB5.out.trans (hb6.mono HB5.out.size))
      have H16 := Lib.hid (H15.out.trans (hb6.mono H15.out.size))
      clear hb6 HB5 H15
      have c0 : w6.cell? ⟨b, off, none⟩ = some (.int .i64 x0) := C0.out w6 H16.out
      have c1 := C1.out w6 H16.out
      go_wp2_with fail
      go_quiet (fail)
      have HB7 := Lib.hid (HB6.out.trans ((show Below w6.heap.size w6 (w6.drewN nq) from (by repeat (first | exact Below.refl _ _ | refine Below.drew ?_ | refine below_drewN ?_ _ | refine Below.allocC ?_ _ | refine Below.setCell ?_ (by first | (simp; done) | (simp; omega)) _ | refine Below.chain ?_ (by assumption)))).mono HB6.out.size))
      have H17 := Lib.hid (H16.out.trans ((show Below w6.heap.size w6 (w6.drewN nq) from (by repeat (first | exact Below.refl _ _ | refine Below.drew ?_ | refine below_drewN ?_ _ | refine Below.allocC ?_ _ | refine Below.setCell ?_ (by first | (simp; done) | (simp; omega)) _ | refine Below.chain ?_ (by assumption)))).mono H16.out.size))
      clear c0 c1 HB6 H16
      go_wp2_with fail
      refine (KDN.out _ HB7.out).mono ?_
      rintro e w8 ⟨rfl, hb8⟩
      have HB8 := Lib.hid (HB7.out.trans (hb8.mono HB7.out.size))
      have H18 := Lib.hid (H17.out.trans (hb8.mono H17.out.size))
      clear hb8 HB7 H17
      go_wp2_with fail
      refine (KRN.out _ HB8.out).mono ?_
      rintro e w9 ⟨rfl, hb9⟩
      have HB9 := Lib.hid (HB8.out.trans (hb9.mono HB8.out.size))
      have H19 := Lib.hid (H18.out.trans (hb9.mono H18.out.size))
      clear hb9 HB8 H18
      have c2 := C2.out w9 H19.out
      have c3 := C3.out w9 H19.out
      have c4 := C4.out w9 H19.out
      go_wp2_with fail
      go_quiet (first | (go_at_call 29; exact Calls.quiet_of_same ((KBR.out _).mono fun e w' h => ⟨h.1, h.2.symm⟩)))
      clear c2
      go_wp2_with fail
      go_quiet (first | (go_at_call 29; refine (KBR2.out _).mono ?_; rintro e w'' ⟨rfl, rfl⟩; exact ⟨rfl, _, rfl⟩))
      go_wp2
      go_ret
      refine ⟨rfl, HB9.out.trans (Below.mono ?_ HB9.out.size)⟩
      exact ⟨rfl, rfl, rfl, Nat.le_refl _, fun _ _ => rfl⟩

/- SIG
theorem walk (a0 : Option Addr) (len0 cap0 : Nat) (z0 : List Int) (w : World) (w0 : IsRow .u8 w a0 len0 cap0 z0) (hL : laidMetH Tryd.prog Rows.fnFiguresRow.laid w) :
    Calls Tryd.prog 8 #[.slice a0 len0 cap0] w fun e w' => e = .returned (.bool true) ∧ Below w.heap.size w w' := by
-/
theorem own : ownKnob Tryd.prog.godebug = none := by kernel_rfl
theorem laidOut : laidOutB Tryd.prog = true := by kernel_rfl
theorem door_met (os : Os) (args : Array Value) : laidMetH Tryd.prog Rows.fnFiguresRow.laid ((World.doorLaid Tryd.prog 400 os).forCall (fun _ _ => 0) ⟨#[], args, []⟩).memory :=
  laidMetH_of_parts3 (fuel := 8) (laidMet_of_run' 8 (by kernel_rfl) (by kernel_rfl)) (by kernel_rfl) (by kernel_rfl)
set_option maxRecDepth 100000 in
theorem lifted (os : Os) (started : os.Started) (H : Type) (enc : TypeId × Value → H) :
    ReturnsInHanded {} Tryd.checked os 8 .any (fun w args => (Rows.fnFiguresSpec.pre enc Tryd.prog Tryd.f8 [] false w args ∧ laidMetH Tryd.prog Rows.fnFiguresRow.laid w) ∧ sizedMet enc Tryd.prog Tryd.f8 (OpenSpec.ofChange Rows.fnFiguresSpec) false w args)
      (Rows.fnFiguresSpec.post enc Tryd.prog Tryd.f8 false true false false) := by
  refine returnsInHanded_of_change_and (C := Tryd.checked) (X := fun w _ => laidMetH Tryd.prog Rows.fnFiguresRow.laid w) (fun _ _ _ hh h => h.of_heap hh) own started (by kernel_rfl) Tryd.func8
    (ChangeSpec.witness_shaped (enc := enc) (C := Tryd.checked) (os := os) (X := fun w _ => laidMetH Tryd.prog Rows.fnFiguresRow.laid w) false (World.doorLaid Tryd.prog 400 os) #[.slice none 0 0] 8 rfl (World.shaped_of_RefB (by kernel_rfl) (by kernel_rfl)) (by kernel_rfl) (by kernel_rfl) (by kernel_rfl) (door_met os _)) ?_
  intro W base args ds gs before hval0 hW _ _ hL _
  have hval : ∀ (j : Nat) t v, Tryd.f8.params[j]? = some t → args[j]? = some v → Value.okWide Tryd.prog W .any base t v := hval0
  have hW' := hW
  obtain ⟨p, q, hA0, hV, rfl, hfz, hnd⟩ := hW
  have hA : DataW.TrodAll enc Tryd.prog W 0 (fun _ => true) true Tryd.f8.params.toList args.toList ds p := hA0
  rw [Tryd.params8] at hA hval
  obtain ⟨v0, vs0, d0, ds0, p0, q0, hargs, rfl, rfl, h0, g0⟩ := trodAll_cons hA
  obtain ⟨rfl, rfl, rfl⟩ := trodAll_nil g0
  obtain rfl : args = #[v0] := by cases args; simp_all
  have hlen := trodVars_length hV
  obtain rfl : gs = [] := List.eq_nil_of_length_eq_zero hlen
  have k0 := h0
  have lt0 : ∀ x ∈ p0, x.block < W.heap.size := by obtain ⟨m, hm⟩ := k0; exact DataW.trod_lt m _ _ _ hm
  obtain ⟨a0, len0, cap0, rfl⟩ := okWide_slice Tryd.underlying37 (hval 0 37 v0 rfl rfl)
  obtain ⟨z0, w0⟩ := isRow_of Tryd.underlying37 Tryd.underlying5 (by kernel_rfl) h0
  clear hA0 hval0
  refine (walk a0 len0 cap0 z0 W w0 hL).mono fun e W' ⟨he, bel⟩ => ?_
  subst he
  exact ⟨_, rfl, _, _, _, [], _, _, hW', trodAll_mk1 (shut_bool Tryd.underlying4 _), (trodAll_cons_mk (Below.trod laidOut (by kernel_rfl) (of_decide_eq_true (by kernel_rfl)) k0 bel lt0) trodAll_mk0), Below.trodVars laidOut bel (by kernel_rfl) hV, bel.frame _, fun h => by cases h⟩
theorem over : Rows.fnFiguresRow.holds Tryd.pinned (OpenSpec.ofChange Rows.fnFiguresSpec) :=
  OpenClaim.holds_of_wide 8 Tryd.f8 rfl rfl rfl rfl rfl rfl rfl ⟨rfl, rfl, rfl, rfl, rfl⟩ rfl rfl rfl rfl rfl (by kernel_rfl) Tryd.func8 (by kernel_rfl)
    (of_decide_eq_true (by kernel_rfl)) (by unfold Func.isWrapper; first | (rw [if_pos (by decide +kernel)]; kernel_rfl) | (rw [if_neg (by decide +kernel)]; exact ⟨rfl, rfl⟩))
    (fun os started H enc _ => lifted os started H enc)
theorem proved : Rows.FnFiguresCardSaid :=
  Claim7.holds_tied_plain_at .later [] [.data, .data, .data, .sentinel, .sentinel, .sentinel] true (true, "a394b0db006c70c03e36c392521b106b757790137339a8f1ab7d24a56b76f51b") true
    over (fun _ h => by cases h) (by kernel_rfl) (fun _ h => by cases h) fnFigures_row_tie rfl ⟨rfl, rfl⟩ (by kernel_rfl) rfl
    (fun f fn hf hfn => by
      obtain rfl : f = 8 := Option.some.inj ((show Tryd.prog.funcNamed "loop.example/g00974/laws.FnFigures" = some 8 by kernel_rfl).symm.trans hf) |>.symm
      obtain rfl : fn = Tryd.f8 := (Option.some.inj (Tryd.func8.symm.trans hfn)).symm
      exact ⟨by kernel_rfl, fun j t ht => by
        rw [Tryd.params8] at ht
        have hm : t ∈ [37] := by
          have this := Array.mem_of_getElem? ht
          simp only [List.mem_toArray, List.mem_cons, List.not_mem_nil, or_false] at this ⊢
          first | assumption | (rcases this with h <;> simp [h])
        have hall : ([37].all fun u => !Tryd.prog.wantsStandIn u) = true := by kernel_rfl
        exact (show Tryd.prog.wantsStandIn t = false by simpa using List.all_eq_true.1 hall t hm)⟩)
    (by kernel_rfl)
#print axioms proved

end Go.Proofs.YtedbmmoddemngaaDoor.fnFigures
