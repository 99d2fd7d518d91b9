/- FnNewKid: a new process runs and has its parent's pages, one that has ended makes no calls, where the library's variables hold what their texts lay. -/
import Derived.Test.YtihghflppegnmaaGreatDoorCards
import Derived.Test.YtihghflppegnmaaGreatDoorTie
import Derived.Test.YtihghflppegnmaaGreatDoorNk8
import Derived.Test.YtihghflppegnmaaGreatDoorNk9
import Derived.LaidMore
import Derived.OpenVars
import Derived.Stop.Joined
import Derived.SevenTiedAt
import Derived.Lib.LaidU8
import Derived.LaidLaws
import Derived.Lib.Hide
import Derived.Deep.RegionHeld3
import Derived.Deep.DrawnRows
import Derived.Deep.CutRange
import Derived.BigQuiet
set_option linter.unusedSimpArgs false
set_option linter.unusedVariables false
namespace Go.Proofs.YtihghflppegnmaaGreatDoor.fnNewKid
open Go.ChangeShapes Go.WideShapes Go.ChangeAt Go.RowKit
open Go.ChangeMaps (open_string shut_string)
attribute [local go_sem ↓] Go.wp_at_zero Go.wp_at_succ
theorem dec_of_laid {w : World} (h : laidMetH Tryz.prog Rows.fnNewKidRow.laid w) : DecTab w := by
  rw [MakeChecks.laidMetH_plain _ _ _ (by kernel_rfl)] at h
  obtain ⟨g, t, cs, fuel, p, hg, ht, hv, hd⟩ := Lib.laidMet.reads h (n := "internal/strconv.uint64pow10") (d := Rows.laid_internal_strconv_uint64pow10) (by repeat (first | exact List.Mem.head _ | apply List.Mem.tail))
  obtain rfl := Option.some.inj ((show (Tryz.prog.globals[0]?).map (·.type) = some 239 by kernel_rfl).symm.trans (by rw [← ht]; congr 2; exact Option.some.inj ((show Tryz.prog.globalNamed "internal/strconv.uint64pow10" = some 0 by kernel_rfl).symm.trans hg)))
  have e : Rows.laid_internal_strconv_uint64pow10 = (Lib.tabData .u64 Lib.pow10Tab : DataW Unit) := by kernel_rfl
  rw [e] at hd
  unfold DecTab Lib.TabIs
  rw [hv, ← Lib.cells_of_tab Tryz.underlying239 Tryz.underlying226 (by kernel_rfl) (by kernel_rfl) hd]
theorem syn_of_laid {w : World} (h : laidMetH Tryz.prog Rows.fnNewKidRow.laid w) : ∃ tp p, w.var? Tryz.prog "strconv.ErrSyntax" = some #[.iface tp p] := by
  rw [MakeChecks.laidMetH_plain _ _ _ (by kernel_rfl)] at h
  obtain ⟨g, t, cs, fuel, p, hg, ht, hv, hd⟩ := Lib.laidMet.reads h (n := "strconv.ErrSyntax") (d := Rows.laid_strconv_ErrSyntax) (by repeat (first | exact List.Mem.head _ | apply List.Mem.tail))
  obtain rfl := Option.some.inj ((show (Tryz.prog.globals[2]?).map (·.type) = some 215 by kernel_rfl).symm.trans (by rw [← ht]; congr 2; exact Option.some.inj ((show Tryz.prog.globalNamed "strconv.ErrSyntax" = some 2 by kernel_rfl).symm.trans hg)))
  obtain ⟨_, u, v, e, _, _⟩ := iface_of_trod Tryz.underlying215 hd
  have e2 : cs = #[.iface u v] := by
    apply Array.toList_inj.1
    simpa using e
  rw [e2] at hv
  exact ⟨u, v, hv⟩
theorem ran_of_laid {w : World} (h : laidMetH Tryz.prog Rows.fnNewKidRow.laid w) : ∃ tp p, w.var? Tryz.prog "strconv.ErrRange" = some #[.iface tp p] := by
  rw [MakeChecks.laidMetH_plain _ _ _ (by kernel_rfl)] at h
  obtain ⟨g, t, cs, fuel, p, hg, ht, hv, hd⟩ := Lib.laidMet.reads h (n := "strconv.ErrRange") (d := Rows.laid_strconv_ErrRange) (by repeat (first | exact List.Mem.head _ | apply List.Mem.tail))
  obtain rfl := Option.some.inj ((show (Tryz.prog.globals[3]?).map (·.type) = some 215 by kernel_rfl).symm.trans (by rw [← ht]; congr 2; exact Option.some.inj ((show Tryz.prog.globalNamed "strconv.ErrRange" = some 3 by kernel_rfl).symm.trans hg)))
  obtain ⟨_, u, v, e, _, _⟩ := iface_of_trod Tryz.underlying215 hd
  have e2 : cs = #[.iface u v] := by
    apply Array.toList_inj.1
    simpa using e
  rw [e2] at hv
  exact ⟨u, v, hv⟩
theorem odd_of_laid {w : World} (h : laidMetH Tryz.prog Rows.fnNewKidRow.laid w) : OddErr w := by
  rw [MakeChecks.laidMetH_plain _ _ _ (by kernel_rfl)] at h
  obtain ⟨g, t, cs, fuel, p, hg, ht, hv, hd⟩ := Lib.laidMet.reads h (n := "encoding/hex.ErrLength") (d := Rows.laid_encoding_hex_ErrLength) (by repeat (first | exact List.Mem.head _ | apply List.Mem.tail))
  obtain rfl := Option.some.inj ((show Tryz.prog.globalNamed "encoding/hex.ErrLength" = some 1 by kernel_rfl).symm.trans hg)
  obtain rfl := Option.some.inj ((show (Tryz.prog.globals[1]?).map (·.type) = some 215 by kernel_rfl).symm.trans ht)
  obtain ⟨_, u, v, e, _, _⟩ := iface_of_trod Tryz.underlying215 hd
  have hc := World.var?_cell hg hv 0
  have e2 : cs[0]? = some (.iface u v) := by
    have := congrArg (·[0]?) e
    simpa using this
  rw [e2] at hc
  exact ⟨u, v, hc⟩

set_option maxRecDepth 100000 in
set_option maxHeartbeats 8000000 in
theorem walk (a0 : Option Addr) (len0 cap0 : Nat) (z0 : List Int) (w : World) (w0 : IsRow .u8 w a0 len0 cap0 z0) (hL : laidMetH Tryz.prog Rows.fnNewKidRow.laid w) :
    Calls Tryz.prog 3 #[.slice a0 len0 cap0] w fun e w' => e = .returned (.bool true) ∧ Below w.heap.size w w' := by
  have HT := Lib.hid (fun (W : World) (hW : Below w.heap.size w W) => (Tabs.below ⟨dec_of_laid hL, ⟨syn_of_laid hL, ran_of_laid hL⟩, odd_of_laid hL⟩ hW : Tabs W))
  clear hL
  have HZ := Lib.hid w0
  clear w0
  by_cases hbig : 1048576 < len0
  · have KB := Lib.hid (fun W => big_yes a0 len0 cap0 W hbig)
    go_enter Tryz.func3, Tryz.ntmps3
    go_wp2_with fail
    refine (KB.out _).mono ?_
    rintro e w1 ⟨rfl, rfl⟩
    go_wp2
    go_ret
    exact ⟨rfl, Below.refl _ _⟩
  · have KB := Lib.hid (fun W => big_no a0 len0 cap0 W (by omega))
    have KM := Lib.hid (drawPlaces_c a0 len0 cap0 z0 w HZ.out)
    go_enter Tryz.func3, Tryz.ntmps3
    go_wp2_with fail
    refine (KB.out _).mono ?_
    rintro e w1 ⟨rfl, rfl⟩
    go_wp2_with fail
    refine KM.out.mono ?_
    rintro e w1 ⟨a, cap, xs, rfl, hl, hx, hr, hb1⟩
    obtain ⟨b, off, rfl⟩ : ∃ b off, a = some ⟨b, off, none⟩ := by
      rcases hr with h | ⟨b, off, h, _⟩
      · rw [h] at hl; simp at hl
      · exact ⟨b, off, h⟩
    have HR := Lib.hid hr
    have HX := Lib.hid hx
    have HB1 := Lib.hid hb1
    have P : Hid (∀ k, k < 12 → ∃ x : Int, 0 ≤ x ∧ x < 10000 ∧ ∀ W, Below w1.heap.size w1 W → W.cell? ⟨b, off + k, none⟩ = some (.int .i64 x)) := Lib.hid (fun k hk => by
      obtain ⟨x, hx⟩ := some_of_lt (xs := xs) (k := k) (by omega)
      have h := HX.out x (List.mem_of_getElem? hx)
      refine ⟨x, h.1, h.2, fun W hW => ?_⟩
      rcases HR.out.below hW with h | ⟨b', off', e, h2, h3⟩
      · rw [h] at hx; simp at hx
      · cases e
        have := h3 k x hx 0 (.int .i64 x) rfl
        simpa using this)
    clear hr hx hb1 HR HX hl KM KB
    obtain ⟨x0, l0, n0, c0'⟩ := P.out 0 (by decide)
    obtain ⟨x1, l1, n1, c1'⟩ := P.out 1 (by decide)
    have C0 := Lib.hid c0'
    have C1 := Lib.hid c1'
    clear c0' c1' P
    have hw4 : IntKind.i64.wrap (x0.tmod 4) = x0.tmod 4 := by rw [IntKind.wrap_i64]; have := Int.tmod_eq_emod_of_nonneg (b := 4) l0; omega
    have hw101 : IntKind.i64.wrap (x1.tmod 101) = x1.tmod 101 := by rw [IntKind.wrap_i64]; have := Int.tmod_eq_emod_of_nonneg (b := 101) l1; omega
    have hk : x0.tmod 4 = 0 ∨ x0.tmod 4 = 1 ∨ x0.tmod 4 = 2 ∨ x0.tmod 4 = 3 := by have := Int.tmod_eq_emod_of_nonneg (b := 4) l0; omega
    have hn0 : 0 ≤ x1.tmod 101 := by have := Int.tmod_eq_emod_of_nonneg (b := 101) l1; omega
    have hn1 : x1.tmod 101 ≤ 100 := by have := Int.tmod_eq_emod_of_nonneg (b := 101) l1; omega
    obtain ⟨k, hkk⟩ : ∃ k, x0.tmod 4 = k := ⟨_, rfl⟩
    obtain ⟨n, hnn⟩ : ∃ n, x1.tmod 101 = n := ⟨_, rfl⟩
    rw [hkk] at hk hw4
    rw [hnn] at hn0 hn1 hw101
    obtain ⟨m1, m2, m3, m4, m5, m6, e1, e2, e3, e4, e5, g1, g2, g3, g4, g5, g6⟩ := kid_calls hk hn0 hn1
    have G1 := Lib.hid g1
    have G2 := Lib.hid g2
    have G3 := Lib.hid g3
    have G4 := Lib.hid g4
    have G5 := Lib.hid g5
    have G6 := Lib.hid g6
    have KBT := Lib.hid (fun W (hW : Below w.heap.size w W) => bootI_c W (fun X hX => HT.out X (hW.trans (hX.mono hW.size))))
    rw [show bootS = sto0 from boot_is] at KBT
    clear g1 g2 g3 g4 g5 g6
    clear hk hn0 hn1
    have BB := Lib.hid (show ∀ W, Below w1.heap.size w1 W → Below w.heap.size w W from fun W h => HB1.out.trans (h.mono HB1.out.size))
    have KC1 := Lib.hid (fun W a cap (hb : Below w.heap.size w W) (hr : Reads W a 2 encC sto0) => G1.out W a cap (fun X hX => HT.out X (hb.trans (hX.mono hb.size))) hr)
    go_upto_region 4 with fail
    go_cut [4, 5, 6] from 24 to 34 (fun sx _ _ wx => Hid (∃ a c, sx = .slice a (sto1 k).length c ∧ Reads wx a 2 encC (sto1 k) ∧ Below w1.heap.size w1 wx))
    case first =>
      clear G1 G2 G3 G4 G5 G6 HZ
      have cr0 : ∀ W, Below w1.heap.size w1 W → W.cell? ⟨b, off, none⟩ = some (.int .i64 x0) := fun W h => C0.out W h
      refine wp_region_noPanic ?_
      refine wp_region_Y (fun w' => Below w1.heap.size w1 w') [] (by kernel_rfl) (Below.refl _ _).drew (fun hS => ?_)
      refine GA.begin (p := 11) (q := 12) (tp := 5) (tq := 6) (Zp := [.int .i64 0, .int .i64 0, .string ⟨#[]⟩]) (Zq := [.slice none 0 0, .slice none 0 0]) (Tp := 28) (Tq := 31) (B := w1.heap.size) (f := 14) (F := fun _ => False) (Inv := fun W => Below w1.heap.size w1 W) ?_ hS (fun k h => h.elim) hS.size (fun T => ?_)
      · refine TwoAl.of ?_ ?_
        · intro a W; go_simp
        · intro a W; go_simp
      refine GA.pure (fun _ h => h) 1 (v := ?_) ?_ ?_
      rotate_left
      · (intro x y w; simp only [pA, Act.put, sq1, sq2, sq3, sq4, sq5, sq6]; go_simp); all_goals with_reducible rfl
      try simp only [Act.put, sq1, sq2, sq3, sq4, sq5, sq6]
      refine GA.pure (fun _ h => h) 2 (v := ?_) ?_ ?_
      rotate_left
      · (intro x y w; simp only [pA, Act.put, sq1, sq2, sq3, sq4, sq5, sq6]; go_simp); all_goals with_reducible rfl
      try simp only [Act.put, sq1, sq2, sq3, sq4, sq5, sq6]
      refine GA.load (fun _ h => h) 3 (v := ?_) ?_ ?_
      rotate_left
      · (intro x y w hw; (try dsimp only at hw); simp only [pA, Act.put, sq1, sq2, sq3, sq4, sq5, sq6]; go_simp); all_goals with_reducible rfl
      try simp only [Act.put, sq1, sq2, sq3, sq4, sq5, sq6]
      refine GA.pure (fun _ h => h) 4 (v := ?_) ?_ ?_
      rotate_left
      · (intro x y w; simp only [pA, Act.put, sq1, sq2, sq3, sq4, sq5, sq6]; go_simp); all_goals with_reducible rfl
      try simp only [Act.put, sq1, sq2, sq3, sq4, sq5, sq6]
      refine GA.pure (fun _ h => h) 5 (v := ?_) ?_ ?_
      rotate_left
      · (intro x y w; simp only [pA, Act.put, sq1, sq2, sq3, sq4, sq5, sq6]; go_simp); all_goals with_reducible rfl
      try simp only [Act.put, sq1, sq2, sq3, sq4, sq5, sq6]
      refine GA.call T (fun _ h => h) (fun _ _ h hb => h.trans (hb.mono h.size)) 0 (SOut sto0 w1.heap.size) (fun u k => u.ownBlock = some k) (fun _ _ _ h hb => ownsRow_below h hb) ?_ ?_
      · intro x y W hI K hK
        (try dsimp only at hI)
        simp only [pA, Act.put, sq1, sq2, sq3, sq4, sq5, sq6]
        go_simp
        go_at_call 14
        refine (KBT.out _ (BB.out _ hI)).mono ?_
        rintro e wb hf
        obtain ⟨u, rfl, h1, h2, h3⟩ := fresh_out hf hI.size
        go_wp2_with fail
        exact hK.out u wb h1 h2 h3
      · rintro u ⟨W0, hu⟩
        obtain ⟨ab, cb, hvb, _, _⟩ := reads_of_owns' encC_len hu
        subst hvb
        try simp only [Act.put, sq1, sq2, sq3, sq4, sq5, sq6]
        refine GA.call T (fun _ h => h.1) (fun _ _ h hb => ⟨h.1.trans (hb.mono h.1.size), ownsRow_below h.2 hb⟩) 6 (COut m1 ⟨0, 0, noB⟩ w1.heap.size) COwn (fun _ _ _ h hb => h.below hb) ?_ ?_
        · rintro x y W ⟨hI, hO⟩ K hK
          have hR := hO.reads
          clear hO
          simp only [pA, Act.put, sq1, sq2, sq3, sq4, sq5, sq6]
          go_simp
          go_at_call 13
          refine (KC1.out W ab cb (BB.out _ hI) hR).mono ?_
          rintro e wb hf
          obtain ⟨u, rfl, h1, h2, h3⟩ := cret_out hf hI.size
          go_wp2_with fail
          exact hK.out u wb h1 h2 h3
        · rintro u ⟨W1, u1, u2, u3, rfl, hu1, _⟩
          obtain ⟨at1, ct1, hvt1, _⟩ := reads_of_owns encC_len hu1.o1
          obtain ⟨at2, ct2, hvt2, _⟩ := reads_of_owns encS_len hu1.o2
          obtain ⟨at3, ct3, hvt3, _⟩ := reads_of_owns encS_len hu1.o3
          subst hvt1 hvt2 hvt3
          clear hu hu1
          try simp only [Act.put, sq1, sq2, sq3, sq4, sq5, sq6]
          refine GA.pure (fun _ h => h.1.1) 7 (v := ?_) ?_ ?_
          rotate_left
          · (intro x y w; simp only [pA, Act.put, sq1, sq2, sq3, sq4, sq5, sq6]; go_simp); all_goals with_reducible rfl
          try simp only [Act.put, sq1, sq2, sq3, sq4, sq5, sq6]
          refine GA.pure (fun _ h => h.1.1) 8 (v := ?_) ?_ ?_
          rotate_left
          · (intro x y w; simp only [pA, Act.put, sq1, sq2, sq3, sq4, sq5, sq6]; go_simp); all_goals with_reducible rfl
          try simp only [Act.put, sq1, sq2, sq3, sq4, sq5, sq6]
          refine GA.pure (fun _ h => h.1.1) 9 (v := ?_) ?_ ?_
          rotate_left
          · (intro x y w; simp only [pA, Act.put, sq1, sq2, sq3, sq4, sq5, sq6]; go_simp); all_goals with_reducible rfl
          try simp only [Act.put, sq1, sq2, sq3, sq4, sq5, sq6]
          refine GA.pure (fun _ h => h.1.1) 10 (v := ?_) ?_ ?_
          rotate_left
          · (intro x y w; simp only [pA, Act.put, sq1, sq2, sq3, sq4, sq5, sq6]; go_simp); all_goals with_reducible rfl
          try simp only [Act.put, sq1, sq2, sq3, sq4, sq5, sq6]
          refine GA.last T (fun _ h => h.1.1) (fun _ _ h hb => ⟨⟨h.1.1.trans (hb.mono h.1.1.size), ownsRow_below h.1.2 hb⟩, h.2.below hb⟩) ?_
          rintro b1 b2 W ⟨⟨hB, hs⟩, hu⟩ x1 x2 g1 g2 n1 n2 ne
          have hO := hu.outs
          have q1 := not_cown (fun h => n1 (.inr h))
          have q2 := not_cown (fun h => n2 (.inr h))
          clear hs hu n1 n2
          have H1 := Lib.hid ((((show TwoB m1 w1.heap.size _ _ _ b1 b2 _ _ w1 W from ⟨x1, x2, hO, hB, g1, g2, ne, q1, q2⟩).set1 0 (.int .i64 0)).set1 1 (.int .i64 0)).set1 2 (.string noB))
          have c0 := x1.cell 0 _ rfl
          have f0 := x1.free 0
          have c1 := x1.cell 1 _ rfl
          have f1 := x1.free 1
          have c2 := x1.cell 2 _ rfl
          have f2 := x1.free 2
          have hS := hB
          clear x1 x2 q1 q2 hO
          simp only [pA, ptr0, Act.put, sq1, sq2, sq3, sq4, sq5, sq6]
          refine wpO 13 fun K hK => ?_
          go_simp
          refine hK.out _ _ (Or.inr hB) ?_
          clear hK K
          try simp only [Act.put, sq1, sq2, sq3, sq4, sq5, sq6]
          refine wpO 14 fun K hK => ?_
          go_simp
          refine hK.out _ _ (Or.inr H1.out.bel) ?_
          clear hK K
          try simp only [Act.put, sq1, sq2, sq3, sq4, sq5, sq6]
          generalize hWz : ((World.setCell _ _ _).setCell _ _).setCell _ _ = Wz at H1 ⊢
          clear hWz hB c0 f0 c1 f1 c2 f2
          have c3 := H1.out.x2.cell 0 _ rfl
          have f3 := H1.out.x2.free 0
          have c4 := H1.out.x2.cell 1 _ rfl
          have f4 := H1.out.x2.free 1
          have H2 := Lib.hid ((H1.out.set2 0 (.slice at2 m1.rs.length ct2)).set2 1 (.slice at3 m1.ws.length ct3))
          refine wpO 15 fun K hK => ?_
          go_simp
          refine hK.out _ _ (Or.inr H2.out.bel) ?_
          clear hK K
          try simp only [Act.put, sq1, sq2, sq3, sq4, sq5, sq6]
          refine wpAnyY_done (by kernel_rfl) ?_ _
          refine NoPanic.normal ?_
          go_wp2_with fail
          go_meet
          obtain ⟨a9, c9, hv9, hr9⟩ := reads_of_owns encC_len H2.out.outs.o1
          exact Lib.hid ⟨a9, c9, by rw [← e1]; exact hv9, e1 ▸ hr9, H2.out.bel⟩
    case rest =>
      clear G1 KC1 KBT
      obtain ⟨aS, cS, rfl, hRs, hBs⟩ := hcut.out
      have RS := Lib.hid hRs
      have BS := Lib.hid hBs
      clear hRs hBs hcut
      go_wp2_with fail
      refine (G2.out wc aS cS (fun X hX => HT.out X ((BB.out _ BS.out).trans (hX.mono (BB.out _ BS.out).size))) RS.out).mono ?_
      rintro e wd5 hf
      obtain ⟨u, rfl, h1, ⟨v1, v2, v3, rfl, ho, _⟩, _⟩ := cret_out (base := w1.heap.size) hf BS.out.size
      obtain ⟨as5, cs5, hvt1, _⟩ := reads_of_owns encC_len ho.o1
      obtain ⟨at2, ct2, hvt2, _⟩ := reads_of_owns encS_len ho.o2
      obtain ⟨at3, ct3, hvt3, _⟩ := reads_of_owns encS_len ho.o3
      subst hvt1 hvt2 hvt3
      have hB0 := BS.out.trans (h1.mono BS.out.size)
      have HA := Lib.hid (cat_text (0) (2) noB ho hB0 hB0.size)
      have HN := Lib.hid (below_two h1 (.cells #[.int .i64 (0), .int .i64 (2), .string noB] 28) (.cells #[.slice at2 m2.rs.length ct2, .slice at3 m2.ws.length ct3] 31))
      have hsz5 : w1.heap.size ≤ wd5.heap.size := hB0.size
      clear hf h1 ho hB0 BS RS
      go_upto_region 6 with fail
      generalize World.alloc (World.alloc _ _) _ = W6 at HA HN ⊢
      have HX5 := Lib.hid HA.out.x1
      have BS := Lib.hid HA.out.bel
      have RS := Lib.hid (reads_owns2 encC_len HA.out.outs.o1)
      rw [e2] at RS
      clear HA HN
      clear G2
      skip
      have cx : W6.cell? ⟨b, off, none⟩ = some (.int .i64 x0) := C0.out W6 BS.out
      go_wp2_with fail
      clear cx
      refine (G3.out W6 as5 cs5 (fun X hX => HT.out X ((BB.out _ BS.out).trans (hX.mono (BB.out _ BS.out).size))) RS.out).mono ?_
      rintro e wd6 hf
      obtain ⟨u, rfl, h1, ⟨v1, v2, v3, rfl, ho, _⟩, _⟩ := cret_out (base := w1.heap.size) hf BS.out.size
      obtain ⟨as6, cs6, hvt1, _⟩ := reads_of_owns encC_len ho.o1
      obtain ⟨at2, ct2, hvt2, _⟩ := reads_of_owns encS_len ho.o2
      obtain ⟨at3, ct3, hvt3, _⟩ := reads_of_owns encS_len ho.o3
      subst hvt1 hvt2 hvt3
      have hB0 := BS.out.trans (h1.mono BS.out.size)
      have HA := Lib.hid (cat_text (0) (0) abcS ho hB0 hB0.size)
      have HN := Lib.hid (below_two h1 (.cells #[.int .i64 (0), .int .i64 (0), .string abcS] 28) (.cells #[.slice at2 m3.rs.length ct2, .slice at3 m3.ws.length ct3] 31))
      have hsz6 : w1.heap.size ≤ wd6.heap.size := hB0.size
      clear hf h1 ho hB0 BS
      go_upto_region 7 with fail
      generalize World.alloc (World.alloc _ _) _ = W7 at HA HN ⊢
      have HX5 := Lib.hid (HX5.out.below HN.out)
      have HX6 := Lib.hid HA.out.x1
      have BS := Lib.hid HA.out.bel
      have RS := Lib.hid (RS.out.below HN.out)
      clear HA HN
      clear G3
      skip
      have cx : W7.cell? ⟨b, off + 1, none⟩ = some (.int .i64 x1) := C1.out W7 BS.out
      go_wp2_with fail
      clear cx
      refine (G4.out W7 as5 cs5 (fun X hX => HT.out X ((BB.out _ BS.out).trans (hX.mono (BB.out _ BS.out).size))) RS.out).mono ?_
      rintro e wd7 hf
      obtain ⟨u, rfl, h1, ⟨v1, v2, v3, rfl, ho, _⟩, _⟩ := cret_out (base := w1.heap.size) hf BS.out.size
      obtain ⟨as7, cs7, hvt1, _⟩ := reads_of_owns encC_len ho.o1
      obtain ⟨at2, ct2, hvt2, _⟩ := reads_of_owns encS_len ho.o2
      obtain ⟨at3, ct3, hvt3, _⟩ := reads_of_owns encS_len ho.o3
      subst hvt1 hvt2 hvt3
      have hB0 := BS.out.trans (h1.mono BS.out.size)
      have HA := Lib.hid (cat_text (0) (0) noB ho hB0 hB0.size)
      have HN := Lib.hid (below_two h1 (.cells #[.int .i64 (0), .int .i64 (0), .string noB] 28) (.cells #[.slice at2 m4.rs.length ct2, .slice at3 m4.ws.length ct3] 31))
      have hsz7 : w1.heap.size ≤ wd7.heap.size := hB0.size
      clear hf h1 ho hB0 BS RS
      go_upto_region 8 with fail
      generalize World.alloc (World.alloc _ _) _ = W8 at HA HN ⊢
      have HX5 := Lib.hid (HX5.out.below HN.out)
      have HX6 := Lib.hid (HX6.out.below HN.out)
      have HX7 := Lib.hid HA.out.x1
      have BS := Lib.hid HA.out.bel
      have RS := Lib.hid (reads_owns2 encC_len HA.out.outs.o1)
      rw [e4] at RS
      clear HA HN
      clear G4
      skip
      go_wp2_with fail
      refine (named_c 5 ⟨#[]⟩ W8).mono ?_
      rintro e wn ⟨rfl, hn⟩
      have RS := Lib.hid (RS.out.below hn)
      have hN0 := BS.out.trans (hn.mono BS.out.size)
      have BS := Lib.hid hN0
      have HX5 := Lib.hid (HX5.out.below hn)
      have HX6 := Lib.hid (HX6.out.below hn)
      have HX7 := Lib.hid (HX7.out.below hn)
      clear hn hN0
      go_wp2_with fail
      refine (G5.out wn as7 cs7 (fun X hX => HT.out X ((BB.out _ BS.out).trans (hX.mono (BB.out _ BS.out).size))) RS.out).mono ?_
      rintro e wd8 hf
      obtain ⟨u, rfl, h1, ⟨v1, v2, v3, rfl, ho, _⟩, _⟩ := cret_out (base := w1.heap.size) hf BS.out.size
      obtain ⟨as8, cs8, hvt1, _⟩ := reads_of_owns encC_len ho.o1
      obtain ⟨at2, ct2, hvt2, _⟩ := reads_of_owns encS_len ho.o2
      obtain ⟨at3, ct3, hvt3, _⟩ := reads_of_owns encS_len ho.o3
      subst hvt1 hvt2 hvt3
      have hB0 := BS.out.trans (h1.mono BS.out.size)
      have HA := Lib.hid (cat_text (2) (0) noB ho hB0 hB0.size)
      have HN := Lib.hid (below_two h1 (.cells #[.int .i64 (2), .int .i64 (0), .string noB] 28) (.cells #[.slice at2 m5.rs.length ct2, .slice at3 m5.ws.length ct3] 31))
      have hsz8 : w1.heap.size ≤ wd8.heap.size := hB0.size
      clear hf h1 ho hB0 BS
      go_upto_region 9 with fail
      generalize World.alloc (World.alloc _ _) _ = W9 at HA HN ⊢
      have HX5 := Lib.hid (HX5.out.below HN.out)
      have HX6 := Lib.hid (HX6.out.below HN.out)
      have HX7 := Lib.hid (HX7.out.below HN.out)
      have HX8 := Lib.hid HA.out.x1
      have BS := Lib.hid HA.out.bel
      have RS := Lib.hid (RS.out.below HN.out)
      clear HA HN
      clear G5
      skip
      go_wp2_with fail
      refine (G6.out W9 as7 cs7 (fun X hX => HT.out X ((BB.out _ BS.out).trans (hX.mono (BB.out _ BS.out).size))) RS.out).mono ?_
      rintro e wd9 hf
      obtain ⟨u, rfl, h1, ⟨v1, v2, v3, rfl, ho, _⟩, _⟩ := cret_out (base := w1.heap.size) hf BS.out.size
      obtain ⟨as9, cs9, hvt1, _⟩ := reads_of_owns encC_len ho.o1
      obtain ⟨at2, ct2, hvt2, _⟩ := reads_of_owns encS_len ho.o2
      obtain ⟨at3, ct3, hvt3, _⟩ := reads_of_owns encS_len ho.o3
      subst hvt1 hvt2 hvt3
      have hB0 := BS.out.trans (h1.mono BS.out.size)
      have HA := Lib.hid (cat_text (0) (n) noB ho hB0 hB0.size)
      have HN := Lib.hid (below_two h1 (.cells #[.int .i64 (0), .int .i64 (n), .string noB] 28) (.cells #[.slice at2 m6.rs.length ct2, .slice at3 m6.ws.length ct3] 31))
      have hsz9 : w1.heap.size ≤ wd9.heap.size := hB0.size
      clear hf h1 ho hB0 BS RS
      go_upto_region 10 with fail
      generalize World.alloc (World.alloc _ _) _ = W10 at HA HN ⊢
      have HX5 := Lib.hid (HX5.out.below HN.out)
      have HX6 := Lib.hid (HX6.out.below HN.out)
      have HX7 := Lib.hid (HX7.out.below HN.out)
      have HX8 := Lib.hid (HX8.out.below HN.out)
      have HX9 := Lib.hid HA.out.x1
      have BS := Lib.hid HA.out.bel
      have RS := Lib.hid (reads_owns2 encC_len HA.out.outs.o1)
      clear HA HN RS
      have k5 := HX5.out.cell 1 _ rfl
      have k6 : W10.cell? ⟨wd6.heap.size, 2, none⟩ = some (.string ⟨#[97, 98, 99]⟩) := HX6.out.cell 2 _ rfl
      have k7 := HX7.out.cell 0 _ rfl
      have k8 := HX8.out.cell 0 _ rfl
      have k9 := HX9.out.cell 0 _ rfl
      have k10 := HX9.out.cell 1 _ rfl
      have cx : W10.cell? ⟨b, off + 1, none⟩ = some (.int .i64 x1) := C1.out W10 BS.out
      have HEND := Lib.hid (BB.out W10 BS.out)
      clear G6 BB HT C0 C1 BS HX5 HX6 HX7 HX8 HX9 e1 e2 e3 e4 e5 HB1
      go_wp2_with fail
      go_quiet (fail)
      go_wp2
      go_ret
      exact ⟨rfl, HEND.out.trans ((show Below W10.heap.size W10 (W10.drewN nq) from (by repeat (first | exact Below.refl _ _ | refine Below.drew ?_ | refine below_drewN ?_ _ | refine Below.allocC ?_ _ | refine Below.setCell ?_ (by first | (simp; done) | (simp; omega)) _ | refine Below.chain ?_ (by assumption)))).mono HEND.out.size)⟩

/- SIG
theorem walk (a0 : Option Addr) (len0 cap0 : Nat) (z0 : List Int) (w : World) (w0 : IsRow .u8 w a0 len0 cap0 z0) (hL : laidMetH Tryz.prog Rows.fnNewKidRow.laid w) :
    Calls Tryz.prog 3 #[.slice a0 len0 cap0] w fun e w' => e = .returned (.bool true) ∧ Below w.heap.size w w' := by
-/
theorem own : ownKnob Tryz.prog.godebug = none := by kernel_rfl
theorem laidOut : laidOutB Tryz.prog = true := by kernel_rfl
theorem door_met (os : Os) (args : Array Value) : laidMetH Tryz.prog Rows.fnNewKidRow.laid ((World.doorLaid Tryz.prog 400 os).forCall (fun _ _ => 0) ⟨#[], args, []⟩).memory :=
  laidMetH_of_parts3 (fuel := 8) (laidMet_of_run' 8 (by kernel_rfl) (by kernel_rfl)) (by kernel_rfl) (by kernel_rfl)
set_option maxRecDepth 100000 in
theorem lifted (os : Os) (started : os.Started) (H : Type) (enc : TypeId × Value → H) :
    ReturnsInHanded {} Tryz.checked os 3 .any (fun w args => (Rows.fnNewKidSpec.pre enc Tryz.prog Tryz.f3 [] false w args ∧ laidMetH Tryz.prog Rows.fnNewKidRow.laid w) ∧ sizedMet enc Tryz.prog Tryz.f3 (OpenSpec.ofChange Rows.fnNewKidSpec) false w args)
      (Rows.fnNewKidSpec.post enc Tryz.prog Tryz.f3 false true false false) := by
  refine returnsInHanded_of_change_and (C := Tryz.checked) (X := fun w _ => laidMetH Tryz.prog Rows.fnNewKidRow.laid w) (fun _ _ _ hh h => h.of_heap hh) own started (by kernel_rfl) Tryz.func3
    (ChangeSpec.witness_shaped (enc := enc) (C := Tryz.checked) (os := os) (X := fun w _ => laidMetH Tryz.prog Rows.fnNewKidRow.laid w) false (World.doorLaid Tryz.prog 400 os) #[.slice none 0 0] 8 rfl (World.shaped_of_RefB (by kernel_rfl) (by kernel_rfl)) (by kernel_rfl) (by kernel_rfl) (by kernel_rfl) (door_met os _)) ?_
  intro W base args ds gs before hval0 hW _ _ hL _
  have hval : ∀ (j : Nat) t v, Tryz.f3.params[j]? = some t → args[j]? = some v → Value.okWide Tryz.prog W .any base t v := hval0
  have hW' := hW
  obtain ⟨p, q, hA0, hV, rfl, hfz, hnd⟩ := hW
  have hA : DataW.TrodAll enc Tryz.prog W 0 (fun _ => true) true Tryz.f3.params.toList args.toList ds p := hA0
  rw [Tryz.params3] at hA hval
  obtain ⟨v0, vs0, d0, ds0, p0, q0, hargs, rfl, rfl, h0, g0⟩ := trodAll_cons hA
  obtain ⟨rfl, rfl, rfl⟩ := trodAll_nil g0
  obtain rfl : args = #[v0] := by cases args; simp_all
  have hlen := trodVars_length hV
  obtain rfl : gs = [] := List.eq_nil_of_length_eq_zero hlen
  have k0 := h0
  have lt0 : ∀ x ∈ p0, x.block < W.heap.size := by obtain ⟨m, hm⟩ := k0; exact DataW.trod_lt m _ _ _ hm
  obtain ⟨a0, len0, cap0, rfl⟩ := okWide_slice Tryz.underlying22 (hval 0 22 v0 rfl rfl)
  obtain ⟨z0, w0⟩ := isRow_of Tryz.underlying22 Tryz.underlying5 (by kernel_rfl) h0
  clear hA0 hval0
  refine (walk a0 len0 cap0 z0 W w0 hL).mono fun e W' ⟨he, bel⟩ => ?_
  subst he
  exact ⟨_, rfl, _, _, _, [], _, _, hW', trodAll_mk1 (shut_bool Tryz.underlying4 _), (trodAll_cons_mk (Below.trod laidOut (by kernel_rfl) (of_decide_eq_true (by kernel_rfl)) k0 bel lt0) trodAll_mk0), Below.trodVars laidOut bel (by kernel_rfl) hV, bel.frame _, fun h => by cases h⟩
theorem over : Rows.fnNewKidRow.holds Tryz.pinned (OpenSpec.ofChange Rows.fnNewKidSpec) :=
  OpenClaim.holds_of_wide 3 Tryz.f3 rfl rfl rfl rfl rfl rfl rfl ⟨rfl, rfl, rfl, rfl, rfl⟩ rfl rfl rfl rfl rfl (by kernel_rfl) Tryz.func3 (by kernel_rfl)
    (of_decide_eq_true (by kernel_rfl)) (by unfold Func.isWrapper; first | (rw [if_pos (by decide +kernel)]; kernel_rfl) | (rw [if_neg (by decide +kernel)]; exact ⟨rfl, rfl⟩))
    (fun os started H enc _ => lifted os started H enc)
theorem proved : Rows.FnNewKidCardSaid :=
  Claim7.holds_tied_plain_at .later [] [.data, .data, .data, .sentinel, .sentinel, .sentinel] true (true, "d8b1018ee02a441800818dac90769dbc09caff18266711d159069bc0b79c8719") true
    over (fun _ h => by cases h) (by kernel_rfl) (fun _ h => by cases h) fnNewKid_row_tie rfl ⟨rfl, rfl⟩ (by kernel_rfl) rfl
    (fun f fn hf hfn => by
      obtain rfl : f = 3 := Option.some.inj ((show Tryz.prog.funcNamed "loop.example/g00974/laws.FnNewKid" = some 3 by kernel_rfl).symm.trans hf) |>.symm
      obtain rfl : fn = Tryz.f3 := (Option.some.inj (Tryz.func3.symm.trans hfn)).symm
      exact ⟨by kernel_rfl, fun j t ht => by
        rw [Tryz.params3] at ht
        have hm : t ∈ [22] := by
          have this := Array.mem_of_getElem? ht
          simp only [List.mem_toArray, List.mem_cons, List.not_mem_nil, or_false] at this ⊢
          all_goals first | assumption | (rcases this with h <;> simp [h])
        have hall : ([22].all fun u => !Tryz.prog.wantsStandIn u) = true := by kernel_rfl
        exact (show Tryz.prog.wantsStandIn t = false by simpa using List.all_eq_true.1 hall t hm)⟩)
    (by kernel_rfl)
#print axioms proved

end Go.Proofs.YtihghflppegnmaaGreatDoor.fnNewKid
