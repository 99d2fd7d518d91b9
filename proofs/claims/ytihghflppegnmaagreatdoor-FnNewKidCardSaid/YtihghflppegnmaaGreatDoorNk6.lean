/- Lemmas and contracts that the last text leans on, joined: KM2, KM3. Conditions: as each theorem says. -/
import Derived.Test.YtihghflppegnmaaGreatDoorNk5
set_option linter.unusedSimpArgs false
set_option linter.unusedVariables false
namespace Go.Proofs.YtihghflppegnmaaGreatDoor
open Go.ChangeShapes Go.WideShapes Go.ChangeAt Go.RowKit
attribute [local go_sem ↓] Go.wp_at_zero Go.wp_at_succ
set_option maxRecDepth 100000 in
set_option maxHeartbeats 8000000 in
theorem pMkPipe_c (p base : Nat) (v1 v2 v3 : Value) (m m' : Mch) (x y : Int)  (w : World) (h : MAt w p base v1 v2 v3 m) (ho : MOk 1700000000000 m) (HT : ∀ W, Below base w W → Tabs W) (E : (mkPipeP).run m = (m', (x, y))) :
    Calls Tryz.prog 104 #[.pointer (some ⟨p, 0, none⟩)] w (MStep p base v1 v2 v3 m' (.tuple #[.int .i64 x, .int .i64 y]) w) := by
  have H := Lib.hid h
  have HTT := Lib.hid HT
  have O0 := Lib.hid ho
  have HE := Lib.hid E
  clear h ho HT E
  obtain ⟨m1, x1, E1⟩ : ∃ aa bb, (numP (cPipe)).run m = (aa, bb) := ⟨_, _, rfl⟩
  have bx1 := numP_bounds E1
  have O1 := Lib.hid ((numP_cost _).okE O0.out E1)
  have HE1 := Lib.hid E1
  clear E1
  by_cases c1 : 8 ≤ x1
  · obtain ⟨e1, e2⟩ := Prod.mk.inj ((show (m1, (0, 3)) = (mkPipeP).run m from by
      unfold mkPipeP
      simp only [Pg.run_bind, Pg.run_pure, Pg.run_ret, ↓reduceIte, Bool.false_eq_true, Bool.true_and, Bool.and_true, Bool.and_self, Bool.false_and, Bool.and_false, or_false, false_or, true_or, or_true, ne_eq, not_true_eq_false, not_false_eq_true, eq_self_iff_true, decide_true, decide_false, HE1.out, c1]).trans HE.out)
    obtain ⟨e2, e3⟩ := Prod.mk.inj e2
    subst e1 e2 e3
    have G0 := Lib.hid (show ∀ m' r e w', MStep p base v1 v2 v3 m' r w e w' → MStep p base v1 v2 v3 m' r w e w' from fun _ _ _ _ h => h)
    have M0 := Lib.hid H.out
    have B0 := Lib.hid (Below.refl base w)
    clear HE
    go_enter Tryz.func104, Tryz.ntmps104
    have K1 := Lib.hid (pNum_c p base v1 v2 v3 m m1 x1 (cPipe) w M0.out (O0.out.mono (by omega)) (fun W hW => HTT.out W (B0.out.trans hW)) HE1.out)
    go_wp2_with fail
    refine K1.out.mono ?_
    rintro e w1 ⟨x11, x12, x13, rfl, hm, hg, q1, q2, q3⟩
    have G1 := Lib.hid (show ∀ m' r e w', MStep p base x11 x12 x13 m' r w1 e w' → MStep p base v1 v2 v3 m' r w e w' from fun _ _ _ _ h => G0.out _ _ _ _ (MStep.next hg q1 q2 q3 h))
    have B1 := Lib.hid (B0.out.trans (M0.out.grow hg))
    have M1 := Lib.hid hm
    clear hm hg q1 q2 q3 K1 G0 M0 B0
    have HEND := Lib.hid (show MStep p base v1 v2 v3 _ (.tuple #[.int .i64 0, .int .i64 3]) w (.returned (.tuple #[.int .i64 0, .int .i64 3])) w1 from G1.out _ _ _ _ (M1.out.step (Below.refl _ _) _))
    clear G1 M1 B1
    go_wp2
    go_ret2
    exact HEND.out
  · obtain ⟨m2, x2, E2⟩ : ∃ aa bb, (bumpP (cPipe)).run m1 = (aa, bb) := ⟨_, _, rfl⟩
    have bx2 := bumpP_bounds E2
    have O2 := Lib.hid ((bumpP_cost _).okE O1.out E2)
    have HE2 := Lib.hid E2
    clear E2
    obtain ⟨m3, u3, E3⟩ : ∃ aa bb, (setP (pipeK x2 tO) (1)).run m2 = (aa, bb) := ⟨_, _, rfl⟩
    have O3 := Lib.hid ((setP_cost _ _).okE O2.out E3)
    have HE3 := Lib.hid E3
    clear E3
    obtain ⟨e1, e2⟩ := Prod.mk.inj ((show (m3, (x2, 0)) = (mkPipeP).run m from by
      unfold mkPipeP
      simp only [Pg.run_bind, Pg.run_pure, Pg.run_ret, ↓reduceIte, Bool.false_eq_true, Bool.true_and, Bool.and_true, Bool.and_self, Bool.false_and, Bool.and_false, or_false, false_or, true_or, or_true, ne_eq, not_true_eq_false, not_false_eq_true, eq_self_iff_true, decide_true, decide_false, HE1.out, c1, HE2.out, HE3.out]).trans HE.out)
    obtain ⟨e2, e3⟩ := Prod.mk.inj e2
    subst e1 e2 e3
    have G0 := Lib.hid (show ∀ m' r e w', MStep p base v1 v2 v3 m' r w e w' → MStep p base v1 v2 v3 m' r w e w' from fun _ _ _ _ h => h)
    have M0 := Lib.hid H.out
    have B0 := Lib.hid (Below.refl base w)
    clear HE
    go_enter Tryz.func104, Tryz.ntmps104
    have K1 := Lib.hid (pNum_c p base v1 v2 v3 m m1 x1 (cPipe) w M0.out (O0.out.mono (by omega)) (fun W hW => HTT.out W (B0.out.trans hW)) HE1.out)
    go_wp2_with fail
    refine K1.out.mono ?_
    rintro e w1 ⟨x11, x12, x13, rfl, hm, hg, q1, q2, q3⟩
    have G1 := Lib.hid (show ∀ m' r e w', MStep p base x11 x12 x13 m' r w1 e w' → MStep p base v1 v2 v3 m' r w e w' from fun _ _ _ _ h => G0.out _ _ _ _ (MStep.next hg q1 q2 q3 h))
    have B1 := Lib.hid (B0.out.trans (M0.out.grow hg))
    have M1 := Lib.hid hm
    clear hm hg q1 q2 q3 K1 G0 M0 B0
    have K2 := Lib.hid (pBump_c p base x11 x12 x13 m1 m2 x2 (cPipe) w1 M1.out (O1.out.mono (by omega)) (by decide) (fun W hW => HTT.out W (B1.out.trans hW)) HE2.out)
    go_wp2_with fail
    refine K2.out.mono ?_
    rintro e w2 ⟨x21, x22, x23, rfl, hm, hg, q1, q2, q3⟩
    have G2 := Lib.hid (show ∀ m' r e w', MStep p base x21 x22 x23 m' r w2 e w' → MStep p base v1 v2 v3 m' r w e w' from fun _ _ _ _ h => G1.out _ _ _ _ (MStep.next hg q1 q2 q3 h))
    have B2 := Lib.hid (B1.out.trans (M1.out.grow hg))
    have M2 := Lib.hid hm
    clear hm hg q1 q2 q3 K2 G1 M1 B1
    go_wp2_with fail
    refine (pipeKey_c x2 tO w2 (i64_of bx2) (by decide) (HTT.out _ B2.out)).mono ?_
    rintro e w3 ⟨rfl, hb⟩
    have G3 := Lib.hid (show ∀ m' r e w', MStep p base x21 x22 x23 m' r w3 e w' → MStep p base v1 v2 v3 m' r w e w' from fun _ _ _ _ h => G2.out _ _ _ _ (MStep.next (Grow3.of_below hb) (.inl rfl) (.inl rfl) (.inl rfl) h))
    have B3 := Lib.hid (B2.out.trans (hb.mono M2.out.hb))
    have M3 := Lib.hid (M2.out.below hb)
    clear hb G2 M2 B2
    have K4 := Lib.hid (pSet_c p base x21 x22 x23 m2 m3 u3 (pipeK x2 tO) (1) w3 M3.out (O2.out.mono (by omega)) (kle (pipeK_size (i64_of bx2) (by decide))) (fun W hW => HTT.out W (B3.out.trans hW)) HE3.out)
    go_wp2_with fail
    refine K4.out.mono ?_
    rintro e w4 ⟨x41, x42, x43, rfl, hm, hg, q1, q2, q3⟩
    have G4 := Lib.hid (show ∀ m' r e w', MStep p base x41 x42 x43 m' r w4 e w' → MStep p base v1 v2 v3 m' r w e w' from fun _ _ _ _ h => G3.out _ _ _ _ (MStep.next hg q1 q2 q3 h))
    have B4 := Lib.hid (B3.out.trans (M3.out.grow hg))
    have M4 := Lib.hid hm
    clear hm hg q1 q2 q3 K4 G3 M3 B3
    have HEND := Lib.hid (show MStep p base v1 v2 v3 _ (.tuple #[.int .i64 x2, .int .i64 0]) w (.returned (.tuple #[.int .i64 x2, .int .i64 0])) w4 from G4.out _ _ _ _ (M4.out.step (Below.refl _ _) _))
    clear G4 M4 B4
    go_wp2
    go_ret2
    exact HEND.out

set_option maxRecDepth 100000 in
set_option maxHeartbeats 8000000 in
theorem pIsPipe_c (p base : Nat) (v1 v2 v3 : Value) (m m' : Mch) (x : Bool) (id : Int) (w : World) (h : MAt w p base v1 v2 v3 m) (ho : MOk 1800000000000 m) (hn : I64 id) (HT : ∀ W, Below base w W → Tabs W) (E : (isPipeP id).run m = (m', x)) :
    Calls Tryz.prog 165 #[.pointer (some ⟨p, 0, none⟩), .int .i64 id] w (MStep p base v1 v2 v3 m' (.bool x) w) := by
  have H := Lib.hid h
  have HTT := Lib.hid HT
  have O0 := Lib.hid ho
  have HE := Lib.hid E
  clear h ho HT E
  obtain ⟨m1, x1, E1⟩ : ∃ aa bb, (numP (pipeK id tO)).run m = (aa, bb) := ⟨_, _, rfl⟩
  have bx1 := numP_bounds E1
  have O1 := Lib.hid ((numP_cost _).okE O0.out E1)
  have HE1 := Lib.hid E1
  clear E1
  obtain ⟨e1, e2⟩ := Prod.mk.inj ((show (m1, decide (x1 = 1)) = (isPipeP id).run m from by
    unfold isPipeP
    simp only [Pg.run_bind, Pg.run_pure, Pg.run_ret, ↓reduceIte, Bool.false_eq_true, Bool.true_and, Bool.and_true, Bool.and_self, Bool.false_and, Bool.and_false, or_false, false_or, true_or, or_true, ne_eq, not_true_eq_false, not_false_eq_true, eq_self_iff_true, decide_true, decide_false, HE1.out]).trans HE.out)
  subst e1 e2
  have G0 := Lib.hid (show ∀ m' r e w', MStep p base v1 v2 v3 m' r w e w' → MStep p base v1 v2 v3 m' r w e w' from fun _ _ _ _ h => h)
  have M0 := Lib.hid H.out
  have B0 := Lib.hid (Below.refl base w)
  clear HE
  go_enter Tryz.func165, Tryz.ntmps165
  go_wp2_with fail
  refine (pipeKey_c id tO w hn (by decide) (HTT.out _ B0.out)).mono ?_
  rintro e w1 ⟨rfl, hb⟩
  have G1 := Lib.hid (show ∀ m' r e w', MStep p base v1 v2 v3 m' r w1 e w' → MStep p base v1 v2 v3 m' r w e w' from fun _ _ _ _ h => G0.out _ _ _ _ (MStep.next (Grow3.of_below hb) (.inl rfl) (.inl rfl) (.inl rfl) h))
  have B1 := Lib.hid (B0.out.trans (hb.mono M0.out.hb))
  have M1 := Lib.hid (M0.out.below hb)
  clear hb G0 M0 B0
  have K2 := Lib.hid (pNum_c p base v1 v2 v3 m m1 x1 (pipeK id tO) w1 M1.out (O0.out.mono (by omega)) (fun W hW => HTT.out W (B1.out.trans hW)) HE1.out)
  go_wp2_with fail
  refine K2.out.mono ?_
  rintro e w2 ⟨x21, x22, x23, rfl, hm, hg, q1, q2, q3⟩
  have G2 := Lib.hid (show ∀ m' r e w', MStep p base x21 x22 x23 m' r w2 e w' → MStep p base v1 v2 v3 m' r w e w' from fun _ _ _ _ h => G1.out _ _ _ _ (MStep.next hg q1 q2 q3 h))
  have B2 := Lib.hid (B1.out.trans (M1.out.grow hg))
  have M2 := Lib.hid hm
  clear hm hg q1 q2 q3 K2 G1 M1 B1
  have HEND := Lib.hid (show MStep p base v1 v2 v3 _ (.bool (x1 == 1)) w (.returned (.bool (x1 == 1))) w2 from G2.out _ _ _ _ (M2.out.step (Below.refl _ _) _))
  clear G2 M2 B2
  go_wp2
  go_ret
  exact HEND.out

set_option maxRecDepth 100000 in
set_option maxHeartbeats 8000000 in
theorem pPutPipe_c (p base : Nat) (v1 v2 v3 : Value) (m m' : Mch) (x : Int) (id : Int) (text : ByteArray) (w : World) (h : MAt w p base v1 v2 v3 m) (ho : MOk 1700000000000 m) (hn : I64 id) (HT : ∀ W, Below base w W → Tabs W) (E : (putPipeP id text).run m = (m', x)) :
    Calls Tryz.prog 105 #[.pointer (some ⟨p, 0, none⟩), .int .i64 id, .string text] w (MStep p base v1 v2 v3 m' (.int .i64 x) w) := by
  have H := Lib.hid h
  have HTT := Lib.hid HT
  have O0 := Lib.hid ho
  have HE := Lib.hid E
  clear h ho HT E
  obtain ⟨m1, x1, E1⟩ : ∃ aa bb, (isPipeP id).run m = (aa, bb) := ⟨_, _, rfl⟩
  have O1 := Lib.hid ((isPipeP_cost _).okE O0.out E1)
  have HE1 := Lib.hid E1
  clear E1
  cases x1
  · obtain ⟨e1, e2⟩ := Prod.mk.inj ((show (m1, 2) = (putPipeP id text).run m from by
      unfold putPipeP
      simp only [Pg.run_bind, Pg.run_pure, Pg.run_ret, ↓reduceIte, Bool.false_eq_true, Bool.true_and, Bool.and_true, Bool.and_self, Bool.false_and, Bool.and_false, or_false, false_or, true_or, or_true, ne_eq, not_true_eq_false, not_false_eq_true, eq_self_iff_true, decide_true, decide_false, HE1.out]).trans HE.out)
    subst e1 e2
    have G0 := Lib.hid (show ∀ m' r e w', MStep p base v1 v2 v3 m' r w e w' → MStep p base v1 v2 v3 m' r w e w' from fun _ _ _ _ h => h)
    have M0 := Lib.hid H.out
    have B0 := Lib.hid (Below.refl base w)
    clear HE
    go_enter Tryz.func105, Tryz.ntmps105
    have K1 := Lib.hid (pIsPipe_c p base v1 v2 v3 m m1 false id w M0.out (O0.out.mono (by omega)) hn (fun W hW => HTT.out W (B0.out.trans hW)) HE1.out)
    go_wp2_with fail
    refine K1.out.mono ?_
    rintro e w1 ⟨x11, x12, x13, rfl, hm, hg, q1, q2, q3⟩
    have G1 := Lib.hid (show ∀ m' r e w', MStep p base x11 x12 x13 m' r w1 e w' → MStep p base v1 v2 v3 m' r w e w' from fun _ _ _ _ h => G0.out _ _ _ _ (MStep.next hg q1 q2 q3 h))
    have B1 := Lib.hid (B0.out.trans (M0.out.grow hg))
    have M1 := Lib.hid hm
    clear hm hg q1 q2 q3 K1 G0 M0 B0
    have HEND := Lib.hid (show MStep p base v1 v2 v3 _ (.int .i64 2) w (.returned (.int .i64 2)) w1 from G1.out _ _ _ _ (M1.out.step (Below.refl _ _) _))
    clear G1 M1 B1
    go_wp2
    go_ret
    exact HEND.out
  · by_cases c2 : 20 < text.size
    · have p1 : (20 : Int) < (text.size : Int) := by omega
      obtain ⟨e1, e2⟩ := Prod.mk.inj ((show (m1, 4) = (putPipeP id text).run m from by
        unfold putPipeP
        simp only [Pg.run_bind, Pg.run_pure, Pg.run_ret, ↓reduceIte, Bool.false_eq_true, Bool.true_and, Bool.and_true, Bool.and_self, Bool.false_and, Bool.and_false, or_false, false_or, true_or, or_true, ne_eq, not_true_eq_false, not_false_eq_true, eq_self_iff_true, decide_true, decide_false, HE1.out, c2]).trans HE.out)
      subst e1 e2
      have G0 := Lib.hid (show ∀ m' r e w', MStep p base v1 v2 v3 m' r w e w' → MStep p base v1 v2 v3 m' r w e w' from fun _ _ _ _ h => h)
      have M0 := Lib.hid H.out
      have B0 := Lib.hid (Below.refl base w)
      clear HE
      go_enter Tryz.func105, Tryz.ntmps105
      have K1 := Lib.hid (pIsPipe_c p base v1 v2 v3 m m1 true id w M0.out (O0.out.mono (by omega)) hn (fun W hW => HTT.out W (B0.out.trans hW)) HE1.out)
      go_wp2_with fail
      refine K1.out.mono ?_
      rintro e w1 ⟨x11, x12, x13, rfl, hm, hg, q1, q2, q3⟩
      have G1 := Lib.hid (show ∀ m' r e w', MStep p base x11 x12 x13 m' r w1 e w' → MStep p base v1 v2 v3 m' r w e w' from fun _ _ _ _ h => G0.out _ _ _ _ (MStep.next hg q1 q2 q3 h))
      have B1 := Lib.hid (B0.out.trans (M0.out.grow hg))
      have M1 := Lib.hid hm
      clear hm hg q1 q2 q3 K1 G0 M0 B0
      have HEND := Lib.hid (show MStep p base v1 v2 v3 _ (.int .i64 4) w (.returned (.int .i64 4)) w1 from G1.out _ _ _ _ (M1.out.step (Below.refl _ _) _))
      clear G1 M1 B1
      go_wp2
      go_ret
      exact HEND.out
    · have p1 : ¬ (20 : Int) < (text.size : Int) := by omega
      obtain ⟨m2, x2, E2⟩ : ∃ aa bb, (numP (pipeK id tT)).run m1 = (aa, bb) := ⟨_, _, rfl⟩
      have bx2 := numP_bounds E2
      have O2 := Lib.hid ((numP_cost _).okE O1.out E2)
      have HE2 := Lib.hid E2
      clear E2
      obtain ⟨m3, x3, E3⟩ : ∃ aa bb, (numP (pipeK id tH)).run m2 = (aa, bb) := ⟨_, _, rfl⟩
      have bx3 := numP_bounds E3
      have O3 := Lib.hid ((numP_cost _).okE O2.out E3)
      have HE3 := Lib.hid E3
      clear E3
      have hwx2x3 : IntKind.i64.wrap (x2 - x3) = x2 - x3 := by rw [IntKind.wrap_i64]; omega
      by_cases c3 : 4 ≤ x2 - x3
      · obtain ⟨e1, e2⟩ := Prod.mk.inj ((show (m3, 5) = (putPipeP id text).run m from by
          unfold putPipeP
          simp only [Pg.run_bind, Pg.run_pure, Pg.run_ret, ↓reduceIte, Bool.false_eq_true, Bool.true_and, Bool.and_true, Bool.and_self, Bool.false_and, Bool.and_false, or_false, false_or, true_or, or_true, ne_eq, not_true_eq_false, not_false_eq_true, eq_self_iff_true, decide_true, decide_false, HE1.out, c2, HE2.out, HE3.out, c3]).trans HE.out)
        subst e1 e2
        have G0 := Lib.hid (show ∀ m' r e w', MStep p base v1 v2 v3 m' r w e w' → MStep p base v1 v2 v3 m' r w e w' from fun _ _ _ _ h => h)
        have M0 := Lib.hid H.out
        have B0 := Lib.hid (Below.refl base w)
        clear HE
        go_enter Tryz.func105, Tryz.ntmps105
        have K1 := Lib.hid (pIsPipe_c p base v1 v2 v3 m m1 true id w M0.out (O0.out.mono (by omega)) hn (fun W hW => HTT.out W (B0.out.trans hW)) HE1.out)
        go_wp2_with fail
        refine K1.out.mono ?_
        rintro e w1 ⟨x11, x12, x13, rfl, hm, hg, q1, q2, q3⟩
        have G1 := Lib.hid (show ∀ m' r e w', MStep p base x11 x12 x13 m' r w1 e w' → MStep p base v1 v2 v3 m' r w e w' from fun _ _ _ _ h => G0.out _ _ _ _ (MStep.next hg q1 q2 q3 h))
        have B1 := Lib.hid (B0.out.trans (M0.out.grow hg))
        have M1 := Lib.hid hm
        clear hm hg q1 q2 q3 K1 G0 M0 B0
        go_wp2_with fail
        refine (pipeKey_c id tT w1 hn (by decide) (HTT.out _ B1.out)).mono ?_
        rintro e w2 ⟨rfl, hb⟩
        have G2 := Lib.hid (show ∀ m' r e w', MStep p base x11 x12 x13 m' r w2 e w' → MStep p base v1 v2 v3 m' r w e w' from fun _ _ _ _ h => G1.out _ _ _ _ (MStep.next (Grow3.of_below hb) (.inl rfl) (.inl rfl) (.inl rfl) h))
        have B2 := Lib.hid (B1.out.trans (hb.mono M1.out.hb))
        have M2 := Lib.hid (M1.out.below hb)
        clear hb G1 M1 B1
        have K3 := Lib.hid (pNum_c p base x11 x12 x13 m1 m2 x2 (pipeK id tT) w2 M2.out (O1.out.mono (by omega)) (fun W hW => HTT.out W (B2.out.trans hW)) HE2.out)
        go_wp2_with fail
        refine K3.out.mono ?_
        rintro e w3 ⟨x31, x32, x33, rfl, hm, hg, q1, q2, q3⟩
        have G3 := Lib.hid (show ∀ m' r e w', MStep p base x31 x32 x33 m' r w3 e w' → MStep p base v1 v2 v3 m' r w e w' from fun _ _ _ _ h => G2.out _ _ _ _ (MStep.next hg q1 q2 q3 h))
        have B3 := Lib.hid (B2.out.trans (M2.out.grow hg))
        have M3 := Lib.hid hm
        clear hm hg q1 q2 q3 K3 G2 M2 B2
        go_wp2_with fail
        refine (pipeKey_c id tH w3 hn (by decide) (HTT.out _ B3.out)).mono ?_
        rintro e w4 ⟨rfl, hb⟩
        have G4 := Lib.hid (show ∀ m' r e w', MStep p base x31 x32 x33 m' r w4 e w' → MStep p base v1 v2 v3 m' r w e w' from fun _ _ _ _ h => G3.out _ _ _ _ (MStep.next (Grow3.of_below hb) (.inl rfl) (.inl rfl) (.inl rfl) h))
        have B4 := Lib.hid (B3.out.trans (hb.mono M3.out.hb))
        have M4 := Lib.hid (M3.out.below hb)
        clear hb G3 M3 B3
        have K5 := Lib.hid (pNum_c p base x31 x32 x33 m2 m3 x3 (pipeK id tH) w4 M4.out (O2.out.mono (by omega)) (fun W hW => HTT.out W (B4.out.trans hW)) HE3.out)
        go_wp2_with fail
        refine K5.out.mono ?_
        rintro e w5 ⟨x51, x52, x53, rfl, hm, hg, q1, q2, q3⟩
        have G5 := Lib.hid (show ∀ m' r e w', MStep p base x51 x52 x53 m' r w5 e w' → MStep p base v1 v2 v3 m' r w e w' from fun _ _ _ _ h => G4.out _ _ _ _ (MStep.next hg q1 q2 q3 h))
        have B5 := Lib.hid (B4.out.trans (M4.out.grow hg))
        have M5 := Lib.hid hm
        clear hm hg q1 q2 q3 K5 G4 M4 B4
        have HEND := Lib.hid (show MStep p base v1 v2 v3 _ (.int .i64 5) w (.returned (.int .i64 5)) w5 from G5.out _ _ _ _ (M5.out.step (Below.refl _ _) _))
        clear G5 M5 B5
        go_wp2
        go_ret
        exact HEND.out
      · by_cases c4 : 999 ≤ x2
        · obtain ⟨e1, e2⟩ := Prod.mk.inj ((show (m3, 3) = (putPipeP id text).run m from by
            unfold putPipeP
            simp only [Pg.run_bind, Pg.run_pure, Pg.run_ret, ↓reduceIte, Bool.false_eq_true, Bool.true_and, Bool.and_true, Bool.and_self, Bool.false_and, Bool.and_false, or_false, false_or, true_or, or_true, ne_eq, not_true_eq_false, not_false_eq_true, eq_self_iff_true, decide_true, decide_false, HE1.out, c2, HE2.out, HE3.out, c3, c4]).trans HE.out)
          subst e1 e2
          have G0 := Lib.hid (show ∀ m' r e w', MStep p base v1 v2 v3 m' r w e w' → MStep p base v1 v2 v3 m' r w e w' from fun _ _ _ _ h => h)
          have M0 := Lib.hid H.out
          have B0 := Lib.hid (Below.refl base w)
          clear HE
          go_enter Tryz.func105, Tryz.ntmps105
          have K1 := Lib.hid (pIsPipe_c p base v1 v2 v3 m m1 true id w M0.out (O0.out.mono (by omega)) hn (fun W hW => HTT.out W (B0.out.trans hW)) HE1.out)
          go_wp2_with fail
          refine K1.out.mono ?_
          rintro e w1 ⟨x11, x12, x13, rfl, hm, hg, q1, q2, q3⟩
          have G1 := Lib.hid (show ∀ m' r e w', MStep p base x11 x12 x13 m' r w1 e w' → MStep p base v1 v2 v3 m' r w e w' from fun _ _ _ _ h => G0.out _ _ _ _ (MStep.next hg q1 q2 q3 h))
          have B1 := Lib.hid (B0.out.trans (M0.out.grow hg))
          have M1 := Lib.hid hm
          clear hm hg q1 q2 q3 K1 G0 M0 B0
          go_wp2_with fail
          refine (pipeKey_c id tT w1 hn (by decide) (HTT.out _ B1.out)).mono ?_
          rintro e w2 ⟨rfl, hb⟩
          have G2 := Lib.hid (show ∀ m' r e w', MStep p base x11 x12 x13 m' r w2 e w' → MStep p base v1 v2 v3 m' r w e w' from fun _ _ _ _ h => G1.out _ _ _ _ (MStep.next (Grow3.of_below hb) (.inl rfl) (.inl rfl) (.inl rfl) h))
          have B2 := Lib.hid (B1.out.trans (hb.mono M1.out.hb))
          have M2 := Lib.hid (M1.out.below hb)
          clear hb G1 M1 B1
          have K3 := Lib.hid (pNum_c p base x11 x12 x13 m1 m2 x2 (pipeK id tT) w2 M2.out (O1.out.mono (by omega)) (fun W hW => HTT.out W (B2.out.trans hW)) HE2.out)
          go_wp2_with fail
          refine K3.out.mono ?_
          rintro e w3 ⟨x31, x32, x33, rfl, hm, hg, q1, q2, q3⟩
          have G3 := Lib.hid (show ∀ m' r e w', MStep p base x31 x32 x33 m' r w3 e w' → MStep p base v1 v2 v3 m' r w e w' from fun _ _ _ _ h => G2.out _ _ _ _ (MStep.next hg q1 q2 q3 h))
          have B3 := Lib.hid (B2.out.trans (M2.out.grow hg))
          have M3 := Lib.hid hm
          clear hm hg q1 q2 q3 K3 G2 M2 B2
          go_wp2_with fail
          refine (pipeKey_c id tH w3 hn (by decide) (HTT.out _ B3.out)).mono ?_
          rintro e w4 ⟨rfl, hb⟩
          have G4 := Lib.hid (show ∀ m' r e w', MStep p base x31 x32 x33 m' r w4 e w' → MStep p base v1 v2 v3 m' r w e w' from fun _ _ _ _ h => G3.out _ _ _ _ (MStep.next (Grow3.of_below hb) (.inl rfl) (.inl rfl) (.inl rfl) h))
          have B4 := Lib.hid (B3.out.trans (hb.mono M3.out.hb))
          have M4 := Lib.hid (M3.out.below hb)
          clear hb G3 M3 B3
          have K5 := Lib.hid (pNum_c p base x31 x32 x33 m2 m3 x3 (pipeK id tH) w4 M4.out (O2.out.mono (by omega)) (fun W hW => HTT.out W (B4.out.trans hW)) HE3.out)
          go_wp2_with fail
          refine K5.out.mono ?_
          rintro e w5 ⟨x51, x52, x53, rfl, hm, hg, q1, q2, q3⟩
          have G5 := Lib.hid (show ∀ m' r e w', MStep p base x51 x52 x53 m' r w5 e w' → MStep p base v1 v2 v3 m' r w e w' from fun _ _ _ _ h => G4.out _ _ _ _ (MStep.next hg q1 q2 q3 h))
          have B5 := Lib.hid (B4.out.trans (M4.out.grow hg))
          have M5 := Lib.hid hm
          clear hm hg q1 q2 q3 K5 G4 M4 B4
          have HEND := Lib.hid (show MStep p base v1 v2 v3 _ (.int .i64 3) w (.returned (.int .i64 3)) w5 from G5.out _ _ _ _ (M5.out.step (Below.refl _ _) _))
          clear G5 M5 B5
          go_wp2
          go_ret
          exact HEND.out
        · have hwx2 : IntKind.i64.wrap (x2 + 1) = x2 + 1 := by rw [IntKind.wrap_i64]; omega
          have hz := hexV_size text
          have KHX := Lib.hid (fun W => hexOf_c text W)
          have hhy : (hyphenS (hexV text)).size ≤ 40001 := by rw [hyphenS_size]; omega
          have HHY := Lib.hid hhy
          clear hhy
          obtain ⟨m4, u4, E4⟩ : ∃ aa bb, (setP (pipeK id tT) (x2 + 1)).run m3 = (aa, bb) := ⟨_, _, rfl⟩
          have O4 := Lib.hid ((setP_cost _ _).okE O3.out E4)
          have HE4 := Lib.hid E4
          clear E4
          obtain ⟨m5, u5, E5⟩ : ∃ aa bb, (layP (pipeQ id (x2 + 1)) (hyphenS (hexV text))).run m4 = (aa, bb) := ⟨_, _, rfl⟩
          have O5 := Lib.hid ((layP_cost _ _).okE O4.out E5)
          have HE5 := Lib.hid E5
          clear E5
          obtain ⟨e1, e2⟩ := Prod.mk.inj ((show (m5, 0) = (putPipeP id text).run m from by
            unfold putPipeP
            simp only [Pg.run_bind, Pg.run_pure, Pg.run_ret, ↓reduceIte, Bool.false_eq_true, Bool.true_and, Bool.and_true, Bool.and_self, Bool.false_and, Bool.and_false, or_false, false_or, true_or, or_true, ne_eq, not_true_eq_false, not_false_eq_true, eq_self_iff_true, decide_true, decide_false, HE1.out, c2, HE2.out, HE3.out, c3, c4, HE4.out, HE5.out]).trans HE.out)
          subst e1 e2
          have G0 := Lib.hid (show ∀ m' r e w', MStep p base v1 v2 v3 m' r w e w' → MStep p base v1 v2 v3 m' r w e w' from fun _ _ _ _ h => h)
          have M0 := Lib.hid H.out
          have B0 := Lib.hid (Below.refl base w)
          clear HE
          go_enter Tryz.func105, Tryz.ntmps105
          have K1 := Lib.hid (pIsPipe_c p base v1 v2 v3 m m1 true id w M0.out (O0.out.mono (by omega)) hn (fun W hW => HTT.out W (B0.out.trans hW)) HE1.out)
          go_wp2_with fail
          refine K1.out.mono ?_
          rintro e w1 ⟨x11, x12, x13, rfl, hm, hg, q1, q2, q3⟩
          have G1 := Lib.hid (show ∀ m' r e w', MStep p base x11 x12 x13 m' r w1 e w' → MStep p base v1 v2 v3 m' r w e w' from fun _ _ _ _ h => G0.out _ _ _ _ (MStep.next hg q1 q2 q3 h))
          have B1 := Lib.hid (B0.out.trans (M0.out.grow hg))
          have M1 := Lib.hid hm
          clear hm hg q1 q2 q3 K1 G0 M0 B0
          go_wp2_with fail
          refine (pipeKey_c id tT w1 hn (by decide) (HTT.out _ B1.out)).mono ?_
          rintro e w2 ⟨rfl, hb⟩
          have G2 := Lib.hid (show ∀ m' r e w', MStep p base x11 x12 x13 m' r w2 e w' → MStep p base v1 v2 v3 m' r w e w' from fun _ _ _ _ h => G1.out _ _ _ _ (MStep.next (Grow3.of_below hb) (.inl rfl) (.inl rfl) (.inl rfl) h))
          have B2 := Lib.hid (B1.out.trans (hb.mono M1.out.hb))
          have M2 := Lib.hid (M1.out.below hb)
          clear hb G1 M1 B1
          have K3 := Lib.hid (pNum_c p base x11 x12 x13 m1 m2 x2 (pipeK id tT) w2 M2.out (O1.out.mono (by omega)) (fun W hW => HTT.out W (B2.out.trans hW)) HE2.out)
          go_wp2_with fail
          refine K3.out.mono ?_
          rintro e w3 ⟨x31, x32, x33, rfl, hm, hg, q1, q2, q3⟩
          have G3 := Lib.hid (show ∀ m' r e w', MStep p base x31 x32 x33 m' r w3 e w' → MStep p base v1 v2 v3 m' r w e w' from fun _ _ _ _ h => G2.out _ _ _ _ (MStep.next hg q1 q2 q3 h))
          have B3 := Lib.hid (B2.out.trans (M2.out.grow hg))
          have M3 := Lib.hid hm
          clear hm hg q1 q2 q3 K3 G2 M2 B2
          go_wp2_with fail
          refine (pipeKey_c id tH w3 hn (by decide) (HTT.out _ B3.out)).mono ?_
          rintro e w4 ⟨rfl, hb⟩
          have G4 := Lib.hid (show ∀ m' r e w', MStep p base x31 x32 x33 m' r w4 e w' → MStep p base v1 v2 v3 m' r w e w' from fun _ _ _ _ h => G3.out _ _ _ _ (MStep.next (Grow3.of_below hb) (.inl rfl) (.inl rfl) (.inl rfl) h))
          have B4 := Lib.hid (B3.out.trans (hb.mono M3.out.hb))
          have M4 := Lib.hid (M3.out.below hb)
          clear hb G3 M3 B3
          have K5 := Lib.hid (pNum_c p base x31 x32 x33 m2 m3 x3 (pipeK id tH) w4 M4.out (O2.out.mono (by omega)) (fun W hW => HTT.out W (B4.out.trans hW)) HE3.out)
          go_wp2_with fail
          refine K5.out.mono ?_
          rintro e w5 ⟨x51, x52, x53, rfl, hm, hg, q1, q2, q3⟩
          have G5 := Lib.hid (show ∀ m' r e w', MStep p base x51 x52 x53 m' r w5 e w' → MStep p base v1 v2 v3 m' r w e w' from fun _ _ _ _ h => G4.out _ _ _ _ (MStep.next hg q1 q2 q3 h))
          have B5 := Lib.hid (B4.out.trans (M4.out.grow hg))
          have M5 := Lib.hid hm
          clear hm hg q1 q2 q3 K5 G4 M4 B4
          go_wp2_with fail
          refine (pipeKey_c id tT w5 hn (by decide) (HTT.out _ B5.out)).mono ?_
          rintro e w6 ⟨rfl, hb⟩
          have G6 := Lib.hid (show ∀ m' r e w', MStep p base x51 x52 x53 m' r w6 e w' → MStep p base v1 v2 v3 m' r w e w' from fun _ _ _ _ h => G5.out _ _ _ _ (MStep.next (Grow3.of_below hb) (.inl rfl) (.inl rfl) (.inl rfl) h))
          have B6 := Lib.hid (B5.out.trans (hb.mono M5.out.hb))
          have M6 := Lib.hid (M5.out.below hb)
          clear hb G5 M5 B5
          have K7 := Lib.hid (pSet_c p base x51 x52 x53 m3 m4 u4 (pipeK id tT) (x2 + 1) w6 M6.out (O3.out.mono (by omega)) (kle (pipeK_size hn (by decide))) (fun W hW => HTT.out W (B6.out.trans hW)) HE4.out)
          go_wp2_with fail
          refine K7.out.mono ?_
          rintro e w7 ⟨x71, x72, x73, rfl, hm, hg, q1, q2, q3⟩
          have G7 := Lib.hid (show ∀ m' r e w', MStep p base x71 x72 x73 m' r w7 e w' → MStep p base v1 v2 v3 m' r w e w' from fun _ _ _ _ h => G6.out _ _ _ _ (MStep.next hg q1 q2 q3 h))
          have B7 := Lib.hid (B6.out.trans (M6.out.grow hg))
          have M7 := Lib.hid hm
          clear hm hg q1 q2 q3 K7 G6 M6 B6
          go_wp2_with fail
          refine (pipeKey_c id ⟨#[47, 113, 47]⟩ w7 hn (by decide) (HTT.out _ B7.out)).mono ?_
          rintro e w8 ⟨rfl, hb⟩
          have G8 := Lib.hid (show ∀ m' r e w', MStep p base x71 x72 x73 m' r w8 e w' → MStep p base v1 v2 v3 m' r w e w' from fun _ _ _ _ h => G7.out _ _ _ _ (MStep.next (Grow3.of_below hb) (.inl rfl) (.inl rfl) (.inl rfl) h))
          have B8 := Lib.hid (B7.out.trans (hb.mono M7.out.hb))
          have M8 := Lib.hid (M7.out.below hb)
          clear hb G7 M7 B7
          go_wp2_with fail
          refine (implKeyNum2_c (pipeK id ⟨#[47, 113, 47]⟩) (x2 + 1) ⟨#[]⟩ w8 (i64_succ bx2) (Nat.le_trans (pipeK_size hn (by decide)) (by decide)) (by decide) (HTT.out _ B8.out)).mono ?_
          rintro e w9 ⟨rfl, hb⟩
          have G9 := Lib.hid (show ∀ m' r e w', MStep p base x71 x72 x73 m' r w9 e w' → MStep p base v1 v2 v3 m' r w e w' from fun _ _ _ _ h => G8.out _ _ _ _ (MStep.next (Grow3.of_below hb) (.inl rfl) (.inl rfl) (.inl rfl) h))
          have B9 := Lib.hid (B8.out.trans (hb.mono M8.out.hb))
          have M9 := Lib.hid (M8.out.below hb)
          clear hb G8 M8 B8
          go_wp2_with fail
          refine (KHX.out _).mono ?_
          rintro e w10 ⟨rfl, hb⟩
          have G10 := Lib.hid (show ∀ m' r e w', MStep p base x71 x72 x73 m' r w10 e w' → MStep p base v1 v2 v3 m' r w e w' from fun _ _ _ _ h => G9.out _ _ _ _ (MStep.next (Grow3.of_below hb) (.inl rfl) (.inl rfl) (.inl rfl) h))
          have B10 := Lib.hid (B9.out.trans (hb.mono M9.out.hb))
          have M10 := Lib.hid (M9.out.below hb)
          clear hb G9 M9 B9
          have K11 := Lib.hid (pLay_c p base x71 x72 x73 m4 m5 u5 (pipeQ id (x2 + 1)) (hyphenS (hexV text)) w10 M10.out (O4.out.mono (by omega)) (kle (pipeQ_size hn (i64_succ bx2))) ((Nat.le_trans HHY.out (by decide))) HE5.out)
          go_wp2_with fail
          refine K11.out.mono ?_
          rintro e w11 ⟨x111, x112, x113, rfl, hm, hg, q1, q2, q3⟩
          have G11 := Lib.hid (show ∀ m' r e w', MStep p base x111 x112 x113 m' r w11 e w' → MStep p base v1 v2 v3 m' r w e w' from fun _ _ _ _ h => G10.out _ _ _ _ (MStep.next hg q1 q2 q3 h))
          have B11 := Lib.hid (B10.out.trans (M10.out.grow hg))
          have M11 := Lib.hid hm
          clear hm hg q1 q2 q3 K11 G10 M10 B10
          have HEND := Lib.hid (show MStep p base v1 v2 v3 _ (.int .i64 0) w (.returned (.int .i64 0)) w11 from G11.out _ _ _ _ (M11.out.step (Below.refl _ _) _))
          clear G11 M11 B11
          go_wp2
          go_ret
          exact HEND.out

set_option maxRecDepth 100000 in
set_option maxHeartbeats 8000000 in
theorem pTakePipe_c (p base : Nat) (v1 v2 v3 : Value) (m m' : Mch) (x : ByteArray) (y : Int) (id : Int) (w : World) (h : MAt w p base v1 v2 v3 m) (ho : MOk 1700000000000 m) (hn : I64 id) (HT : ∀ W, Below base w W → Tabs W) (E : (takePipeP id).run m = (m', (x, y))) :
    Calls Tryz.prog 106 #[.pointer (some ⟨p, 0, none⟩), .int .i64 id] w (MStep p base v1 v2 v3 m' (.tuple #[.string x, .int .i64 y]) w) := by
  have H := Lib.hid h
  have HTT := Lib.hid HT
  have O0 := Lib.hid ho
  have HE := Lib.hid E
  clear h ho HT E
  obtain ⟨m1, x1, E1⟩ : ∃ aa bb, (isPipeP id).run m = (aa, bb) := ⟨_, _, rfl⟩
  have O1 := Lib.hid ((isPipeP_cost _).okE O0.out E1)
  have HE1 := Lib.hid E1
  clear E1
  cases x1
  · obtain ⟨e1, e2⟩ := Prod.mk.inj ((show (m1, (noB, 2)) = (takePipeP id).run m from by
      unfold takePipeP
      simp only [Pg.run_bind, Pg.run_pure, Pg.run_ret, ↓reduceIte, Bool.false_eq_true, Bool.true_and, Bool.and_true, Bool.and_self, Bool.false_and, Bool.and_false, or_false, false_or, true_or, or_true, ne_eq, not_true_eq_false, not_false_eq_true, eq_self_iff_true, decide_true, decide_false, HE1.out]).trans HE.out)
    obtain ⟨e2, e3⟩ := Prod.mk.inj e2
    subst e1 e2 e3
    have G0 := Lib.hid (show ∀ m' r e w', MStep p base v1 v2 v3 m' r w e w' → MStep p base v1 v2 v3 m' r w e w' from fun _ _ _ _ h => h)
    have M0 := Lib.hid H.out
    have B0 := Lib.hid (Below.refl base w)
    clear HE
    go_enter Tryz.func106, Tryz.ntmps106
    have K1 := Lib.hid (pIsPipe_c p base v1 v2 v3 m m1 false id w M0.out (O0.out.mono (by omega)) hn (fun W hW => HTT.out W (B0.out.trans hW)) HE1.out)
    go_wp2_with fail
    refine K1.out.mono ?_
    rintro e w1 ⟨x11, x12, x13, rfl, hm, hg, q1, q2, q3⟩
    have G1 := Lib.hid (show ∀ m' r e w', MStep p base x11 x12 x13 m' r w1 e w' → MStep p base v1 v2 v3 m' r w e w' from fun _ _ _ _ h => G0.out _ _ _ _ (MStep.next hg q1 q2 q3 h))
    have B1 := Lib.hid (B0.out.trans (M0.out.grow hg))
    have M1 := Lib.hid hm
    clear hm hg q1 q2 q3 K1 G0 M0 B0
    have HEND := Lib.hid (show MStep p base v1 v2 v3 _ (.tuple #[.string ⟨#[]⟩, .int .i64 2]) w (.returned (.tuple #[.string ⟨#[]⟩, .int .i64 2])) w1 from G1.out _ _ _ _ (M1.out.step (Below.refl _ _) _))
    clear G1 M1 B1
    go_wp2
    go_ret2
    exact HEND.out
  · obtain ⟨m2, x2, E2⟩ : ∃ aa bb, (numP (pipeK id tH)).run m1 = (aa, bb) := ⟨_, _, rfl⟩
    have bx2 := numP_bounds E2
    have O2 := Lib.hid ((numP_cost _).okE O1.out E2)
    have HE2 := Lib.hid E2
    clear E2
    obtain ⟨m3, x3, E3⟩ : ∃ aa bb, (numP (pipeK id tT)).run m2 = (aa, bb) := ⟨_, _, rfl⟩
    have bx3 := numP_bounds E3
    have O3 := Lib.hid ((numP_cost _).okE O2.out E3)
    have HE3 := Lib.hid E3
    clear E3
    by_cases c2 : x3 = x2
    · subst c2
      obtain ⟨e1, e2⟩ := Prod.mk.inj ((show (m3, (noB, 5)) = (takePipeP id).run m from by
        unfold takePipeP
        simp only [Pg.run_bind, Pg.run_pure, Pg.run_ret, ↓reduceIte, Bool.false_eq_true, Bool.true_and, Bool.and_true, Bool.and_self, Bool.false_and, Bool.and_false, or_false, false_or, true_or, or_true, ne_eq, not_true_eq_false, not_false_eq_true, eq_self_iff_true, decide_true, decide_false, HE1.out, HE2.out, HE3.out]).trans HE.out)
      obtain ⟨e2, e3⟩ := Prod.mk.inj e2
      subst e1 e2 e3
      have G0 := Lib.hid (show ∀ m' r e w', MStep p base v1 v2 v3 m' r w e w' → MStep p base v1 v2 v3 m' r w e w' from fun _ _ _ _ h => h)
      have M0 := Lib.hid H.out
      have B0 := Lib.hid (Below.refl base w)
      clear HE
      go_enter Tryz.func106, Tryz.ntmps106
      have K1 := Lib.hid (pIsPipe_c p base v1 v2 v3 m m1 true id w M0.out (O0.out.mono (by omega)) hn (fun W hW => HTT.out W (B0.out.trans hW)) HE1.out)
      go_wp2_with fail
      refine K1.out.mono ?_
      rintro e w1 ⟨x11, x12, x13, rfl, hm, hg, q1, q2, q3⟩
      have G1 := Lib.hid (show ∀ m' r e w', MStep p base x11 x12 x13 m' r w1 e w' → MStep p base v1 v2 v3 m' r w e w' from fun _ _ _ _ h => G0.out _ _ _ _ (MStep.next hg q1 q2 q3 h))
      have B1 := Lib.hid (B0.out.trans (M0.out.grow hg))
      have M1 := Lib.hid hm
      clear hm hg q1 q2 q3 K1 G0 M0 B0
      go_wp2_with fail
      refine (pipeKey_c id tH w1 hn (by decide) (HTT.out _ B1.out)).mono ?_
      rintro e w2 ⟨rfl, hb⟩
      have G2 := Lib.hid (show ∀ m' r e w', MStep p base x11 x12 x13 m' r w2 e w' → MStep p base v1 v2 v3 m' r w e w' from fun _ _ _ _ h => G1.out _ _ _ _ (MStep.next (Grow3.of_below hb) (.inl rfl) (.inl rfl) (.inl rfl) h))
      have B2 := Lib.hid (B1.out.trans (hb.mono M1.out.hb))
      have M2 := Lib.hid (M1.out.below hb)
      clear hb G1 M1 B1
      have K3 := Lib.hid (pNum_c p base x11 x12 x13 m1 m2 x3 (pipeK id tH) w2 M2.out (O1.out.mono (by omega)) (fun W hW => HTT.out W (B2.out.trans hW)) HE2.out)
      go_wp2_with fail
      refine K3.out.mono ?_
      rintro e w3 ⟨x31, x32, x33, rfl, hm, hg, q1, q2, q3⟩
      have G3 := Lib.hid (show ∀ m' r e w', MStep p base x31 x32 x33 m' r w3 e w' → MStep p base v1 v2 v3 m' r w e w' from fun _ _ _ _ h => G2.out _ _ _ _ (MStep.next hg q1 q2 q3 h))
      have B3 := Lib.hid (B2.out.trans (M2.out.grow hg))
      have M3 := Lib.hid hm
      clear hm hg q1 q2 q3 K3 G2 M2 B2
      go_wp2_with fail
      refine (pipeKey_c id tT w3 hn (by decide) (HTT.out _ B3.out)).mono ?_
      rintro e w4 ⟨rfl, hb⟩
      have G4 := Lib.hid (show ∀ m' r e w', MStep p base x31 x32 x33 m' r w4 e w' → MStep p base v1 v2 v3 m' r w e w' from fun _ _ _ _ h => G3.out _ _ _ _ (MStep.next (Grow3.of_below hb) (.inl rfl) (.inl rfl) (.inl rfl) h))
      have B4 := Lib.hid (B3.out.trans (hb.mono M3.out.hb))
      have M4 := Lib.hid (M3.out.below hb)
      clear hb G3 M3 B3
      have K5 := Lib.hid (pNum_c p base x31 x32 x33 m2 m3 x3 (pipeK id tT) w4 M4.out (O2.out.mono (by omega)) (fun W hW => HTT.out W (B4.out.trans hW)) HE3.out)
      go_wp2_with fail
      refine K5.out.mono ?_
      rintro e w5 ⟨x51, x52, x53, rfl, hm, hg, q1, q2, q3⟩
      have G5 := Lib.hid (show ∀ m' r e w', MStep p base x51 x52 x53 m' r w5 e w' → MStep p base v1 v2 v3 m' r w e w' from fun _ _ _ _ h => G4.out _ _ _ _ (MStep.next hg q1 q2 q3 h))
      have B5 := Lib.hid (B4.out.trans (M4.out.grow hg))
      have M5 := Lib.hid hm
      clear hm hg q1 q2 q3 K5 G4 M4 B4
      have HEND := Lib.hid (show MStep p base v1 v2 v3 _ (.tuple #[.string ⟨#[]⟩, .int .i64 5]) w (.returned (.tuple #[.string ⟨#[]⟩, .int .i64 5])) w5 from G5.out _ _ _ _ (M5.out.step (Below.refl _ _) _))
      clear G5 M5 B5
      go_wp2
      go_ret2
      exact HEND.out
    · have hwx2 : IntKind.i64.wrap (x2 + 1) = x2 + 1 := by rw [IntKind.wrap_i64]; omega
      obtain ⟨m4, x4, E4⟩ : ∃ aa bb, (msgP (pipeQ id (x2 + 1))).run m3 = (aa, bb) := ⟨_, _, rfl⟩
      have O4 := Lib.hid ((msgP_cost _).okE O3.out E4)
      have HE4 := Lib.hid E4
      clear E4
      obtain ⟨m5, u5, E5⟩ : ∃ aa bb, (layP (pipeQ id (x2 + 1)) (noB)).run m4 = (aa, bb) := ⟨_, _, rfl⟩
      have O5 := Lib.hid ((layP_cost _ _).okE O4.out E5)
      have HE5 := Lib.hid E5
      clear E5
      obtain ⟨m6, u6, E6⟩ : ∃ aa bb, (setP (pipeK id tH) (x2 + 1)).run m5 = (aa, bb) := ⟨_, _, rfl⟩
      have O6 := Lib.hid ((setP_cost _ _).okE O5.out E6)
      have HE6 := Lib.hid E6
      clear E6
      obtain ⟨e1, e2⟩ := Prod.mk.inj ((show (m6, (x4, 0)) = (takePipeP id).run m from by
        unfold takePipeP
        simp only [Pg.run_bind, Pg.run_pure, Pg.run_ret, ↓reduceIte, Bool.false_eq_true, Bool.true_and, Bool.and_true, Bool.and_self, Bool.false_and, Bool.and_false, or_false, false_or, true_or, or_true, ne_eq, not_true_eq_false, not_false_eq_true, eq_self_iff_true, decide_true, decide_false, HE1.out, HE2.out, HE3.out, c2, HE4.out, HE5.out, HE6.out]).trans HE.out)
      obtain ⟨e2, e3⟩ := Prod.mk.inj e2
      subst e1 e2 e3
      have G0 := Lib.hid (show ∀ m' r e w', MStep p base v1 v2 v3 m' r w e w' → MStep p base v1 v2 v3 m' r w e w' from fun _ _ _ _ h => h)
      have M0 := Lib.hid H.out
      have B0 := Lib.hid (Below.refl base w)
      clear HE
      go_enter Tryz.func106, Tryz.ntmps106
      have K1 := Lib.hid (pIsPipe_c p base v1 v2 v3 m m1 true id w M0.out (O0.out.mono (by omega)) hn (fun W hW => HTT.out W (B0.out.trans hW)) HE1.out)
      go_wp2_with fail
      refine K1.out.mono ?_
      rintro e w1 ⟨x11, x12, x13, rfl, hm, hg, q1, q2, q3⟩
      have G1 := Lib.hid (show ∀ m' r e w', MStep p base x11 x12 x13 m' r w1 e w' → MStep p base v1 v2 v3 m' r w e w' from fun _ _ _ _ h => G0.out _ _ _ _ (MStep.next hg q1 q2 q3 h))
      have B1 := Lib.hid (B0.out.trans (M0.out.grow hg))
      have M1 := Lib.hid hm
      clear hm hg q1 q2 q3 K1 G0 M0 B0
      go_wp2_with fail
      refine (pipeKey_c id tH w1 hn (by decide) (HTT.out _ B1.out)).mono ?_
      rintro e w2 ⟨rfl, hb⟩
      have G2 := Lib.hid (show ∀ m' r e w', MStep p base x11 x12 x13 m' r w2 e w' → MStep p base v1 v2 v3 m' r w e w' from fun _ _ _ _ h => G1.out _ _ _ _ (MStep.next (Grow3.of_below hb) (.inl rfl) (.inl rfl) (.inl rfl) h))
      have B2 := Lib.hid (B1.out.trans (hb.mono M1.out.hb))
      have M2 := Lib.hid (M1.out.below hb)
      clear hb G1 M1 B1
      have K3 := Lib.hid (pNum_c p base x11 x12 x13 m1 m2 x2 (pipeK id tH) w2 M2.out (O1.out.mono (by omega)) (fun W hW => HTT.out W (B2.out.trans hW)) HE2.out)
      go_wp2_with fail
      refine K3.out.mono ?_
      rintro e w3 ⟨x31, x32, x33, rfl, hm, hg, q1, q2, q3⟩
      have G3 := Lib.hid (show ∀ m' r e w', MStep p base x31 x32 x33 m' r w3 e w' → MStep p base v1 v2 v3 m' r w e w' from fun _ _ _ _ h => G2.out _ _ _ _ (MStep.next hg q1 q2 q3 h))
      have B3 := Lib.hid (B2.out.trans (M2.out.grow hg))
      have M3 := Lib.hid hm
      clear hm hg q1 q2 q3 K3 G2 M2 B2
      go_wp2_with fail
      refine (pipeKey_c id tT w3 hn (by decide) (HTT.out _ B3.out)).mono ?_
      rintro e w4 ⟨rfl, hb⟩
      have G4 := Lib.hid (show ∀ m' r e w', MStep p base x31 x32 x33 m' r w4 e w' → MStep p base v1 v2 v3 m' r w e w' from fun _ _ _ _ h => G3.out _ _ _ _ (MStep.next (Grow3.of_below hb) (.inl rfl) (.inl rfl) (.inl rfl) h))
      have B4 := Lib.hid (B3.out.trans (hb.mono M3.out.hb))
      have M4 := Lib.hid (M3.out.below hb)
      clear hb G3 M3 B3
      have K5 := Lib.hid (pNum_c p base x31 x32 x33 m2 m3 x3 (pipeK id tT) w4 M4.out (O2.out.mono (by omega)) (fun W hW => HTT.out W (B4.out.trans hW)) HE3.out)
      go_wp2_with fail
      refine K5.out.mono ?_
      rintro e w5 ⟨x51, x52, x53, rfl, hm, hg, q1, q2, q3⟩
      have G5 := Lib.hid (show ∀ m' r e w', MStep p base x51 x52 x53 m' r w5 e w' → MStep p base v1 v2 v3 m' r w e w' from fun _ _ _ _ h => G4.out _ _ _ _ (MStep.next hg q1 q2 q3 h))
      have B5 := Lib.hid (B4.out.trans (M4.out.grow hg))
      have M5 := Lib.hid hm
      clear hm hg q1 q2 q3 K5 G4 M4 B4
      go_wp2_with fail
      refine (pipeKey_c id ⟨#[47, 113, 47]⟩ w5 hn (by decide) (HTT.out _ B5.out)).mono ?_
      rintro e w6 ⟨rfl, hb⟩
      have G6 := Lib.hid (show ∀ m' r e w', MStep p base x51 x52 x53 m' r w6 e w' → MStep p base v1 v2 v3 m' r w e w' from fun _ _ _ _ h => G5.out _ _ _ _ (MStep.next (Grow3.of_below hb) (.inl rfl) (.inl rfl) (.inl rfl) h))
      have B6 := Lib.hid (B5.out.trans (hb.mono M5.out.hb))
      have M6 := Lib.hid (M5.out.below hb)
      clear hb G5 M5 B5
      go_wp2_with fail
      refine (implKeyNum2_c (pipeK id ⟨#[47, 113, 47]⟩) (x2 + 1) ⟨#[]⟩ w6 (i64_succ bx2) (Nat.le_trans (pipeK_size hn (by decide)) (by decide)) (by decide) (HTT.out _ B6.out)).mono ?_
      rintro e w7 ⟨rfl, hb⟩
      have G7 := Lib.hid (show ∀ m' r e w', MStep p base x51 x52 x53 m' r w7 e w' → MStep p base v1 v2 v3 m' r w e w' from fun _ _ _ _ h => G6.out _ _ _ _ (MStep.next (Grow3.of_below hb) (.inl rfl) (.inl rfl) (.inl rfl) h))
      have B7 := Lib.hid (B6.out.trans (hb.mono M6.out.hb))
      have M7 := Lib.hid (M6.out.below hb)
      clear hb G6 M6 B6
      have K8 := Lib.hid (pMsg_c p base x51 x52 x53 m3 m4 x4 (pipeQ id (x2 + 1)) w7 M7.out (O3.out.mono (by omega)) (fun W hW => HTT.out W (B7.out.trans hW)) HE4.out)
      go_wp2_with fail
      refine K8.out.mono ?_
      rintro e w8 ⟨x81, x82, x83, rfl, hm, hg, q1, q2, q3⟩
      have G8 := Lib.hid (show ∀ m' r e w', MStep p base x81 x82 x83 m' r w8 e w' → MStep p base v1 v2 v3 m' r w e w' from fun _ _ _ _ h => G7.out _ _ _ _ (MStep.next hg q1 q2 q3 h))
      have B8 := Lib.hid (B7.out.trans (M7.out.grow hg))
      have M8 := Lib.hid hm
      clear hm hg q1 q2 q3 K8 G7 M7 B7
      have K9 := Lib.hid (pLay_c p base x81 x82 x83 m4 m5 u5 (pipeQ id (x2 + 1)) (noB) w8 M8.out (O4.out.mono (by omega)) (kle (pipeQ_size hn (i64_succ bx2))) (by decide) HE5.out)
      go_wp2_with fail
      refine K9.out.mono ?_
      rintro e w9 ⟨x91, x92, x93, rfl, hm, hg, q1, q2, q3⟩
      have G9 := Lib.hid (show ∀ m' r e w', MStep p base x91 x92 x93 m' r w9 e w' → MStep p base v1 v2 v3 m' r w e w' from fun _ _ _ _ h => G8.out _ _ _ _ (MStep.next hg q1 q2 q3 h))
      have B9 := Lib.hid (B8.out.trans (M8.out.grow hg))
      have M9 := Lib.hid hm
      clear hm hg q1 q2 q3 K9 G8 M8 B8
      go_wp2_with fail
      refine (pipeKey_c id tH w9 hn (by decide) (HTT.out _ B9.out)).mono ?_
      rintro e w10 ⟨rfl, hb⟩
      have G10 := Lib.hid (show ∀ m' r e w', MStep p base x91 x92 x93 m' r w10 e w' → MStep p base v1 v2 v3 m' r w e w' from fun _ _ _ _ h => G9.out _ _ _ _ (MStep.next (Grow3.of_below hb) (.inl rfl) (.inl rfl) (.inl rfl) h))
      have B10 := Lib.hid (B9.out.trans (hb.mono M9.out.hb))
      have M10 := Lib.hid (M9.out.below hb)
      clear hb G9 M9 B9
      have K11 := Lib.hid (pSet_c p base x91 x92 x93 m5 m6 u6 (pipeK id tH) (x2 + 1) w10 M10.out (O5.out.mono (by omega)) (kle (pipeK_size hn (by decide))) (fun W hW => HTT.out W (B10.out.trans hW)) HE6.out)
      go_wp2_with fail
      refine K11.out.mono ?_
      rintro e w11 ⟨x111, x112, x113, rfl, hm, hg, q1, q2, q3⟩
      have G11 := Lib.hid (show ∀ m' r e w', MStep p base x111 x112 x113 m' r w11 e w' → MStep p base v1 v2 v3 m' r w e w' from fun _ _ _ _ h => G10.out _ _ _ _ (MStep.next hg q1 q2 q3 h))
      have B11 := Lib.hid (B10.out.trans (M10.out.grow hg))
      have M11 := Lib.hid hm
      clear hm hg q1 q2 q3 K11 G10 M10 B10
      have HEND := Lib.hid (show MStep p base v1 v2 v3 _ (.tuple #[.string x4, .int .i64 0]) w (.returned (.tuple #[.string x4, .int .i64 0])) w11 from G11.out _ _ _ _ (M11.out.step (Below.refl _ _) _))
      clear G11 M11 B11
      go_wp2
      go_ret2
      exact HEND.out
end Go.Proofs.YtihghflppegnmaaGreatDoor
namespace Go.Proofs.YtihghflppegnmaaGreatDoor
open Go.ChangeShapes Go.WideShapes Go.ChangeAt Go.RowKit
attribute [local go_sem ↓] Go.wp_at_zero Go.wp_at_succ
set_option maxRecDepth 100000 in
set_option maxHeartbeats 8000000 in
theorem pState_c (p base : Nat) (v1 v2 v3 : Value) (m m' : Mch) (x : Int) (id : Int) (w : World) (h : MAt w p base v1 v2 v3 m) (ho : MOk 1900000000000 m) (hn : I64 id) (HT : ∀ W, Below base w W → Tabs W) (E : (stateP id).run m = (m', x)) :
    Calls Tryz.prog 96 #[.pointer (some ⟨p, 0, none⟩), .int .i64 id] w (MStep p base v1 v2 v3 m' (.int .i64 x) w) := by
  have H := Lib.hid h
  have HTT := Lib.hid HT
  have O0 := Lib.hid ho
  have HE := Lib.hid E
  clear h ho HT E
  obtain ⟨m1, x1, E1⟩ : ∃ aa bb, (numP (procK id tS)).run m = (aa, bb) := ⟨_, _, rfl⟩
  have bx1 := numP_bounds E1
  have O1 := Lib.hid ((numP_cost _).okE O0.out E1)
  have HE1 := Lib.hid E1
  clear E1
  obtain ⟨e1, e2⟩ := Prod.mk.inj ((show (m1, x1) = (stateP id).run m from by
    unfold stateP
    simp only [Pg.run_bind, Pg.run_pure, Pg.run_ret, ↓reduceIte, Bool.false_eq_true, Bool.true_and, Bool.and_true, Bool.and_self, Bool.false_and, Bool.and_false, or_false, false_or, true_or, or_true, ne_eq, not_true_eq_false, not_false_eq_true, eq_self_iff_true, decide_true, decide_false, HE1.out]).trans HE.out)
  subst e1 e2
  have G0 := Lib.hid (show ∀ m' r e w', MStep p base v1 v2 v3 m' r w e w' → MStep p base v1 v2 v3 m' r w e w' from fun _ _ _ _ h => h)
  have M0 := Lib.hid H.out
  have B0 := Lib.hid (Below.refl base w)
  clear HE
  go_enter Tryz.func96, Tryz.ntmps96
  go_wp2_with fail
  refine (procKey2_c id tS w hn (by decide) (HTT.out _ B0.out)).mono ?_
  rintro e w1 ⟨rfl, hb⟩
  have G1 := Lib.hid (show ∀ m' r e w', MStep p base v1 v2 v3 m' r w1 e w' → MStep p base v1 v2 v3 m' r w e w' from fun _ _ _ _ h => G0.out _ _ _ _ (MStep.next (Grow3.of_below hb) (.inl rfl) (.inl rfl) (.inl rfl) h))
  have B1 := Lib.hid (B0.out.trans (hb.mono M0.out.hb))
  have M1 := Lib.hid (M0.out.below hb)
  clear hb G0 M0 B0
  have K2 := Lib.hid (pNum_c p base v1 v2 v3 m m1 x1 (procK id tS) w1 M1.out (O0.out.mono (by omega)) (fun W hW => HTT.out W (B1.out.trans hW)) HE1.out)
  go_wp2_with fail
  refine K2.out.mono ?_
  rintro e w2 ⟨x21, x22, x23, rfl, hm, hg, q1, q2, q3⟩
  have G2 := Lib.hid (show ∀ m' r e w', MStep p base x21 x22 x23 m' r w2 e w' → MStep p base v1 v2 v3 m' r w e w' from fun _ _ _ _ h => G1.out _ _ _ _ (MStep.next hg q1 q2 q3 h))
  have B2 := Lib.hid (B1.out.trans (M1.out.grow hg))
  have M2 := Lib.hid hm
  clear hm hg q1 q2 q3 K2 G1 M1 B1
  have HEND := Lib.hid (show MStep p base v1 v2 v3 _ (.int .i64 x1) w (.returned (.int .i64 x1)) w2 from G2.out _ _ _ _ (M2.out.step (Below.refl _ _) _))
  clear G2 M2 B2
  go_wp2
  go_ret
  exact HEND.out

set_option maxRecDepth 100000 in
set_option maxHeartbeats 8000000 in
theorem pSpawn_c (p base : Nat) (v1 v2 v3 : Value) (m m' : Mch) (x y : Int) (parent : Int) (w : World) (h : MAt w p base v1 v2 v3 m) (ho : MOk 1700000000000 m) (HT : ∀ W, Below base w W → Tabs W) (E : (spawnP parent).run m = (m', (x, y))) :
    Calls Tryz.prog 61 #[.pointer (some ⟨p, 0, none⟩), .int .i64 parent] w (MStep p base v1 v2 v3 m' (.tuple #[.int .i64 x, .int .i64 y]) w) := by
  have H := Lib.hid h
  have HTT := Lib.hid HT
  have O0 := Lib.hid ho
  have HE := Lib.hid E
  clear h ho HT E
  obtain ⟨m1, x1, E1⟩ : ∃ aa bb, (numP (cProc)).run m = (aa, bb) := ⟨_, _, rfl⟩
  have bx1 := numP_bounds E1
  have O1 := Lib.hid ((numP_cost _).okE O0.out E1)
  have HE1 := Lib.hid E1
  clear E1
  by_cases c1 : 12 ≤ x1
  · obtain ⟨e1, e2⟩ := Prod.mk.inj ((show (m1, (0, 3)) = (spawnP parent).run m from by
      unfold spawnP
      simp only [Pg.run_bind, Pg.run_pure, Pg.run_ret, ↓reduceIte, Bool.false_eq_true, Bool.true_and, Bool.and_true, Bool.and_self, Bool.false_and, Bool.and_false, or_false, false_or, true_or, or_true, ne_eq, not_true_eq_false, not_false_eq_true, eq_self_iff_true, decide_true, decide_false, HE1.out, c1]).trans HE.out)
    obtain ⟨e2, e3⟩ := Prod.mk.inj e2
    subst e1 e2 e3
    have G0 := Lib.hid (show ∀ m' r e w', MStep p base v1 v2 v3 m' r w e w' → MStep p base v1 v2 v3 m' r w e w' from fun _ _ _ _ h => h)
    have M0 := Lib.hid H.out
    have B0 := Lib.hid (Below.refl base w)
    clear HE
    go_enter Tryz.func61, Tryz.ntmps61
    have K1 := Lib.hid (pNum_c p base v1 v2 v3 m m1 x1 (cProc) w M0.out (O0.out.mono (by omega)) (fun W hW => HTT.out W (B0.out.trans hW)) HE1.out)
    go_wp2_with fail
    refine K1.out.mono ?_
    rintro e w1 ⟨x11, x12, x13, rfl, hm, hg, q1, q2, q3⟩
    have G1 := Lib.hid (show ∀ m' r e w', MStep p base x11 x12 x13 m' r w1 e w' → MStep p base v1 v2 v3 m' r w e w' from fun _ _ _ _ h => G0.out _ _ _ _ (MStep.next hg q1 q2 q3 h))
    have B1 := Lib.hid (B0.out.trans (M0.out.grow hg))
    have M1 := Lib.hid hm
    clear hm hg q1 q2 q3 K1 G0 M0 B0
    have HEND := Lib.hid (show MStep p base v1 v2 v3 _ (.tuple #[.int .i64 0, .int .i64 3]) w (.returned (.tuple #[.int .i64 0, .int .i64 3])) w1 from G1.out _ _ _ _ (M1.out.step (Below.refl _ _) _))
    clear G1 M1 B1
    go_wp2
    go_ret2
    exact HEND.out
  · obtain ⟨m2, x2, E2⟩ : ∃ aa bb, (bumpP (cProc)).run m1 = (aa, bb) := ⟨_, _, rfl⟩
    have bx2 := bumpP_bounds E2
    have O2 := Lib.hid ((bumpP_cost _).okE O1.out E2)
    have HE2 := Lib.hid E2
    clear E2
    obtain ⟨m3, u3, E3⟩ : ∃ aa bb, (setP (procK x2 tS) (1)).run m2 = (aa, bb) := ⟨_, _, rfl⟩
    have O3 := Lib.hid ((setP_cost _ _).okE O2.out E3)
    have HE3 := Lib.hid E3
    clear E3
    obtain ⟨m4, u4, E4⟩ : ∃ aa bb, (setP (procK x2 tP) (parent)).run m3 = (aa, bb) := ⟨_, _, rfl⟩
    have O4 := Lib.hid ((setP_cost _ _).okE O3.out E4)
    have HE4 := Lib.hid E4
    clear E4
    obtain ⟨e1, e2⟩ := Prod.mk.inj ((show (m4, (x2, 0)) = (spawnP parent).run m from by
      unfold spawnP
      simp only [Pg.run_bind, Pg.run_pure, Pg.run_ret, ↓reduceIte, Bool.false_eq_true, Bool.true_and, Bool.and_true, Bool.and_self, Bool.false_and, Bool.and_false, or_false, false_or, true_or, or_true, ne_eq, not_true_eq_false, not_false_eq_true, eq_self_iff_true, decide_true, decide_false, HE1.out, c1, HE2.out, HE3.out, HE4.out]).trans HE.out)
    obtain ⟨e2, e3⟩ := Prod.mk.inj e2
    subst e1 e2 e3
    have G0 := Lib.hid (show ∀ m' r e w', MStep p base v1 v2 v3 m' r w e w' → MStep p base v1 v2 v3 m' r w e w' from fun _ _ _ _ h => h)
    have M0 := Lib.hid H.out
    have B0 := Lib.hid (Below.refl base w)
    clear HE
    go_enter Tryz.func61, Tryz.ntmps61
    have K1 := Lib.hid (pNum_c p base v1 v2 v3 m m1 x1 (cProc) w M0.out (O0.out.mono (by omega)) (fun W hW => HTT.out W (B0.out.trans hW)) HE1.out)
    go_wp2_with fail
    refine K1.out.mono ?_
    rintro e w1 ⟨x11, x12, x13, rfl, hm, hg, q1, q2, q3⟩
    have G1 := Lib.hid (show ∀ m' r e w', MStep p base x11 x12 x13 m' r w1 e w' → MStep p base v1 v2 v3 m' r w e w' from fun _ _ _ _ h => G0.out _ _ _ _ (MStep.next hg q1 q2 q3 h))
    have B1 := Lib.hid (B0.out.trans (M0.out.grow hg))
    have M1 := Lib.hid hm
    clear hm hg q1 q2 q3 K1 G0 M0 B0
    have K2 := Lib.hid (pBump_c p base x11 x12 x13 m1 m2 x2 (cProc) w1 M1.out (O1.out.mono (by omega)) (by decide) (fun W hW => HTT.out W (B1.out.trans hW)) HE2.out)
    go_wp2_with fail
    refine K2.out.mono ?_
    rintro e w2 ⟨x21, x22, x23, rfl, hm, hg, q1, q2, q3⟩
    have G2 := Lib.hid (show ∀ m' r e w', MStep p base x21 x22 x23 m' r w2 e w' → MStep p base v1 v2 v3 m' r w e w' from fun _ _ _ _ h => G1.out _ _ _ _ (MStep.next hg q1 q2 q3 h))
    have B2 := Lib.hid (B1.out.trans (M1.out.grow hg))
    have M2 := Lib.hid hm
    clear hm hg q1 q2 q3 K2 G1 M1 B1
    go_wp2_with fail
    refine (procKey2_c x2 tS w2 (i64_of bx2) (by decide) (HTT.out _ B2.out)).mono ?_
    rintro e w3 ⟨rfl, hb⟩
    have G3 := Lib.hid (show ∀ m' r e w', MStep p base x21 x22 x23 m' r w3 e w' → MStep p base v1 v2 v3 m' r w e w' from fun _ _ _ _ h => G2.out _ _ _ _ (MStep.next (Grow3.of_below hb) (.inl rfl) (.inl rfl) (.inl rfl) h))
    have B3 := Lib.hid (B2.out.trans (hb.mono M2.out.hb))
    have M3 := Lib.hid (M2.out.below hb)
    clear hb G2 M2 B2
    have K4 := Lib.hid (pSet_c p base x21 x22 x23 m2 m3 u3 (procK x2 tS) (1) w3 M3.out (O2.out.mono (by omega)) (kle (procK_size2 (i64_of bx2) (by decide))) (fun W hW => HTT.out W (B3.out.trans hW)) HE3.out)
    go_wp2_with fail
    refine K4.out.mono ?_
    rintro e w4 ⟨x41, x42, x43, rfl, hm, hg, q1, q2, q3⟩
    have G4 := Lib.hid (show ∀ m' r e w', MStep p base x41 x42 x43 m' r w4 e w' → MStep p base v1 v2 v3 m' r w e w' from fun _ _ _ _ h => G3.out _ _ _ _ (MStep.next hg q1 q2 q3 h))
    have B4 := Lib.hid (B3.out.trans (M3.out.grow hg))
    have M4 := Lib.hid hm
    clear hm hg q1 q2 q3 K4 G3 M3 B3
    go_wp2_with fail
    refine (procKey2_c x2 tP w4 (i64_of bx2) (by decide) (HTT.out _ B4.out)).mono ?_
    rintro e w5 ⟨rfl, hb⟩
    have G5 := Lib.hid (show ∀ m' r e w', MStep p base x41 x42 x43 m' r w5 e w' → MStep p base v1 v2 v3 m' r w e w' from fun _ _ _ _ h => G4.out _ _ _ _ (MStep.next (Grow3.of_below hb) (.inl rfl) (.inl rfl) (.inl rfl) h))
    have B5 := Lib.hid (B4.out.trans (hb.mono M4.out.hb))
    have M5 := Lib.hid (M4.out.below hb)
    clear hb G4 M4 B4
    have K6 := Lib.hid (pSet_c p base x41 x42 x43 m3 m4 u4 (procK x2 tP) (parent) w5 M5.out (O3.out.mono (by omega)) (kle (procK_size2 (i64_of bx2) (by decide))) (fun W hW => HTT.out W (B5.out.trans hW)) HE4.out)
    go_wp2_with fail
    refine K6.out.mono ?_
    rintro e w6 ⟨x61, x62, x63, rfl, hm, hg, q1, q2, q3⟩
    have G6 := Lib.hid (show ∀ m' r e w', MStep p base x61 x62 x63 m' r w6 e w' → MStep p base v1 v2 v3 m' r w e w' from fun _ _ _ _ h => G5.out _ _ _ _ (MStep.next hg q1 q2 q3 h))
    have B6 := Lib.hid (B5.out.trans (M5.out.grow hg))
    have M6 := Lib.hid hm
    clear hm hg q1 q2 q3 K6 G5 M5 B5
    have HEND := Lib.hid (show MStep p base v1 v2 v3 _ (.tuple #[.int .i64 x2, .int .i64 0]) w (.returned (.tuple #[.int .i64 x2, .int .i64 0])) w6 from G6.out _ _ _ _ (M6.out.step (Below.refl _ _) _))
    clear G6 M6 B6
    go_wp2
    go_ret2
    exact HEND.out

set_option maxRecDepth 100000 in
set_option maxHeartbeats 8000000 in
theorem pEnd_c (p base : Nat) (v1 v2 v3 : Value) (m m' : Mch) (x : Int) (id : Int) (n : Int) (w : World) (h : MAt w p base v1 v2 v3 m) (ho : MOk 1700000000000 m) (hn : I64 id) (HT : ∀ W, Below base w W → Tabs W) (E : (endP id n).run m = (m', x)) :
    Calls Tryz.prog 108 #[.pointer (some ⟨p, 0, none⟩), .int .i64 id, .int .i64 n] w (MStep p base v1 v2 v3 m' (.int .i64 x) w) := by
  have H := Lib.hid h
  have HTT := Lib.hid HT
  have O0 := Lib.hid ho
  have HE := Lib.hid E
  clear h ho HT E
  obtain ⟨m1, x1, E1⟩ : ∃ aa bb, (stateP id).run m = (aa, bb) := ⟨_, _, rfl⟩
  have bx1 := numP_bounds E1
  have O1 := Lib.hid ((stateP_cost _).okE O0.out E1)
  have HE1 := Lib.hid E1
  clear E1
  by_cases c1 : x1 = 1
  · subst c1
    by_cases c2 : inB n 0 100 = true
    · have C2 := Lib.hid c2
      clear c2
      have hb := inB_iff.1 C2.out
      have hwn : IntKind.i64.wrap (n + 1) = n + 1 := by rw [IntKind.wrap_i64]; omega
      have KW := Lib.hid (fun W => within_c n 0 100 W); rw [C2.out] at KW
      obtain ⟨m2, u2, E2⟩ : ∃ aa bb, (setP (procK id tS) (2)).run m1 = (aa, bb) := ⟨_, _, rfl⟩
      have O2 := Lib.hid ((setP_cost _ _).okE O1.out E2)
      have HE2 := Lib.hid E2
      clear E2
      obtain ⟨m3, u3, E3⟩ : ∃ aa bb, (setP (procK id tX) (n + 1)).run m2 = (aa, bb) := ⟨_, _, rfl⟩
      have O3 := Lib.hid ((setP_cost _ _).okE O2.out E3)
      have HE3 := Lib.hid E3
      clear E3
      obtain ⟨e1, e2⟩ := Prod.mk.inj ((show (m3, 0) = (endP id n).run m from by
        unfold endP
        simp only [Pg.run_bind, Pg.run_pure, Pg.run_ret, ↓reduceIte, Bool.false_eq_true, Bool.true_and, Bool.and_true, Bool.and_self, Bool.false_and, Bool.and_false, or_false, false_or, true_or, or_true, ne_eq, not_true_eq_false, not_false_eq_true, eq_self_iff_true, decide_true, decide_false, HE1.out, C2.out, HE2.out, HE3.out]).trans HE.out)
      subst e1 e2
      have G0 := Lib.hid (show ∀ m' r e w', MStep p base v1 v2 v3 m' r w e w' → MStep p base v1 v2 v3 m' r w e w' from fun _ _ _ _ h => h)
      have M0 := Lib.hid H.out
      have B0 := Lib.hid (Below.refl base w)
      clear HE
      go_enter Tryz.func108, Tryz.ntmps108
      have K1 := Lib.hid (pState_c p base v1 v2 v3 m m1 (1) id w M0.out (O0.out.mono (by omega)) hn (fun W hW => HTT.out W (B0.out.trans hW)) HE1.out)
      go_wp2_with (first | (go_at_call 152; refine (KW.out _).mono ?_; rintro e w' ⟨rfl, rfl⟩) | fail)
      refine K1.out.mono ?_
      rintro e w1 ⟨x11, x12, x13, rfl, hm, hg, q1, q2, q3⟩
      have G1 := Lib.hid (show ∀ m' r e w', MStep p base x11 x12 x13 m' r w1 e w' → MStep p base v1 v2 v3 m' r w e w' from fun _ _ _ _ h => G0.out _ _ _ _ (MStep.next hg q1 q2 q3 h))
      have B1 := Lib.hid (B0.out.trans (M0.out.grow hg))
      have M1 := Lib.hid hm
      clear hm hg q1 q2 q3 K1 G0 M0 B0
      go_wp2_with (first | (go_at_call 152; refine (KW.out _).mono ?_; rintro e w' ⟨rfl, rfl⟩) | fail)
      refine (procKey2_c id tS w1 hn (by decide) (HTT.out _ B1.out)).mono ?_
      rintro e w2 ⟨rfl, hb⟩
      have G2 := Lib.hid (show ∀ m' r e w', MStep p base x11 x12 x13 m' r w2 e w' → MStep p base v1 v2 v3 m' r w e w' from fun _ _ _ _ h => G1.out _ _ _ _ (MStep.next (Grow3.of_below hb) (.inl rfl) (.inl rfl) (.inl rfl) h))
      have B2 := Lib.hid (B1.out.trans (hb.mono M1.out.hb))
      have M2 := Lib.hid (M1.out.below hb)
      clear hb G1 M1 B1
      have K3 := Lib.hid (pSet_c p base x11 x12 x13 m1 m2 u2 (procK id tS) (2) w2 M2.out (O1.out.mono (by omega)) (kle (procK_size2 hn (by decide))) (fun W hW => HTT.out W (B2.out.trans hW)) HE2.out)
      go_wp2_with (first | (go_at_call 152; refine (KW.out _).mono ?_; rintro e w' ⟨rfl, rfl⟩) | fail)
      refine K3.out.mono ?_
      rintro e w3 ⟨x31, x32, x33, rfl, hm, hg, q1, q2, q3⟩
      have G3 := Lib.hid (show ∀ m' r e w', MStep p base x31 x32 x33 m' r w3 e w' → MStep p base v1 v2 v3 m' r w e w' from fun _ _ _ _ h => G2.out _ _ _ _ (MStep.next hg q1 q2 q3 h))
      have B3 := Lib.hid (B2.out.trans (M2.out.grow hg))
      have M3 := Lib.hid hm
      clear hm hg q1 q2 q3 K3 G2 M2 B2
      go_wp2_with (first | (go_at_call 152; refine (KW.out _).mono ?_; rintro e w' ⟨rfl, rfl⟩) | fail)
      refine (procKey2_c id tX w3 hn (by decide) (HTT.out _ B3.out)).mono ?_
      rintro e w4 ⟨rfl, hb⟩
      have G4 := Lib.hid (show ∀ m' r e w', MStep p base x31 x32 x33 m' r w4 e w' → MStep p base v1 v2 v3 m' r w e w' from fun _ _ _ _ h => G3.out _ _ _ _ (MStep.next (Grow3.of_below hb) (.inl rfl) (.inl rfl) (.inl rfl) h))
      have B4 := Lib.hid (B3.out.trans (hb.mono M3.out.hb))
      have M4 := Lib.hid (M3.out.below hb)
      clear hb G3 M3 B3
      have K5 := Lib.hid (pSet_c p base x31 x32 x33 m2 m3 u3 (procK id tX) (n + 1) w4 M4.out (O2.out.mono (by omega)) (kle (procK_size2 hn (by decide))) (fun W hW => HTT.out W (B4.out.trans hW)) HE3.out)
      go_wp2_with (first | (go_at_call 152; refine (KW.out _).mono ?_; rintro e w' ⟨rfl, rfl⟩) | fail)
      refine K5.out.mono ?_
      rintro e w5 ⟨x51, x52, x53, rfl, hm, hg, q1, q2, q3⟩
      have G5 := Lib.hid (show ∀ m' r e w', MStep p base x51 x52 x53 m' r w5 e w' → MStep p base v1 v2 v3 m' r w e w' from fun _ _ _ _ h => G4.out _ _ _ _ (MStep.next hg q1 q2 q3 h))
      have B5 := Lib.hid (B4.out.trans (M4.out.grow hg))
      have M5 := Lib.hid hm
      clear hm hg q1 q2 q3 K5 G4 M4 B4
      have HEND := Lib.hid (show MStep p base v1 v2 v3 _ (.int .i64 0) w (.returned (.int .i64 0)) w5 from G5.out _ _ _ _ (M5.out.step (Below.refl _ _) _))
      clear G5 M5 B5
      go_wp2_with (first | (go_at_call 152; refine (KW.out _).mono ?_; rintro e w' ⟨rfl, rfl⟩) | fail)
      go_ret
      exact HEND.out
    · have C2 := Lib.hid (Bool.eq_false_iff.2 c2)
      clear c2
      have KW := Lib.hid (fun W => within_c n 0 100 W); rw [C2.out] at KW
      obtain ⟨e1, e2⟩ := Prod.mk.inj ((show (m1, 4) = (endP id n).run m from by
        unfold endP
        simp only [Pg.run_bind, Pg.run_pure, Pg.run_ret, ↓reduceIte, Bool.false_eq_true, Bool.true_and, Bool.and_true, Bool.and_self, Bool.false_and, Bool.and_false, or_false, false_or, true_or, or_true, ne_eq, not_true_eq_false, not_false_eq_true, eq_self_iff_true, decide_true, decide_false, HE1.out, C2.out]).trans HE.out)
      subst e1 e2
      have G0 := Lib.hid (show ∀ m' r e w', MStep p base v1 v2 v3 m' r w e w' → MStep p base v1 v2 v3 m' r w e w' from fun _ _ _ _ h => h)
      have M0 := Lib.hid H.out
      have B0 := Lib.hid (Below.refl base w)
      clear HE
      go_enter Tryz.func108, Tryz.ntmps108
      have K1 := Lib.hid (pState_c p base v1 v2 v3 m m1 (1) id w M0.out (O0.out.mono (by omega)) hn (fun W hW => HTT.out W (B0.out.trans hW)) HE1.out)
      go_wp2_with (first | (go_at_call 152; refine (KW.out _).mono ?_; rintro e w' ⟨rfl, rfl⟩) | fail)
      refine K1.out.mono ?_
      rintro e w1 ⟨x11, x12, x13, rfl, hm, hg, q1, q2, q3⟩
      have G1 := Lib.hid (show ∀ m' r e w', MStep p base x11 x12 x13 m' r w1 e w' → MStep p base v1 v2 v3 m' r w e w' from fun _ _ _ _ h => G0.out _ _ _ _ (MStep.next hg q1 q2 q3 h))
      have B1 := Lib.hid (B0.out.trans (M0.out.grow hg))
      have M1 := Lib.hid hm
      clear hm hg q1 q2 q3 K1 G0 M0 B0
      have HEND := Lib.hid (show MStep p base v1 v2 v3 _ (.int .i64 4) w (.returned (.int .i64 4)) w1 from G1.out _ _ _ _ (M1.out.step (Below.refl _ _) _))
      clear G1 M1 B1
      go_wp2_with (first | (go_at_call 152; refine (KW.out _).mono ?_; rintro e w' ⟨rfl, rfl⟩) | fail)
      go_ret
      exact HEND.out
  · obtain ⟨e1, e2⟩ := Prod.mk.inj ((show (m1, 2) = (endP id n).run m from by
      unfold endP
      simp only [Pg.run_bind, Pg.run_pure, Pg.run_ret, ↓reduceIte, Bool.false_eq_true, Bool.true_and, Bool.and_true, Bool.and_self, Bool.false_and, Bool.and_false, or_false, false_or, true_or, or_true, ne_eq, not_true_eq_false, not_false_eq_true, eq_self_iff_true, decide_true, decide_false, HE1.out, c1]).trans HE.out)
    subst e1 e2
    have G0 := Lib.hid (show ∀ m' r e w', MStep p base v1 v2 v3 m' r w e w' → MStep p base v1 v2 v3 m' r w e w' from fun _ _ _ _ h => h)
    have M0 := Lib.hid H.out
    have B0 := Lib.hid (Below.refl base w)
    clear HE
    go_enter Tryz.func108, Tryz.ntmps108
    have K1 := Lib.hid (pState_c p base v1 v2 v3 m m1 x1 id w M0.out (O0.out.mono (by omega)) hn (fun W hW => HTT.out W (B0.out.trans hW)) HE1.out)
    go_wp2_with (first | (go_at_call 152; refine (KW.out _).mono ?_; rintro e w' ⟨rfl, rfl⟩) | fail)
    refine K1.out.mono ?_
    rintro e w1 ⟨x11, x12, x13, rfl, hm, hg, q1, q2, q3⟩
    have G1 := Lib.hid (show ∀ m' r e w', MStep p base x11 x12 x13 m' r w1 e w' → MStep p base v1 v2 v3 m' r w e w' from fun _ _ _ _ h => G0.out _ _ _ _ (MStep.next hg q1 q2 q3 h))
    have B1 := Lib.hid (B0.out.trans (M0.out.grow hg))
    have M1 := Lib.hid hm
    clear hm hg q1 q2 q3 K1 G0 M0 B0
    have HEND := Lib.hid (show MStep p base v1 v2 v3 _ (.int .i64 2) w (.returned (.int .i64 2)) w1 from G1.out _ _ _ _ (M1.out.step (Below.refl _ _) _))
    clear G1 M1 B1
    go_wp2_with (first | (go_at_call 152; refine (KW.out _).mono ?_; rintro e w' ⟨rfl, rfl⟩) | fail)
    go_ret
    exact HEND.out

set_option maxRecDepth 100000 in
set_option maxHeartbeats 8000000 in
theorem pSend_c (p base : Nat) (v1 v2 v3 : Value) (m m' : Mch) (x : Int) (dest : Int) (n : Int) (w : World) (h : MAt w p base v1 v2 v3 m) (ho : MOk 1800000000000 m) (hn : I64 dest) (HT : ∀ W, Below base w W → Tabs W) (E : (sendP dest n).run m = (m', x)) :
    Calls Tryz.prog 113 #[.pointer (some ⟨p, 0, none⟩), .int .i64 dest, .int .i64 n] w (MStep p base v1 v2 v3 m' (.int .i64 x) w) := by
  have H := Lib.hid h
  have HTT := Lib.hid HT
  have O0 := Lib.hid ho
  have HE := Lib.hid E
  clear h ho HT E
  obtain ⟨m1, x1, E1⟩ : ∃ aa bb, (stateP dest).run m = (aa, bb) := ⟨_, _, rfl⟩
  have bx1 := numP_bounds E1
  have O1 := Lib.hid ((stateP_cost _).okE O0.out E1)
  have HE1 := Lib.hid E1
  clear E1
  by_cases c1 : x1 = 1
  · subst c1
    by_cases c2 : inB n 1 31 = true
    · have C2 := Lib.hid c2
      clear c2
      have KW := Lib.hid (fun W => within_c n 1 31 W); rw [C2.out] at KW
      obtain ⟨m2, x2, E2⟩ : ∃ aa bb, (numP (sigK dest tT)).run m1 = (aa, bb) := ⟨_, _, rfl⟩
      have bx2 := numP_bounds E2
      have O2 := Lib.hid ((numP_cost _).okE O1.out E2)
      have HE2 := Lib.hid E2
      clear E2
      obtain ⟨m3, x3, E3⟩ : ∃ aa bb, (numP (sigK dest tH)).run m2 = (aa, bb) := ⟨_, _, rfl⟩
      have bx3 := numP_bounds E3
      have O3 := Lib.hid ((numP_cost _).okE O2.out E3)
      have HE3 := Lib.hid E3
      clear E3
      have hwx2x3 : IntKind.i64.wrap (x2 - x3) = x2 - x3 := by rw [IntKind.wrap_i64]; omega
      by_cases c3 : 4 ≤ x2 - x3
      · obtain ⟨e1, e2⟩ := Prod.mk.inj ((show (m3, 5) = (sendP dest n).run m from by
          unfold sendP
          simp only [Pg.run_bind, Pg.run_pure, Pg.run_ret, ↓reduceIte, Bool.false_eq_true, Bool.true_and, Bool.and_true, Bool.and_self, Bool.false_and, Bool.and_false, or_false, false_or, true_or, or_true, ne_eq, not_true_eq_false, not_false_eq_true, eq_self_iff_true, decide_true, decide_false, HE1.out, C2.out, HE2.out, HE3.out, c3]).trans HE.out)
        subst e1 e2
        have G0 := Lib.hid (show ∀ m' r e w', MStep p base v1 v2 v3 m' r w e w' → MStep p base v1 v2 v3 m' r w e w' from fun _ _ _ _ h => h)
        have M0 := Lib.hid H.out
        have B0 := Lib.hid (Below.refl base w)
        clear HE
        go_enter Tryz.func113, Tryz.ntmps113
        have K1 := Lib.hid (pState_c p base v1 v2 v3 m m1 (1) dest w M0.out (O0.out.mono (by omega)) hn (fun W hW => HTT.out W (B0.out.trans hW)) HE1.out)
        go_wp2_with (first | (go_at_call 152; refine (KW.out _).mono ?_; rintro e w' ⟨rfl, rfl⟩) | fail)
        refine K1.out.mono ?_
        rintro e w1 ⟨x11, x12, x13, rfl, hm, hg, q1, q2, q3⟩
        have G1 := Lib.hid (show ∀ m' r e w', MStep p base x11 x12 x13 m' r w1 e w' → MStep p base v1 v2 v3 m' r w e w' from fun _ _ _ _ h => G0.out _ _ _ _ (MStep.next hg q1 q2 q3 h))
        have B1 := Lib.hid (B0.out.trans (M0.out.grow hg))
        have M1 := Lib.hid hm
        clear hm hg q1 q2 q3 K1 G0 M0 B0
        go_wp2_with (first | (go_at_call 152; refine (KW.out _).mono ?_; rintro e w' ⟨rfl, rfl⟩) | fail)
        refine (signalKey_c dest tT w1 hn (by decide) (HTT.out _ B1.out)).mono ?_
        rintro e w2 ⟨rfl, hb⟩
        have G2 := Lib.hid (show ∀ m' r e w', MStep p base x11 x12 x13 m' r w2 e w' → MStep p base v1 v2 v3 m' r w e w' from fun _ _ _ _ h => G1.out _ _ _ _ (MStep.next (Grow3.of_below hb) (.inl rfl) (.inl rfl) (.inl rfl) h))
        have B2 := Lib.hid (B1.out.trans (hb.mono M1.out.hb))
        have M2 := Lib.hid (M1.out.below hb)
        clear hb G1 M1 B1
        have K3 := Lib.hid (pNum_c p base x11 x12 x13 m1 m2 x2 (sigK dest tT) w2 M2.out (O1.out.mono (by omega)) (fun W hW => HTT.out W (B2.out.trans hW)) HE2.out)
        go_wp2_with (first | (go_at_call 152; refine (KW.out _).mono ?_; rintro e w' ⟨rfl, rfl⟩) | fail)
        refine K3.out.mono ?_
        rintro e w3 ⟨x31, x32, x33, rfl, hm, hg, q1, q2, q3⟩
        have G3 := Lib.hid (show ∀ m' r e w', MStep p base x31 x32 x33 m' r w3 e w' → MStep p base v1 v2 v3 m' r w e w' from fun _ _ _ _ h => G2.out _ _ _ _ (MStep.next hg q1 q2 q3 h))
        have B3 := Lib.hid (B2.out.trans (M2.out.grow hg))
        have M3 := Lib.hid hm
        clear hm hg q1 q2 q3 K3 G2 M2 B2
        go_wp2_with (first | (go_at_call 152; refine (KW.out _).mono ?_; rintro e w' ⟨rfl, rfl⟩) | fail)
        refine (signalKey_c dest tH w3 hn (by decide) (HTT.out _ B3.out)).mono ?_
        rintro e w4 ⟨rfl, hb⟩
        have G4 := Lib.hid (show ∀ m' r e w', MStep p base x31 x32 x33 m' r w4 e w' → MStep p base v1 v2 v3 m' r w e w' from fun _ _ _ _ h => G3.out _ _ _ _ (MStep.next (Grow3.of_below hb) (.inl rfl) (.inl rfl) (.inl rfl) h))
        have B4 := Lib.hid (B3.out.trans (hb.mono M3.out.hb))
        have M4 := Lib.hid (M3.out.below hb)
        clear hb G3 M3 B3
        have K5 := Lib.hid (pNum_c p base x31 x32 x33 m2 m3 x3 (sigK dest tH) w4 M4.out (O2.out.mono (by omega)) (fun W hW => HTT.out W (B4.out.trans hW)) HE3.out)
        go_wp2_with (first | (go_at_call 152; refine (KW.out _).mono ?_; rintro e w' ⟨rfl, rfl⟩) | fail)
        refine K5.out.mono ?_
        rintro e w5 ⟨x51, x52, x53, rfl, hm, hg, q1, q2, q3⟩
        have G5 := Lib.hid (show ∀ m' r e w', MStep p base x51 x52 x53 m' r w5 e w' → MStep p base v1 v2 v3 m' r w e w' from fun _ _ _ _ h => G4.out _ _ _ _ (MStep.next hg q1 q2 q3 h))
        have B5 := Lib.hid (B4.out.trans (M4.out.grow hg))
        have M5 := Lib.hid hm
        clear hm hg q1 q2 q3 K5 G4 M4 B4
        have HEND := Lib.hid (show MStep p base v1 v2 v3 _ (.int .i64 5) w (.returned (.int .i64 5)) w5 from G5.out _ _ _ _ (M5.out.step (Below.refl _ _) _))
        clear G5 M5 B5
        go_wp2_with (first | (go_at_call 152; refine (KW.out _).mono ?_; rintro e w' ⟨rfl, rfl⟩) | fail)
        go_ret
        exact HEND.out
      · by_cases c4 : 999 ≤ x2
        · obtain ⟨e1, e2⟩ := Prod.mk.inj ((show (m3, 3) = (sendP dest n).run m from by
            unfold sendP
            simp only [Pg.run_bind, Pg.run_pure, Pg.run_ret, ↓reduceIte, Bool.false_eq_true, Bool.true_and, Bool.and_true, Bool.and_self, Bool.false_and, Bool.and_false, or_false, false_or, true_or, or_true, ne_eq, not_true_eq_false, not_false_eq_true, eq_self_iff_true, decide_true, decide_false, HE1.out, C2.out, HE2.out, HE3.out, c3, c4]).trans HE.out)
          subst e1 e2
          have G0 := Lib.hid (show ∀ m' r e w', MStep p base v1 v2 v3 m' r w e w' → MStep p base v1 v2 v3 m' r w e w' from fun _ _ _ _ h => h)
          have M0 := Lib.hid H.out
          have B0 := Lib.hid (Below.refl base w)
          clear HE
          go_enter Tryz.func113, Tryz.ntmps113
          have K1 := Lib.hid (pState_c p base v1 v2 v3 m m1 (1) dest w M0.out (O0.out.mono (by omega)) hn (fun W hW => HTT.out W (B0.out.trans hW)) HE1.out)
          go_wp2_with (first | (go_at_call 152; refine (KW.out _).mono ?_; rintro e w' ⟨rfl, rfl⟩) | fail)
          refine K1.out.mono ?_
          rintro e w1 ⟨x11, x12, x13, rfl, hm, hg, q1, q2, q3⟩
          have G1 := Lib.hid (show ∀ m' r e w', MStep p base x11 x12 x13 m' r w1 e w' → MStep p base v1 v2 v3 m' r w e w' from fun _ _ _ _ h => G0.out _ _ _ _ (MStep.next hg q1 q2 q3 h))
          have B1 := Lib.hid (B0.out.trans (M0.out.grow hg))
          have M1 := Lib.hid hm
          clear hm hg q1 q2 q3 K1 G0 M0 B0
          go_wp2_with (first | (go_at_call 152; refine (KW.out _).mono ?_; rintro e w' ⟨rfl, rfl⟩) | fail)
          refine (signalKey_c dest tT w1 hn (by decide) (HTT.out _ B1.out)).mono ?_
          rintro e w2 ⟨rfl, hb⟩
          have G2 := Lib.hid (show ∀ m' r e w', MStep p base x11 x12 x13 m' r w2 e w' → MStep p base v1 v2 v3 m' r w e w' from fun _ _ _ _ h => G1.out _ _ _ _ (MStep.next (Grow3.of_below hb) (.inl rfl) (.inl rfl) (.inl rfl) h))
          have B2 := Lib.hid (B1.out.trans (hb.mono M1.out.hb))
          have M2 := Lib.hid (M1.out.below hb)
          clear hb G1 M1 B1
          have K3 := Lib.hid (pNum_c p base x11 x12 x13 m1 m2 x2 (sigK dest tT) w2 M2.out (O1.out.mono (by omega)) (fun W hW => HTT.out W (B2.out.trans hW)) HE2.out)
          go_wp2_with (first | (go_at_call 152; refine (KW.out _).mono ?_; rintro e w' ⟨rfl, rfl⟩) | fail)
          refine K3.out.mono ?_
          rintro e w3 ⟨x31, x32, x33, rfl, hm, hg, q1, q2, q3⟩
          have G3 := Lib.hid (show ∀ m' r e w', MStep p base x31 x32 x33 m' r w3 e w' → MStep p base v1 v2 v3 m' r w e w' from fun _ _ _ _ h => G2.out _ _ _ _ (MStep.next hg q1 q2 q3 h))
          have B3 := Lib.hid (B2.out.trans (M2.out.grow hg))
          have M3 := Lib.hid hm
          clear hm hg q1 q2 q3 K3 G2 M2 B2
          go_wp2_with (first | (go_at_call 152; refine (KW.out _).mono ?_; rintro e w' ⟨rfl, rfl⟩) | fail)
          refine (signalKey_c dest tH w3 hn (by decide) (HTT.out _ B3.out)).mono ?_
          rintro e w4 ⟨rfl, hb⟩
          have G4 := Lib.hid (show ∀ m' r e w', MStep p base x31 x32 x33 m' r w4 e w' → MStep p base v1 v2 v3 m' r w e w' from fun _ _ _ _ h => G3.out _ _ _ _ (MStep.next (Grow3.of_below hb) (.inl rfl) (.inl rfl) (.inl rfl) h))
          have B4 := Lib.hid (B3.out.trans (hb.mono M3.out.hb))
          have M4 := Lib.hid (M3.out.below hb)
          clear hb G3 M3 B3
          have K5 := Lib.hid (pNum_c p base x31 x32 x33 m2 m3 x3 (sigK dest tH) w4 M4.out (O2.out.mono (by omega)) (fun W hW => HTT.out W (B4.out.trans hW)) HE3.out)
          go_wp2_with (first | (go_at_call 152; refine (KW.out _).mono ?_; rintro e w' ⟨rfl, rfl⟩) | fail)
          refine K5.out.mono ?_
          rintro e w5 ⟨x51, x52, x53, rfl, hm, hg, q1, q2, q3⟩
          have G5 := Lib.hid (show ∀ m' r e w', MStep p base x51 x52 x53 m' r w5 e w' → MStep p base v1 v2 v3 m' r w e w' from fun _ _ _ _ h => G4.out _ _ _ _ (MStep.next hg q1 q2 q3 h))
          have B5 := Lib.hid (B4.out.trans (M4.out.grow hg))
          have M5 := Lib.hid hm
          clear hm hg q1 q2 q3 K5 G4 M4 B4
          have HEND := Lib.hid (show MStep p base v1 v2 v3 _ (.int .i64 3) w (.returned (.int .i64 3)) w5 from G5.out _ _ _ _ (M5.out.step (Below.refl _ _) _))
          clear G5 M5 B5
          go_wp2_with (first | (go_at_call 152; refine (KW.out _).mono ?_; rintro e w' ⟨rfl, rfl⟩) | fail)
          go_ret
          exact HEND.out
        · have hwx2 : IntKind.i64.wrap (x2 + 1) = x2 + 1 := by rw [IntKind.wrap_i64]; omega
          obtain ⟨m4, u4, E4⟩ : ∃ aa bb, (setP (sigK dest tT) (x2 + 1)).run m3 = (aa, bb) := ⟨_, _, rfl⟩
          have O4 := Lib.hid ((setP_cost _ _).okE O3.out E4)
          have HE4 := Lib.hid E4
          clear E4
          obtain ⟨m5, u5, E5⟩ : ∃ aa bb, (setP (sigQ dest (x2 + 1)) (n)).run m4 = (aa, bb) := ⟨_, _, rfl⟩
          have O5 := Lib.hid ((setP_cost _ _).okE O4.out E5)
          have HE5 := Lib.hid E5
          clear E5
          obtain ⟨e1, e2⟩ := Prod.mk.inj ((show (m5, 0) = (sendP dest n).run m from by
            unfold sendP
            simp only [Pg.run_bind, Pg.run_pure, Pg.run_ret, ↓reduceIte, Bool.false_eq_true, Bool.true_and, Bool.and_true, Bool.and_self, Bool.false_and, Bool.and_false, or_false, false_or, true_or, or_true, ne_eq, not_true_eq_false, not_false_eq_true, eq_self_iff_true, decide_true, decide_false, HE1.out, C2.out, HE2.out, HE3.out, c3, c4, HE4.out, HE5.out]).trans HE.out)
          subst e1 e2
          have G0 := Lib.hid (show ∀ m' r e w', MStep p base v1 v2 v3 m' r w e w' → MStep p base v1 v2 v3 m' r w e w' from fun _ _ _ _ h => h)
          have M0 := Lib.hid H.out
          have B0 := Lib.hid (Below.refl base w)
          clear HE
          go_enter Tryz.func113, Tryz.ntmps113
          have K1 := Lib.hid (pState_c p base v1 v2 v3 m m1 (1) dest w M0.out (O0.out.mono (by omega)) hn (fun W hW => HTT.out W (B0.out.trans hW)) HE1.out)
          go_wp2_with (first | (go_at_call 152; refine (KW.out _).mono ?_; rintro e w' ⟨rfl, rfl⟩) | fail)
          refine K1.out.mono ?_
          rintro e w1 ⟨x11, x12, x13, rfl, hm, hg, q1, q2, q3⟩
          have G1 := Lib.hid (show ∀ m' r e w', MStep p base x11 x12 x13 m' r w1 e w' → MStep p base v1 v2 v3 m' r w e w' from fun _ _ _ _ h => G0.out _ _ _ _ (MStep.next hg q1 q2 q3 h))
          have B1 := Lib.hid (B0.out.trans (M0.out.grow hg))
          have M1 := Lib.hid hm
          clear hm hg q1 q2 q3 K1 G0 M0 B0
          go_wp2_with (first | (go_at_call 152; refine (KW.out _).mono ?_; rintro e w' ⟨rfl, rfl⟩) | fail)
          refine (signalKey_c dest tT w1 hn (by decide) (HTT.out _ B1.out)).mono ?_
          rintro e w2 ⟨rfl, hb⟩
          have G2 := Lib.hid (show ∀ m' r e w', MStep p base x11 x12 x13 m' r w2 e w' → MStep p base v1 v2 v3 m' r w e w' from fun _ _ _ _ h => G1.out _ _ _ _ (MStep.next (Grow3.of_below hb) (.inl rfl) (.inl rfl) (.inl rfl) h))
          have B2 := Lib.hid (B1.out.trans (hb.mono M1.out.hb))
          have M2 := Lib.hid (M1.out.below hb)
          clear hb G1 M1 B1
          have K3 := Lib.hid (pNum_c p base x11 x12 x13 m1 m2 x2 (sigK dest tT) w2 M2.out (O1.out.mono (by omega)) (fun W hW => HTT.out W (B2.out.trans hW)) HE2.out)
          go_wp2_with (first | (go_at_call 152; refine (KW.out _).mono ?_; rintro e w' ⟨rfl, rfl⟩) | fail)
          refine K3.out.mono ?_
          rintro e w3 ⟨x31, x32, x33, rfl, hm, hg, q1, q2, q3⟩
          have G3 := Lib.hid (show ∀ m' r e w', MStep p base x31 x32 x33 m' r w3 e w' → MStep p base v1 v2 v3 m' r w e w' from fun _ _ _ _ h => G2.out _ _ _ _ (MStep.next hg q1 q2 q3 h))
          have B3 := Lib.hid (B2.out.trans (M2.out.grow hg))
          have M3 := Lib.hid hm
          clear hm hg q1 q2 q3 K3 G2 M2 B2
          go_wp2_with (first | (go_at_call 152; refine (KW.out _).mono ?_; rintro e w' ⟨rfl, rfl⟩) | fail)
          refine (signalKey_c dest tH w3 hn (by decide) (HTT.out _ B3.out)).mono ?_
          rintro e w4 ⟨rfl, hb⟩
          have G4 := Lib.hid (show ∀ m' r e w', MStep p base x31 x32 x33 m' r w4 e w' → MStep p base v1 v2 v3 m' r w e w' from fun _ _ _ _ h => G3.out _ _ _ _ (MStep.next (Grow3.of_below hb) (.inl rfl) (.inl rfl) (.inl rfl) h))
          have B4 := Lib.hid (B3.out.trans (hb.mono M3.out.hb))
          have M4 := Lib.hid (M3.out.below hb)
          clear hb G3 M3 B3
          have K5 := Lib.hid (pNum_c p base x31 x32 x33 m2 m3 x3 (sigK dest tH) w4 M4.out (O2.out.mono (by omega)) (fun W hW => HTT.out W (B4.out.trans hW)) HE3.out)
          go_wp2_with (first | (go_at_call 152; refine (KW.out _).mono ?_; rintro e w' ⟨rfl, rfl⟩) | fail)
          refine K5.out.mono ?_
          rintro e w5 ⟨x51, x52, x53, rfl, hm, hg, q1, q2, q3⟩
          have G5 := Lib.hid (show ∀ m' r e w', MStep p base x51 x52 x53 m' r w5 e w' → MStep p base v1 v2 v3 m' r w e w' from fun _ _ _ _ h => G4.out _ _ _ _ (MStep.next hg q1 q2 q3 h))
          have B5 := Lib.hid (B4.out.trans (M4.out.grow hg))
          have M5 := Lib.hid hm
          clear hm hg q1 q2 q3 K5 G4 M4 B4
          go_wp2_with (first | (go_at_call 152; refine (KW.out _).mono ?_; rintro e w' ⟨rfl, rfl⟩) | fail)
          refine (signalKey_c dest tT w5 hn (by decide) (HTT.out _ B5.out)).mono ?_
          rintro e w6 ⟨rfl, hb⟩
          have G6 := Lib.hid (show ∀ m' r e w', MStep p base x51 x52 x53 m' r w6 e w' → MStep p base v1 v2 v3 m' r w e w' from fun _ _ _ _ h => G5.out _ _ _ _ (MStep.next (Grow3.of_below hb) (.inl rfl) (.inl rfl) (.inl rfl) h))
          have B6 := Lib.hid (B5.out.trans (hb.mono M5.out.hb))
          have M6 := Lib.hid (M5.out.below hb)
          clear hb G5 M5 B5
          have K7 := Lib.hid (pSet_c p base x51 x52 x53 m3 m4 u4 (sigK dest tT) (x2 + 1) w6 M6.out (O3.out.mono (by omega)) (kle (sigK_size hn (by decide))) (fun W hW => HTT.out W (B6.out.trans hW)) HE4.out)
          go_wp2_with (first | (go_at_call 152; refine (KW.out _).mono ?_; rintro e w' ⟨rfl, rfl⟩) | fail)
          refine K7.out.mono ?_
          rintro e w7 ⟨x71, x72, x73, rfl, hm, hg, q1, q2, q3⟩
          have G7 := Lib.hid (show ∀ m' r e w', MStep p base x71 x72 x73 m' r w7 e w' → MStep p base v1 v2 v3 m' r w e w' from fun _ _ _ _ h => G6.out _ _ _ _ (MStep.next hg q1 q2 q3 h))
          have B7 := Lib.hid (B6.out.trans (M6.out.grow hg))
          have M7 := Lib.hid hm
          clear hm hg q1 q2 q3 K7 G6 M6 B6
          go_wp2_with (first | (go_at_call 152; refine (KW.out _).mono ?_; rintro e w' ⟨rfl, rfl⟩) | fail)
          refine (signalKey_c dest ⟨#[47, 113, 47]⟩ w7 hn (by decide) (HTT.out _ B7.out)).mono ?_
          rintro e w8 ⟨rfl, hb⟩
          have G8 := Lib.hid (show ∀ m' r e w', MStep p base x71 x72 x73 m' r w8 e w' → MStep p base v1 v2 v3 m' r w e w' from fun _ _ _ _ h => G7.out _ _ _ _ (MStep.next (Grow3.of_below hb) (.inl rfl) (.inl rfl) (.inl rfl) h))
          have B8 := Lib.hid (B7.out.trans (hb.mono M7.out.hb))
          have M8 := Lib.hid (M7.out.below hb)
          clear hb G7 M7 B7
          go_wp2_with (first | (go_at_call 152; refine (KW.out _).mono ?_; rintro e w' ⟨rfl, rfl⟩) | fail)
          refine (implKeyNum2_c (sigK dest ⟨#[47, 113, 47]⟩) (x2 + 1) ⟨#[]⟩ w8 (i64_succ bx2) (Nat.le_trans (sigK_size hn (by decide)) (by decide)) (by decide) (HTT.out _ B8.out)).mono ?_
          rintro e w9 ⟨rfl, hb⟩
          have G9 := Lib.hid (show ∀ m' r e w', MStep p base x71 x72 x73 m' r w9 e w' → MStep p base v1 v2 v3 m' r w e w' from fun _ _ _ _ h => G8.out _ _ _ _ (MStep.next (Grow3.of_below hb) (.inl rfl) (.inl rfl) (.inl rfl) h))
          have B9 := Lib.hid (B8.out.trans (hb.mono M8.out.hb))
          have M9 := Lib.hid (M8.out.below hb)
          clear hb G8 M8 B8
          have K10 := Lib.hid (pSet_c p base x71 x72 x73 m4 m5 u5 (sigQ dest (x2 + 1)) (n) w9 M9.out (O4.out.mono (by omega)) (kle (sigQ_size hn (i64_succ bx2))) (fun W hW => HTT.out W (B9.out.trans hW)) HE5.out)
          go_wp2_with (first | (go_at_call 152; refine (KW.out _).mono ?_; rintro e w' ⟨rfl, rfl⟩) | fail)
          refine K10.out.mono ?_
          rintro e w10 ⟨x101, x102, x103, rfl, hm, hg, q1, q2, q3⟩
          have G10 := Lib.hid (show ∀ m' r e w', MStep p base x101 x102 x103 m' r w10 e w' → MStep p base v1 v2 v3 m' r w e w' from fun _ _ _ _ h => G9.out _ _ _ _ (MStep.next hg q1 q2 q3 h))
          have B10 := Lib.hid (B9.out.trans (M9.out.grow hg))
          have M10 := Lib.hid hm
          clear hm hg q1 q2 q3 K10 G9 M9 B9
          have HEND := Lib.hid (show MStep p base v1 v2 v3 _ (.int .i64 0) w (.returned (.int .i64 0)) w10 from G10.out _ _ _ _ (M10.out.step (Below.refl _ _) _))
          clear G10 M10 B10
          go_wp2_with (first | (go_at_call 152; refine (KW.out _).mono ?_; rintro e w' ⟨rfl, rfl⟩) | fail)
          go_ret
          exact HEND.out
    · have C2 := Lib.hid (Bool.eq_false_iff.2 c2)
      clear c2
      have KW := Lib.hid (fun W => within_c n 1 31 W); rw [C2.out] at KW
      obtain ⟨e1, e2⟩ := Prod.mk.inj ((show (m1, 4) = (sendP dest n).run m from by
        unfold sendP
        simp only [Pg.run_bind, Pg.run_pure, Pg.run_ret, ↓reduceIte, Bool.false_eq_true, Bool.true_and, Bool.and_true, Bool.and_self, Bool.false_and, Bool.and_false, or_false, false_or, true_or, or_true, ne_eq, not_true_eq_false, not_false_eq_true, eq_self_iff_true, decide_true, decide_false, HE1.out, C2.out]).trans HE.out)
      subst e1 e2
      have G0 := Lib.hid (show ∀ m' r e w', MStep p base v1 v2 v3 m' r w e w' → MStep p base v1 v2 v3 m' r w e w' from fun _ _ _ _ h => h)
      have M0 := Lib.hid H.out
      have B0 := Lib.hid (Below.refl base w)
      clear HE
      go_enter Tryz.func113, Tryz.ntmps113
      have K1 := Lib.hid (pState_c p base v1 v2 v3 m m1 (1) dest w M0.out (O0.out.mono (by omega)) hn (fun W hW => HTT.out W (B0.out.trans hW)) HE1.out)
      go_wp2_with (first | (go_at_call 152; refine (KW.out _).mono ?_; rintro e w' ⟨rfl, rfl⟩) | fail)
      refine K1.out.mono ?_
      rintro e w1 ⟨x11, x12, x13, rfl, hm, hg, q1, q2, q3⟩
      have G1 := Lib.hid (show ∀ m' r e w', MStep p base x11 x12 x13 m' r w1 e w' → MStep p base v1 v2 v3 m' r w e w' from fun _ _ _ _ h => G0.out _ _ _ _ (MStep.next hg q1 q2 q3 h))
      have B1 := Lib.hid (B0.out.trans (M0.out.grow hg))
      have M1 := Lib.hid hm
      clear hm hg q1 q2 q3 K1 G0 M0 B0
      have HEND := Lib.hid (show MStep p base v1 v2 v3 _ (.int .i64 4) w (.returned (.int .i64 4)) w1 from G1.out _ _ _ _ (M1.out.step (Below.refl _ _) _))
      clear G1 M1 B1
      go_wp2_with (first | (go_at_call 152; refine (KW.out _).mono ?_; rintro e w' ⟨rfl, rfl⟩) | fail)
      go_ret
      exact HEND.out
  · obtain ⟨e1, e2⟩ := Prod.mk.inj ((show (m1, 2) = (sendP dest n).run m from by
      unfold sendP
      simp only [Pg.run_bind, Pg.run_pure, Pg.run_ret, ↓reduceIte, Bool.false_eq_true, Bool.true_and, Bool.and_true, Bool.and_self, Bool.false_and, Bool.and_false, or_false, false_or, true_or, or_true, ne_eq, not_true_eq_false, not_false_eq_true, eq_self_iff_true, decide_true, decide_false, HE1.out, c1]).trans HE.out)
    subst e1 e2
    have G0 := Lib.hid (show ∀ m' r e w', MStep p base v1 v2 v3 m' r w e w' → MStep p base v1 v2 v3 m' r w e w' from fun _ _ _ _ h => h)
    have M0 := Lib.hid H.out
    have B0 := Lib.hid (Below.refl base w)
    clear HE
    go_enter Tryz.func113, Tryz.ntmps113
    have K1 := Lib.hid (pState_c p base v1 v2 v3 m m1 x1 dest w M0.out (O0.out.mono (by omega)) hn (fun W hW => HTT.out W (B0.out.trans hW)) HE1.out)
    go_wp2_with (first | (go_at_call 152; refine (KW.out _).mono ?_; rintro e w' ⟨rfl, rfl⟩) | fail)
    refine K1.out.mono ?_
    rintro e w1 ⟨x11, x12, x13, rfl, hm, hg, q1, q2, q3⟩
    have G1 := Lib.hid (show ∀ m' r e w', MStep p base x11 x12 x13 m' r w1 e w' → MStep p base v1 v2 v3 m' r w e w' from fun _ _ _ _ h => G0.out _ _ _ _ (MStep.next hg q1 q2 q3 h))
    have B1 := Lib.hid (B0.out.trans (M0.out.grow hg))
    have M1 := Lib.hid hm
    clear hm hg q1 q2 q3 K1 G0 M0 B0
    have HEND := Lib.hid (show MStep p base v1 v2 v3 _ (.int .i64 2) w (.returned (.int .i64 2)) w1 from G1.out _ _ _ _ (M1.out.step (Below.refl _ _) _))
    clear G1 M1 B1
    go_wp2_with (first | (go_at_call 152; refine (KW.out _).mono ?_; rintro e w' ⟨rfl, rfl⟩) | fail)
    go_ret
    exact HEND.out

set_option maxRecDepth 100000 in
set_option maxHeartbeats 8000000 in
theorem pTakeSig_c (p base : Nat) (v1 v2 v3 : Value) (m m' : Mch) (x y : Int) (id : Int) (w : World) (h : MAt w p base v1 v2 v3 m) (ho : MOk 1700000000000 m) (hn : I64 id) (HT : ∀ W, Below base w W → Tabs W) (E : (takeSigP id).run m = (m', (x, y))) :
    Calls Tryz.prog 114 #[.pointer (some ⟨p, 0, none⟩), .int .i64 id] w (MStep p base v1 v2 v3 m' (.tuple #[.int .i64 x, .int .i64 y]) w) := by
  have H := Lib.hid h
  have HTT := Lib.hid HT
  have O0 := Lib.hid ho
  have HE := Lib.hid E
  clear h ho HT E
  obtain ⟨m1, x2, E1⟩ : ∃ aa bb, (numP (sigK id tH)).run m = (aa, bb) := ⟨_, _, rfl⟩
  have bx2 := numP_bounds E1
  have O1 := Lib.hid ((numP_cost _).okE O0.out E1)
  have HE1 := Lib.hid E1
  clear E1
  obtain ⟨m2, x3, E2⟩ : ∃ aa bb, (numP (sigK id tT)).run m1 = (aa, bb) := ⟨_, _, rfl⟩
  have bx3 := numP_bounds E2
  have O2 := Lib.hid ((numP_cost _).okE O1.out E2)
  have HE2 := Lib.hid E2
  clear E2
  by_cases c1 : x3 = x2
  · subst c1
    obtain ⟨e1, e2⟩ := Prod.mk.inj ((show (m2, (0, 5)) = (takeSigP id).run m from by
      unfold takeSigP
      simp only [Pg.run_bind, Pg.run_pure, Pg.run_ret, ↓reduceIte, Bool.false_eq_true, Bool.true_and, Bool.and_true, Bool.and_self, Bool.false_and, Bool.and_false, or_false, false_or, true_or, or_true, ne_eq, not_true_eq_false, not_false_eq_true, eq_self_iff_true, decide_true, decide_false, HE1.out, HE2.out]).trans HE.out)
    obtain ⟨e2, e3⟩ := Prod.mk.inj e2
    subst e1 e2 e3
    have G0 := Lib.hid (show ∀ m' r e w', MStep p base v1 v2 v3 m' r w e w' → MStep p base v1 v2 v3 m' r w e w' from fun _ _ _ _ h => h)
    have M0 := Lib.hid H.out
    have B0 := Lib.hid (Below.refl base w)
    clear HE
    go_enter Tryz.func114, Tryz.ntmps114
    go_wp2_with fail
    refine (signalKey_c id tH w hn (by decide) (HTT.out _ B0.out)).mono ?_
    rintro e w1 ⟨rfl, hb⟩
    have G1 := Lib.hid (show ∀ m' r e w', MStep p base v1 v2 v3 m' r w1 e w' → MStep p base v1 v2 v3 m' r w e w' from fun _ _ _ _ h => G0.out _ _ _ _ (MStep.next (Grow3.of_below hb) (.inl rfl) (.inl rfl) (.inl rfl) h))
    have B1 := Lib.hid (B0.out.trans (hb.mono M0.out.hb))
    have M1 := Lib.hid (M0.out.below hb)
    clear hb G0 M0 B0
    have K2 := Lib.hid (pNum_c p base v1 v2 v3 m m1 x3 (sigK id tH) w1 M1.out (O0.out.mono (by omega)) (fun W hW => HTT.out W (B1.out.trans hW)) HE1.out)
    go_wp2_with fail
    refine K2.out.mono ?_
    rintro e w2 ⟨x21, x22, x23, rfl, hm, hg, q1, q2, q3⟩
    have G2 := Lib.hid (show ∀ m' r e w', MStep p base x21 x22 x23 m' r w2 e w' → MStep p base v1 v2 v3 m' r w e w' from fun _ _ _ _ h => G1.out _ _ _ _ (MStep.next hg q1 q2 q3 h))
    have B2 := Lib.hid (B1.out.trans (M1.out.grow hg))
    have M2 := Lib.hid hm
    clear hm hg q1 q2 q3 K2 G1 M1 B1
    go_wp2_with fail
    refine (signalKey_c id tT w2 hn (by decide) (HTT.out _ B2.out)).mono ?_
    rintro e w3 ⟨rfl, hb⟩
    have G3 := Lib.hid (show ∀ m' r e w', MStep p base x21 x22 x23 m' r w3 e w' → MStep p base v1 v2 v3 m' r w e w' from fun _ _ _ _ h => G2.out _ _ _ _ (MStep.next (Grow3.of_below hb) (.inl rfl) (.inl rfl) (.inl rfl) h))
    have B3 := Lib.hid (B2.out.trans (hb.mono M2.out.hb))
    have M3 := Lib.hid (M2.out.below hb)
    clear hb G2 M2 B2
    have K4 := Lib.hid (pNum_c p base x21 x22 x23 m1 m2 x3 (sigK id tT) w3 M3.out (O1.out.mono (by omega)) (fun W hW => HTT.out W (B3.out.trans hW)) HE2.out)
    go_wp2_with fail
    refine K4.out.mono ?_
    rintro e w4 ⟨x41, x42, x43, rfl, hm, hg, q1, q2, q3⟩
    have G4 := Lib.hid (show ∀ m' r e w', MStep p base x41 x42 x43 m' r w4 e w' → MStep p base v1 v2 v3 m' r w e w' from fun _ _ _ _ h => G3.out _ _ _ _ (MStep.next hg q1 q2 q3 h))
    have B4 := Lib.hid (B3.out.trans (M3.out.grow hg))
    have M4 := Lib.hid hm
    clear hm hg q1 q2 q3 K4 G3 M3 B3
    have HEND := Lib.hid (show MStep p base v1 v2 v3 _ (.tuple #[.int .i64 0, .int .i64 5]) w (.returned (.tuple #[.int .i64 0, .int .i64 5])) w4 from G4.out _ _ _ _ (M4.out.step (Below.refl _ _) _))
    clear G4 M4 B4
    go_wp2
    go_ret2
    exact HEND.out
  · have hwx2 : IntKind.i64.wrap (x2 + 1) = x2 + 1 := by rw [IntKind.wrap_i64]; omega
    obtain ⟨m3, x4, E3⟩ : ∃ aa bb, (numP (sigQ id (x2 + 1))).run m2 = (aa, bb) := ⟨_, _, rfl⟩
    have bx4 := numP_bounds E3
    have O3 := Lib.hid ((numP_cost _).okE O2.out E3)
    have HE3 := Lib.hid E3
    clear E3
    obtain ⟨m4, u4, E4⟩ : ∃ aa bb, (layP (sigQ id (x2 + 1)) (noB)).run m3 = (aa, bb) := ⟨_, _, rfl⟩
    have O4 := Lib.hid ((layP_cost _ _).okE O3.out E4)
    have HE4 := Lib.hid E4
    clear E4
    obtain ⟨m5, u5, E5⟩ : ∃ aa bb, (setP (sigK id tH) (x2 + 1)).run m4 = (aa, bb) := ⟨_, _, rfl⟩
    have O5 := Lib.hid ((setP_cost _ _).okE O4.out E5)
    have HE5 := Lib.hid E5
    clear E5
    obtain ⟨e1, e2⟩ := Prod.mk.inj ((show (m5, (x4, 0)) = (takeSigP id).run m from by
      unfold takeSigP
      simp only [Pg.run_bind, Pg.run_pure, Pg.run_ret, ↓reduceIte, Bool.false_eq_true, Bool.true_and, Bool.and_true, Bool.and_self, Bool.false_and, Bool.and_false, or_false, false_or, true_or, or_true, ne_eq, not_true_eq_false, not_false_eq_true, eq_self_iff_true, decide_true, decide_false, HE1.out, HE2.out, c1, HE3.out, HE4.out, HE5.out]).trans HE.out)
    obtain ⟨e2, e3⟩ := Prod.mk.inj e2
    subst e1 e2 e3
    have G0 := Lib.hid (show ∀ m' r e w', MStep p base v1 v2 v3 m' r w e w' → MStep p base v1 v2 v3 m' r w e w' from fun _ _ _ _ h => h)
    have M0 := Lib.hid H.out
    have B0 := Lib.hid (Below.refl base w)
    clear HE
    go_enter Tryz.func114, Tryz.ntmps114
    go_wp2_with fail
    refine (signalKey_c id tH w hn (by decide) (HTT.out _ B0.out)).mono ?_
    rintro e w1 ⟨rfl, hb⟩
    have G1 := Lib.hid (show ∀ m' r e w', MStep p base v1 v2 v3 m' r w1 e w' → MStep p base v1 v2 v3 m' r w e w' from fun _ _ _ _ h => G0.out _ _ _ _ (MStep.next (Grow3.of_below hb) (.inl rfl) (.inl rfl) (.inl rfl) h))
    have B1 := Lib.hid (B0.out.trans (hb.mono M0.out.hb))
    have M1 := Lib.hid (M0.out.below hb)
    clear hb G0 M0 B0
    have K2 := Lib.hid (pNum_c p base v1 v2 v3 m m1 x2 (sigK id tH) w1 M1.out (O0.out.mono (by omega)) (fun W hW => HTT.out W (B1.out.trans hW)) HE1.out)
    go_wp2_with fail
    refine K2.out.mono ?_
    rintro e w2 ⟨x21, x22, x23, rfl, hm, hg, q1, q2, q3⟩
    have G2 := Lib.hid (show ∀ m' r e w', MStep p base x21 x22 x23 m' r w2 e w' → MStep p base v1 v2 v3 m' r w e w' from fun _ _ _ _ h => G1.out _ _ _ _ (MStep.next hg q1 q2 q3 h))
    have B2 := Lib.hid (B1.out.trans (M1.out.grow hg))
    have M2 := Lib.hid hm
    clear hm hg q1 q2 q3 K2 G1 M1 B1
    go_wp2_with fail
    refine (signalKey_c id tT w2 hn (by decide) (HTT.out _ B2.out)).mono ?_
    rintro e w3 ⟨rfl, hb⟩
    have G3 := Lib.hid (show ∀ m' r e w', MStep p base x21 x22 x23 m' r w3 e w' → MStep p base v1 v2 v3 m' r w e w' from fun _ _ _ _ h => G2.out _ _ _ _ (MStep.next (Grow3.of_below hb) (.inl rfl) (.inl rfl) (.inl rfl) h))
    have B3 := Lib.hid (B2.out.trans (hb.mono M2.out.hb))
    have M3 := Lib.hid (M2.out.below hb)
    clear hb G2 M2 B2
    have K4 := Lib.hid (pNum_c p base x21 x22 x23 m1 m2 x3 (sigK id tT) w3 M3.out (O1.out.mono (by omega)) (fun W hW => HTT.out W (B3.out.trans hW)) HE2.out)
    go_wp2_with fail
    refine K4.out.mono ?_
    rintro e w4 ⟨x41, x42, x43, rfl, hm, hg, q1, q2, q3⟩
    have G4 := Lib.hid (show ∀ m' r e w', MStep p base x41 x42 x43 m' r w4 e w' → MStep p base v1 v2 v3 m' r w e w' from fun _ _ _ _ h => G3.out _ _ _ _ (MStep.next hg q1 q2 q3 h))
    have B4 := Lib.hid (B3.out.trans (M3.out.grow hg))
    have M4 := Lib.hid hm
    clear hm hg q1 q2 q3 K4 G3 M3 B3
    go_wp2_with fail
    refine (signalKey_c id ⟨#[47, 113, 47]⟩ w4 hn (by decide) (HTT.out _ B4.out)).mono ?_
    rintro e w5 ⟨rfl, hb⟩
    have G5 := Lib.hid (show ∀ m' r e w', MStep p base x41 x42 x43 m' r w5 e w' → MStep p base v1 v2 v3 m' r w e w' from fun _ _ _ _ h => G4.out _ _ _ _ (MStep.next (Grow3.of_below hb) (.inl rfl) (.inl rfl) (.inl rfl) h))
    have B5 := Lib.hid (B4.out.trans (hb.mono M4.out.hb))
    have M5 := Lib.hid (M4.out.below hb)
    clear hb G4 M4 B4
    go_wp2_with fail
    refine (implKeyNum2_c (sigK id ⟨#[47, 113, 47]⟩) (x2 + 1) ⟨#[]⟩ w5 (i64_succ bx2) (Nat.le_trans (sigK_size hn (by decide)) (by decide)) (by decide) (HTT.out _ B5.out)).mono ?_
    rintro e w6 ⟨rfl, hb⟩
    have G6 := Lib.hid (show ∀ m' r e w', MStep p base x41 x42 x43 m' r w6 e w' → MStep p base v1 v2 v3 m' r w e w' from fun _ _ _ _ h => G5.out _ _ _ _ (MStep.next (Grow3.of_below hb) (.inl rfl) (.inl rfl) (.inl rfl) h))
    have B6 := Lib.hid (B5.out.trans (hb.mono M5.out.hb))
    have M6 := Lib.hid (M5.out.below hb)
    clear hb G5 M5 B5
    have K7 := Lib.hid (pNum_c p base x41 x42 x43 m2 m3 x4 (sigQ id (x2 + 1)) w6 M6.out (O2.out.mono (by omega)) (fun W hW => HTT.out W (B6.out.trans hW)) HE3.out)
    go_wp2_with fail
    refine K7.out.mono ?_
    rintro e w7 ⟨x71, x72, x73, rfl, hm, hg, q1, q2, q3⟩
    have G7 := Lib.hid (show ∀ m' r e w', MStep p base x71 x72 x73 m' r w7 e w' → MStep p base v1 v2 v3 m' r w e w' from fun _ _ _ _ h => G6.out _ _ _ _ (MStep.next hg q1 q2 q3 h))
    have B7 := Lib.hid (B6.out.trans (M6.out.grow hg))
    have M7 := Lib.hid hm
    clear hm hg q1 q2 q3 K7 G6 M6 B6
    have K8 := Lib.hid (pLay_c p base x71 x72 x73 m3 m4 u4 (sigQ id (x2 + 1)) (noB) w7 M7.out (O3.out.mono (by omega)) (kle (sigQ_size hn (i64_succ bx2))) (by decide) HE4.out)
    go_wp2_with fail
    refine K8.out.mono ?_
    rintro e w8 ⟨x81, x82, x83, rfl, hm, hg, q1, q2, q3⟩
    have G8 := Lib.hid (show ∀ m' r e w', MStep p base x81 x82 x83 m' r w8 e w' → MStep p base v1 v2 v3 m' r w e w' from fun _ _ _ _ h => G7.out _ _ _ _ (MStep.next hg q1 q2 q3 h))
    have B8 := Lib.hid (B7.out.trans (M7.out.grow hg))
    have M8 := Lib.hid hm
    clear hm hg q1 q2 q3 K8 G7 M7 B7
    go_wp2_with fail
    refine (signalKey_c id tH w8 hn (by decide) (HTT.out _ B8.out)).mono ?_
    rintro e w9 ⟨rfl, hb⟩
    have G9 := Lib.hid (show ∀ m' r e w', MStep p base x81 x82 x83 m' r w9 e w' → MStep p base v1 v2 v3 m' r w e w' from fun _ _ _ _ h => G8.out _ _ _ _ (MStep.next (Grow3.of_below hb) (.inl rfl) (.inl rfl) (.inl rfl) h))
    have B9 := Lib.hid (B8.out.trans (hb.mono M8.out.hb))
    have M9 := Lib.hid (M8.out.below hb)
    clear hb G8 M8 B8
    have K10 := Lib.hid (pSet_c p base x81 x82 x83 m4 m5 u5 (sigK id tH) (x2 + 1) w9 M9.out (O4.out.mono (by omega)) (kle (sigK_size hn (by decide))) (fun W hW => HTT.out W (B9.out.trans hW)) HE5.out)
    go_wp2_with fail
    refine K10.out.mono ?_
    rintro e w10 ⟨x101, x102, x103, rfl, hm, hg, q1, q2, q3⟩
    have G10 := Lib.hid (show ∀ m' r e w', MStep p base x101 x102 x103 m' r w10 e w' → MStep p base v1 v2 v3 m' r w e w' from fun _ _ _ _ h => G9.out _ _ _ _ (MStep.next hg q1 q2 q3 h))
    have B10 := Lib.hid (B9.out.trans (M9.out.grow hg))
    have M10 := Lib.hid hm
    clear hm hg q1 q2 q3 K10 G9 M9 B9
    have HEND := Lib.hid (show MStep p base v1 v2 v3 _ (.tuple #[.int .i64 x4, .int .i64 0]) w (.returned (.tuple #[.int .i64 x4, .int .i64 0])) w10 from G10.out _ _ _ _ (M10.out.step (Below.refl _ _) _))
    clear G10 M10 B10
    go_wp2
    go_ret2
    exact HEND.out

set_option maxRecDepth 100000 in
set_option maxHeartbeats 8000000 in
theorem pTimer_c (p base : Nat) (v1 v2 v3 : Value) (m m' : Mch) (x : Int) (id : Int) (at_ : Int) (w : World) (h : MAt w p base v1 v2 v3 m) (ho : MOk 1700000000000 m) (hn : I64 id) (HT : ∀ W, Below base w W → Tabs W) (E : (timerP id at_).run m = (m', x)) :
    Calls Tryz.prog 115 #[.pointer (some ⟨p, 0, none⟩), .int .i64 id, .int .i64 at_] w (MStep p base v1 v2 v3 m' (.int .i64 x) w) := by
  have H := Lib.hid h
  have HTT := Lib.hid HT
  have O0 := Lib.hid ho
  have HE := Lib.hid E
  clear h ho HT E
  by_cases c1 : inB at_ 0 999 = true
  · have C1 := Lib.hid c1
    clear c1
    have KW := Lib.hid (fun W => within_c at_ 0 999 W); rw [C1.out] at KW
    obtain ⟨m1, u1, E1⟩ : ∃ aa bb, (setP (timerK id) (at_)).run m = (aa, bb) := ⟨_, _, rfl⟩
    have O1 := Lib.hid ((setP_cost _ _).okE O0.out E1)
    have HE1 := Lib.hid E1
    clear E1
    obtain ⟨e1, e2⟩ := Prod.mk.inj ((show (m1, 0) = (timerP id at_).run m from by
      unfold timerP
      simp only [Pg.run_bind, Pg.run_pure, Pg.run_ret, ↓reduceIte, Bool.false_eq_true, Bool.true_and, Bool.and_true, Bool.and_self, Bool.false_and, Bool.and_false, or_false, false_or, true_or, or_true, ne_eq, not_true_eq_false, not_false_eq_true, eq_self_iff_true, decide_true, decide_false, C1.out, HE1.out]).trans HE.out)
    subst e1 e2
    have G0 := Lib.hid (show ∀ m' r e w', MStep p base v1 v2 v3 m' r w e w' → MStep p base v1 v2 v3 m' r w e w' from fun _ _ _ _ h => h)
    have M0 := Lib.hid H.out
    have B0 := Lib.hid (Below.refl base w)
    clear HE
    go_enter Tryz.func115, Tryz.ntmps115
    go_wp2_with (first | (go_at_call 152; refine (KW.out _).mono ?_; rintro e w' ⟨rfl, rfl⟩) | fail)
    refine (implKeyNum2_c ⟨#[116, 47]⟩ id ⟨#[]⟩ w hn (by decide) (by decide) (HTT.out _ B0.out)).mono ?_
    rintro e w1 ⟨rfl, hb⟩
    have G1 := Lib.hid (show ∀ m' r e w', MStep p base v1 v2 v3 m' r w1 e w' → MStep p base v1 v2 v3 m' r w e w' from fun _ _ _ _ h => G0.out _ _ _ _ (MStep.next (Grow3.of_below hb) (.inl rfl) (.inl rfl) (.inl rfl) h))
    have B1 := Lib.hid (B0.out.trans (hb.mono M0.out.hb))
    have M1 := Lib.hid (M0.out.below hb)
    clear hb G0 M0 B0
    have K2 := Lib.hid (pSet_c p base v1 v2 v3 m m1 u1 (timerK id) (at_) w1 M1.out (O0.out.mono (by omega)) (kle (timerK_size hn)) (fun W hW => HTT.out W (B1.out.trans hW)) HE1.out)
    go_wp2_with (first | (go_at_call 152; refine (KW.out _).mono ?_; rintro e w' ⟨rfl, rfl⟩) | fail)
    refine K2.out.mono ?_
    rintro e w2 ⟨x21, x22, x23, rfl, hm, hg, q1, q2, q3⟩
    have G2 := Lib.hid (show ∀ m' r e w', MStep p base x21 x22 x23 m' r w2 e w' → MStep p base v1 v2 v3 m' r w e w' from fun _ _ _ _ h => G1.out _ _ _ _ (MStep.next hg q1 q2 q3 h))
    have B2 := Lib.hid (B1.out.trans (M1.out.grow hg))
    have M2 := Lib.hid hm
    clear hm hg q1 q2 q3 K2 G1 M1 B1
    have HEND := Lib.hid (show MStep p base v1 v2 v3 _ (.int .i64 0) w (.returned (.int .i64 0)) w2 from G2.out _ _ _ _ (M2.out.step (Below.refl _ _) _))
    clear G2 M2 B2
    go_wp2_with (first | (go_at_call 152; refine (KW.out _).mono ?_; rintro e w' ⟨rfl, rfl⟩) | fail)
    go_ret
    exact HEND.out
  · have C1 := Lib.hid (Bool.eq_false_iff.2 c1)
    clear c1
    have KW := Lib.hid (fun W => within_c at_ 0 999 W); rw [C1.out] at KW
    obtain ⟨e1, e2⟩ := Prod.mk.inj ((show (m, 4) = (timerP id at_).run m from by
      unfold timerP
      simp only [Pg.run_bind, Pg.run_pure, Pg.run_ret, ↓reduceIte, Bool.false_eq_true, Bool.true_and, Bool.and_true, Bool.and_self, Bool.false_and, Bool.and_false, or_false, false_or, true_or, or_true, ne_eq, not_true_eq_false, not_false_eq_true, eq_self_iff_true, decide_true, decide_false, C1.out]).trans HE.out)
    subst e1 e2
    have G0 := Lib.hid (show ∀ m' r e w', MStep p base v1 v2 v3 m' r w e w' → MStep p base v1 v2 v3 m' r w e w' from fun _ _ _ _ h => h)
    have M0 := Lib.hid H.out
    have B0 := Lib.hid (Below.refl base w)
    clear HE
    go_enter Tryz.func115, Tryz.ntmps115
    have HEND := Lib.hid (show MStep p base v1 v2 v3 _ (.int .i64 4) w (.returned (.int .i64 4)) w from G0.out _ _ _ _ (M0.out.step (Below.refl _ _) _))
    clear G0 M0 B0
    go_wp2_with (first | (go_at_call 152; refine (KW.out _).mono ?_; rintro e w' ⟨rfl, rfl⟩) | fail)
    go_ret
    exact HEND.out
end Go.Proofs.YtihghflppegnmaaGreatDoor
