/- Lemmas and contracts that the last text leans on, joined: KM5, DoAt, Kinds, KTick, Bytes, DrawS, Places, KJ, PQ, Fuel. Conditions: as each theorem says. -/
import Derived.Test.YtihghflppegnmaaGreatDoorCv0
import Derived.Test.YtihghflppegnmaaGreatDoorCv5
set_option linter.unusedSimpArgs false
set_option linter.unusedVariables false
set_option maxHeartbeats 40000000
namespace Go.Proofs.YtihghflppegnmaaGreatDoor
open Go.Proofs.Tryz
section
open Go.ChangeShapes Go.WideShapes Go.ChangeAt Go.RowKit
attribute [local go_sem ↓] Go.wp_at_zero Go.wp_at_succ
set_option maxRecDepth 100000 in
theorem pUnlink_c (p base : Nat) (v1 v2 v3 : Value) (m m' : Mch) (x : Int) (name : ByteArray) (w : World) (h : MAt w p base v1 v2 v3 m) (ho : MOk 800000000000 m) (hs : name.size ≤ 900) (HT : ∀ W, Below base w W → Tabs W) (E : (unlinkP name).run m = (m', x)) :
 Calls prog 100 #[.pointer (some ⟨p, 0, none⟩), .string name] w (MStep p base v1 v2 v3 m' (.int .i64 x) w) := by
 have H := hid9 h;have HTT := hid9 HT;have O0 := hid9 ho;have HE := hid9 E;clear h ho HT E;have G0 := hid9 (GB.start (p := p) (base := base) (v1 := v1) (v2 := v2) (v3 := v3) (w := w));have M0 := hid9 H.out;have B0 := hid9 (Below.refl base w);go_enter func100, ntmps100;by_cases c1 : nameOkB name = true
 ·have C1 := hid9 c1;clear c1;have KNname := hid9 (fun W => implNameOk_c name W (kle (Nat.le_trans hs (by decide))));rw [C1.out] at KNname;obtain ⟨m1, x1, HE1, O1⟩ := Pg.Cost.hop (fileOfP name) (fileOfP_cost _) O0;have bx1 := fileOfP_bounds HE1.out;go_wp2_with (first | (go_at_call 153; with_reducible refine (KNname.out _).mono ?_; rintro e w' ⟨rfl, rfl⟩) | fail);refine (pFileOf_c p base _ _ _ _ _ _ name _ M0.out (O0.out.mono (by omega)) (Nat.le_trans hs (by decide)) (fun W hW => HTT.out W (B0.out.trans hW)) HE1.out).mono ?_;rintro e w1 ⟨x11, x12, x13, rfl, hm, hg, q1, q2, q3⟩;have G1 := hid9 (G0.out.next hg q1 q2 q3);have B1 := hid9 (B0.out.trans (M0.out.grow hg));have M1 := hid9 hm;clear hm hg q1 q2 q3 G0 M0 B0;by_cases c2 : x1 = 0
  ·subst c2;obtain ⟨e1, e2⟩ := Prod.mk.inj ((show (m1, 2) = (unlinkP name).run m from by
    unfold unlinkP;simp only [Pg.run_bind, Pg.run_pure, Pg.run_ret, ↓reduceIte, bz, decide_true, decide_false, ne_eq, eq_self_iff_true, C1.out, HE1.out]).trans HE.out)
   subst e1 e2;clear HE;have HEND := hid9 (G1.out _ _ _ _ (M1.out.step (Below.refl _ _) (.int .i64 2)));clear G1 M1 B1;go_wp2_with (first | (go_at_call 153; with_reducible refine (KNname.out _).mono ?_; rintro e w' ⟨rfl, rfl⟩) | fail);go_ret;exact HEND.out
  ·go_wp2_with (first | (go_at_call 153; with_reducible refine (KNname.out _).mono ?_; rintro e w' ⟨rfl, rfl⟩) | fail);refine (nameKey_c name w1 (by omega)).mono ?_;rintro e w2 ⟨rfl, hb⟩;have G2 := hid9 (G1.out.below hb);have B2 := hid9 (B1.out.trans (hb.mono M1.out.hb));have M2 := hid9 (M1.out.below hb);clear hb G1 M1 B1;obtain ⟨m2, u2, HE2, O2⟩ := Pg.Cost.hop (layP (nK name) (noB)) (layP_cost _ _) O1;go_wp2_with (first | (go_at_call 153; with_reducible refine (KNname.out _).mono ?_; rintro e w' ⟨rfl, rfl⟩) | fail);refine (pLay_c p base _ _ _ _ _ _ (nK name) (noB) _ M2.out (O1.out.mono (by omega)) (kle (show (nK name).size ≤ 1000 by have := @nK_size name; omega)) (by decide) HE2.out).mono ?_;rintro e w3 ⟨x31, x32, x33, rfl, hm, hg, q1, q2, q3⟩;have G3 := hid9 (G2.out.next hg q1 q2 q3);have B3 := hid9 (B2.out.trans (M2.out.grow hg));have M3 := hid9 hm;clear hm hg q1 q2 q3 G2 M2 B2;go_wp2_with (first | (go_at_call 153; with_reducible refine (KNname.out _).mono ?_; rintro e w' ⟨rfl, rfl⟩) | fail);refine (linksKey_c x1 w3 (i64_of bx1) (HTT.out _ B3.out)).mono ?_;rintro e w4 ⟨rfl, hb⟩;have G4 := hid9 (G3.out.below hb);have B4 := hid9 (B3.out.trans (hb.mono M3.out.hb));have M4 := hid9 (M3.out.below hb);clear hb G3 M3 B3;obtain ⟨m3, x2, HE3, O3⟩ := Pg.Cost.hop (numP (linksK x1)) (numP_cost _) O2;have bx2 := numP_bounds HE3.out;go_wp2_with (first | (go_at_call 153; with_reducible refine (KNname.out _).mono ?_; rintro e w' ⟨rfl, rfl⟩) | fail);refine (pNum_c p base _ _ _ _ _ _ (linksK x1) _ M4.out (O2.out.mono (by omega)) (fun W hW => HTT.out W (B4.out.trans hW)) HE3.out).mono ?_;rintro e w5 ⟨x51, x52, x53, rfl, hm, hg, q1, q2, q3⟩;have G5 := hid9 (G4.out.next hg q1 q2 q3);have B5 := hid9 (B4.out.trans (M4.out.grow hg));have M5 := hid9 hm;clear hm hg q1 q2 q3 G4 M4 B4;by_cases c3 : 1 < x2
   ·have hwx2 : IntKind.i64.wrap (x2 - 1) = x2 - 1 := by rw [IntKind.wrap_i64]; omega
    go_wp2_with (first | (go_at_call 153; with_reducible refine (KNname.out _).mono ?_; rintro e w' ⟨rfl, rfl⟩) | fail);refine (linksKey_c x1 w5 (i64_of bx1) (HTT.out _ B5.out)).mono ?_;rintro e w6 ⟨rfl, hb⟩;have G6 := hid9 (G5.out.below hb);have B6 := hid9 (B5.out.trans (hb.mono M5.out.hb));have M6 := hid9 (M5.out.below hb);clear hb G5 M5 B5;obtain ⟨m4, u4, HE4, O4⟩ := Pg.Cost.hop (setP (linksK x1) (x2 - 1)) (setP_cost _ _) O3;go_wp2_with (first | (go_at_call 153; with_reducible refine (KNname.out _).mono ?_; rintro e w' ⟨rfl, rfl⟩) | fail);refine (pSet_c p base _ _ _ _ _ _ (linksK x1) (x2 - 1) _ M6.out (O3.out.mono (by omega)) (kle (linksK_size (i64_of bx1))) (fun W hW => HTT.out W (B6.out.trans hW)) HE4.out).mono ?_;rintro e w7 ⟨x71, x72, x73, rfl, hm, hg, q1, q2, q3⟩;have G7 := hid9 (G6.out.next hg q1 q2 q3);have B7 := hid9 (B6.out.trans (M6.out.grow hg));have M7 := hid9 hm;clear hm hg q1 q2 q3 G6 M6 B6;obtain ⟨e1, e2⟩ := Prod.mk.inj ((show (m4, 0) = (unlinkP name).run m from by
     unfold unlinkP;simp only [Pg.run_bind, Pg.run_pure, Pg.run_ret, ↓reduceIte, bz, decide_true, decide_false, ne_eq, eq_self_iff_true, C1.out, HE1.out, (show ¬ ((x1 : Int) = 0) from by first | exact c2 | omega | simpa using c2), HE2.out, HE3.out, (show 1 < x2 from by first | exact c3 | omega | simpa using c3), HE4.out]).trans HE.out)
    subst e1 e2;clear HE;have HEND := hid9 (G7.out _ _ _ _ (M7.out.step (Below.refl _ _) (.int .i64 0)));clear G7 M7 B7;go_wp2_with (first | (go_at_call 153; with_reducible refine (KNname.out _).mono ?_; rintro e w' ⟨rfl, rfl⟩) | fail);go_ret;exact HEND.out
   ·go_wp2_with (first | (go_at_call 153; with_reducible refine (KNname.out _).mono ?_; rintro e w' ⟨rfl, rfl⟩) | fail);refine (implKeyNum2_c ⟨#[105, 47]⟩ x1 ⟨#[47]⟩ w5 (i64_of bx1) (by decide) (by decide) (HTT.out _ B5.out)).mono ?_;rintro e w6 ⟨rfl, hb⟩;have G6 := hid9 (G5.out.below hb);have B6 := hid9 (B5.out.trans (hb.mono M5.out.hb));have M6 := hid9 (M5.out.below hb);clear hb G5 M5 B5;obtain ⟨m4, u4, HE4, O4⟩ := Pg.Cost.hop (wipeP (fileK x1)) (wipeP_cost _) O3;go_wp2_with (first | (go_at_call 153; with_reducible refine (KNname.out _).mono ?_; rintro e w' ⟨rfl, rfl⟩) | fail);refine (pWipe_c p base _ _ _ _ _ _ (fileK x1) _ M6.out (O3.out.mono (by omega)) (fileK_size (i64_of bx1)) HE4.out).mono ?_;rintro e w7 ⟨x71, x72, x73, rfl, hm, hg, q1, q2, q3⟩;have G7 := hid9 (G6.out.next hg q1 q2 q3);have B7 := hid9 (B6.out.trans (M6.out.grow hg));have M7 := hid9 hm;clear hm hg q1 q2 q3 G6 M6 B6;obtain ⟨e1, e2⟩ := Prod.mk.inj ((show (m4, 0) = (unlinkP name).run m from by
     unfold unlinkP;simp only [Pg.run_bind, Pg.run_pure, Pg.run_ret, ↓reduceIte, bz, decide_true, decide_false, ne_eq, eq_self_iff_true, C1.out, HE1.out, (show ¬ ((x1 : Int) = 0) from by first | exact c2 | omega | simpa using c2), HE2.out, HE3.out, (show ¬ (1 < x2) from by first | exact c3 | omega | simpa using c3), HE4.out]).trans HE.out)
    subst e1 e2;clear HE;have HEND := hid9 (G7.out _ _ _ _ (M7.out.step (Below.refl _ _) (.int .i64 0)));clear G7 M7 B7;go_wp2_with (first | (go_at_call 153; with_reducible refine (KNname.out _).mono ?_; rintro e w' ⟨rfl, rfl⟩) | fail);go_ret;exact HEND.out
 ·have C1 := hid9 (Bool.eq_false_iff.2 c1);clear c1;have KNname := hid9 (fun W => implNameOk_c name W (kle (Nat.le_trans hs (by decide))));rw [C1.out] at KNname;obtain ⟨e1, e2⟩ := Prod.mk.inj ((show (m, 4) = (unlinkP name).run m from by
   unfold unlinkP;simp only [Pg.run_bind, Pg.run_pure, Pg.run_ret, ↓reduceIte, bz, decide_true, decide_false, ne_eq, eq_self_iff_true, C1.out]).trans HE.out)
  subst e1 e2;clear HE;have HEND := hid9 (G0.out _ _ _ _ (M0.out.step (Below.refl _ _) (.int .i64 4)));clear G0 M0 B0;go_wp2_with (first | (go_at_call 153; with_reducible refine (KNname.out _).mono ?_; rintro e w' ⟨rfl, rfl⟩) | fail);go_ret;exact HEND.out
set_option maxRecDepth 100000 in
theorem pRename_c (p base : Nat) (v1 v2 v3 : Value) (m m' : Mch) (x : Int) (a : ByteArray) (b : ByteArray) (w : World) (h : MAt w p base v1 v2 v3 m) (ho : MOk 700000000000 m) (hs : a.size ≤ 900) (hs2 : b.size ≤ 900) (HT : ∀ W, Below base w W → Tabs W) (E : (renameP a b).run m = (m', x)) :
 Calls prog 101 #[.pointer (some ⟨p, 0, none⟩), .string a, .string b] w (MStep p base v1 v2 v3 m' (.int .i64 x) w) := by
 have H := hid9 h;have HTT := hid9 HT;have O0 := hid9 ho;have HE := hid9 E;clear h ho HT E;have G0 := hid9 (GB.start (p := p) (base := base) (v1 := v1) (v2 := v2) (v3 := v3) (w := w));have M0 := hid9 H.out;have B0 := hid9 (Below.refl base w);go_enter func101, ntmps101;by_cases c1 : nameOkB a = true
 ·have C1 := hid9 c1;clear c1;have KNa := hid9 (fun W => implNameOk_c a W (kle (Nat.le_trans hs (by decide))));rw [C1.out] at KNa;by_cases c2 : nameOkB b = true
  ·have C2 := hid9 c2;clear c2;have KNb := hid9 (fun W => implNameOk_c b W (kle (Nat.le_trans hs2 (by decide))));rw [C2.out] at KNb;obtain ⟨m1, x1, HE1, O1⟩ := Pg.Cost.hop (fileOfP a) (fileOfP_cost _) O0;have bx1 := fileOfP_bounds HE1.out;go_wp2_with (first | (go_at_call 153; with_reducible refine (KNa.out _).mono ?_; rintro e w' ⟨rfl, rfl⟩) | (go_at_call 153; with_reducible refine (KNb.out _).mono ?_; rintro e w' ⟨rfl, rfl⟩) | fail);refine (pFileOf_c p base _ _ _ _ _ _ a _ M0.out (O0.out.mono (by omega)) (Nat.le_trans hs (by decide)) (fun W hW => HTT.out W (B0.out.trans hW)) HE1.out).mono ?_;rintro e w1 ⟨x11, x12, x13, rfl, hm, hg, q1, q2, q3⟩;have G1 := hid9 (G0.out.next hg q1 q2 q3);have B1 := hid9 (B0.out.trans (M0.out.grow hg));have M1 := hid9 hm;clear hm hg q1 q2 q3 G0 M0 B0;by_cases c3 : x1 = 0
   ·subst c3;obtain ⟨e1, e2⟩ := Prod.mk.inj ((show (m1, 2) = (renameP a b).run m from by
     unfold renameP;simp only [Pg.run_bind, Pg.run_pure, Pg.run_ret, ↓reduceIte, bz, decide_true, decide_false, ne_eq, eq_self_iff_true, C1.out, C2.out, HE1.out]).trans HE.out)
    subst e1 e2;clear HE;have HEND := hid9 (G1.out _ _ _ _ (M1.out.step (Below.refl _ _) (.int .i64 2)));clear G1 M1 B1;go_wp2_with (first | (go_at_call 153; with_reducible refine (KNa.out _).mono ?_; rintro e w' ⟨rfl, rfl⟩) | (go_at_call 153; with_reducible refine (KNb.out _).mono ?_; rintro e w' ⟨rfl, rfl⟩) | fail);go_ret;exact HEND.out
   ·obtain ⟨m2, x2, HE2, O2⟩ := Pg.Cost.hop (fileOfP b) (fileOfP_cost _) O1;have bx2 := fileOfP_bounds HE2.out;go_wp2_with (first | (go_at_call 153; with_reducible refine (KNa.out _).mono ?_; rintro e w' ⟨rfl, rfl⟩) | (go_at_call 153; with_reducible refine (KNb.out _).mono ?_; rintro e w' ⟨rfl, rfl⟩) | fail);refine (pFileOf_c p base _ _ _ _ _ _ b _ M1.out (O1.out.mono (by omega)) (Nat.le_trans hs2 (by decide)) (fun W hW => HTT.out W (B1.out.trans hW)) HE2.out).mono ?_;rintro e w2 ⟨x21, x22, x23, rfl, hm, hg, q1, q2, q3⟩;have G2 := hid9 (G1.out.next hg q1 q2 q3);have B2 := hid9 (B1.out.trans (M1.out.grow hg));have M2 := hid9 hm;clear hm hg q1 q2 q3 G1 M1 B1;by_cases c4 : x2 = x1
    ·subst c4;obtain ⟨e1, e2⟩ := Prod.mk.inj ((show (m2, 0) = (renameP a b).run m from by
      unfold renameP;simp only [Pg.run_bind, Pg.run_pure, Pg.run_ret, ↓reduceIte, bz, decide_true, decide_false, ne_eq, eq_self_iff_true, C1.out, C2.out, HE1.out, (show ¬ ((x2 : Int) = 0) from by first | exact c3 | omega | simpa using c3), HE2.out]).trans HE.out)
     subst e1 e2;clear HE;have HEND := hid9 (G2.out _ _ _ _ (M2.out.step (Below.refl _ _) (.int .i64 0)));clear G2 M2 B2;go_wp2_with (first | (go_at_call 153; with_reducible refine (KNa.out _).mono ?_; rintro e w' ⟨rfl, rfl⟩) | (go_at_call 153; with_reducible refine (KNb.out _).mono ?_; rintro e w' ⟨rfl, rfl⟩) | fail);go_ret;exact HEND.out
    ·by_cases c5 : x2 = 0
     ·subst c5;go_wp2_with (first | (go_at_call 153; with_reducible refine (KNa.out _).mono ?_; rintro e w' ⟨rfl, rfl⟩) | (go_at_call 153; with_reducible refine (KNb.out _).mono ?_; rintro e w' ⟨rfl, rfl⟩) | fail);refine (nameKey_c b w2 (by omega)).mono ?_;rintro e w3 ⟨rfl, hb⟩;have G3 := hid9 (G2.out.below hb);have B3 := hid9 (B2.out.trans (hb.mono M2.out.hb));have M3 := hid9 (M2.out.below hb);clear hb G2 M2 B2;obtain ⟨m3, u3, HE3, O3⟩ := Pg.Cost.hop (setP (nK b) (x1)) (setP_cost _ _) O2;go_wp2_with (first | (go_at_call 153; with_reducible refine (KNa.out _).mono ?_; rintro e w' ⟨rfl, rfl⟩) | (go_at_call 153; with_reducible refine (KNb.out _).mono ?_; rintro e w' ⟨rfl, rfl⟩) | fail);refine (pSet_c p base _ _ _ _ _ _ (nK b) (x1) _ M3.out (O2.out.mono (by omega)) (kle (show (nK b).size ≤ 1000 by have := @nK_size b; omega)) (fun W hW => HTT.out W (B3.out.trans hW)) HE3.out).mono ?_;rintro e w4 ⟨x41, x42, x43, rfl, hm, hg, q1, q2, q3⟩;have G4 := hid9 (G3.out.next hg q1 q2 q3);have B4 := hid9 (B3.out.trans (M3.out.grow hg));have M4 := hid9 hm;clear hm hg q1 q2 q3 G3 M3 B3;go_wp2_with (first | (go_at_call 153; with_reducible refine (KNa.out _).mono ?_; rintro e w' ⟨rfl, rfl⟩) | (go_at_call 153; with_reducible refine (KNb.out _).mono ?_; rintro e w' ⟨rfl, rfl⟩) | fail);refine (nameKey_c a w4 (by omega)).mono ?_;rintro e w5 ⟨rfl, hb⟩;have G5 := hid9 (G4.out.below hb);have B5 := hid9 (B4.out.trans (hb.mono M4.out.hb));have M5 := hid9 (M4.out.below hb);clear hb G4 M4 B4;obtain ⟨m4, u4, HE4, O4⟩ := Pg.Cost.hop (layP (nK a) (noB)) (layP_cost _ _) O3;go_wp2_with (first | (go_at_call 153; with_reducible refine (KNa.out _).mono ?_; rintro e w' ⟨rfl, rfl⟩) | (go_at_call 153; with_reducible refine (KNb.out _).mono ?_; rintro e w' ⟨rfl, rfl⟩) | fail);refine (pLay_c p base _ _ _ _ _ _ (nK a) (noB) _ M5.out (O3.out.mono (by omega)) (kle (show (nK a).size ≤ 1000 by have := @nK_size a; omega)) (by decide) HE4.out).mono ?_;rintro e w6 ⟨x61, x62, x63, rfl, hm, hg, q1, q2, q3⟩;have G6 := hid9 (G5.out.next hg q1 q2 q3);have B6 := hid9 (B5.out.trans (M5.out.grow hg));have M6 := hid9 hm;clear hm hg q1 q2 q3 G5 M5 B5;obtain ⟨e1, e2⟩ := Prod.mk.inj ((show (m4, 0) = (renameP a b).run m from by
       unfold renameP;simp only [Pg.run_bind, Pg.run_pure, Pg.run_ret, ↓reduceIte, bz, decide_true, decide_false, ne_eq, eq_self_iff_true, C1.out, C2.out, HE1.out, (show ¬ ((x1 : Int) = 0) from by first | exact c3 | omega | simpa using c3), HE2.out, (show ¬ ((0) = x1) from by first | exact c4 | omega | simpa using c4), HE3.out, HE4.out]).trans HE.out)
      subst e1 e2;clear HE;have HEND := hid9 (G6.out _ _ _ _ (M6.out.step (Below.refl _ _) (.int .i64 0)));clear G6 M6 B6;go_wp2_with (first | (go_at_call 153; with_reducible refine (KNa.out _).mono ?_; rintro e w' ⟨rfl, rfl⟩) | (go_at_call 153; with_reducible refine (KNb.out _).mono ?_; rintro e w' ⟨rfl, rfl⟩) | fail);go_ret;exact HEND.out
     ·obtain ⟨m3, xu, HE3, O3⟩ := Pg.Cost.hop (unlinkP b) (unlinkP_cost _) O2;go_wp2_with (first | (go_at_call 153; with_reducible refine (KNa.out _).mono ?_; rintro e w' ⟨rfl, rfl⟩) | (go_at_call 153; with_reducible refine (KNb.out _).mono ?_; rintro e w' ⟨rfl, rfl⟩) | fail);refine (pUnlink_c p base _ _ _ _ _ _ b _ M2.out (O2.out.mono (by omega)) hs2 (fun W hW => HTT.out W (B2.out.trans hW)) HE3.out).mono ?_;rintro e w3 ⟨x31, x32, x33, rfl, hm, hg, q1, q2, q3⟩;have G3 := hid9 (G2.out.next hg q1 q2 q3);have B3 := hid9 (B2.out.trans (M2.out.grow hg));have M3 := hid9 hm;clear hm hg q1 q2 q3 G2 M2 B2;go_wp2_with (first | (go_at_call 153; with_reducible refine (KNa.out _).mono ?_; rintro e w' ⟨rfl, rfl⟩) | (go_at_call 153; with_reducible refine (KNb.out _).mono ?_; rintro e w' ⟨rfl, rfl⟩) | fail);refine (nameKey_c b w3 (by omega)).mono ?_;rintro e w4 ⟨rfl, hb⟩;have G4 := hid9 (G3.out.below hb);have B4 := hid9 (B3.out.trans (hb.mono M3.out.hb));have M4 := hid9 (M3.out.below hb);clear hb G3 M3 B3;obtain ⟨m4, u4, HE4, O4⟩ := Pg.Cost.hop (setP (nK b) (x1)) (setP_cost _ _) O3;go_wp2_with (first | (go_at_call 153; with_reducible refine (KNa.out _).mono ?_; rintro e w' ⟨rfl, rfl⟩) | (go_at_call 153; with_reducible refine (KNb.out _).mono ?_; rintro e w' ⟨rfl, rfl⟩) | fail);refine (pSet_c p base _ _ _ _ _ _ (nK b) (x1) _ M4.out (O3.out.mono (by omega)) (kle (show (nK b).size ≤ 1000 by have := @nK_size b; omega)) (fun W hW => HTT.out W (B4.out.trans hW)) HE4.out).mono ?_;rintro e w5 ⟨x51, x52, x53, rfl, hm, hg, q1, q2, q3⟩;have G5 := hid9 (G4.out.next hg q1 q2 q3);have B5 := hid9 (B4.out.trans (M4.out.grow hg));have M5 := hid9 hm;clear hm hg q1 q2 q3 G4 M4 B4;go_wp2_with (first | (go_at_call 153; with_reducible refine (KNa.out _).mono ?_; rintro e w' ⟨rfl, rfl⟩) | (go_at_call 153; with_reducible refine (KNb.out _).mono ?_; rintro e w' ⟨rfl, rfl⟩) | fail);refine (nameKey_c a w5 (by omega)).mono ?_;rintro e w6 ⟨rfl, hb⟩;have G6 := hid9 (G5.out.below hb);have B6 := hid9 (B5.out.trans (hb.mono M5.out.hb));have M6 := hid9 (M5.out.below hb);clear hb G5 M5 B5;obtain ⟨m5, u5, HE5, O5⟩ := Pg.Cost.hop (layP (nK a) (noB)) (layP_cost _ _) O4;go_wp2_with (first | (go_at_call 153; with_reducible refine (KNa.out _).mono ?_; rintro e w' ⟨rfl, rfl⟩) | (go_at_call 153; with_reducible refine (KNb.out _).mono ?_; rintro e w' ⟨rfl, rfl⟩) | fail);refine (pLay_c p base _ _ _ _ _ _ (nK a) (noB) _ M6.out (O4.out.mono (by omega)) (kle (show (nK a).size ≤ 1000 by have := @nK_size a; omega)) (by decide) HE5.out).mono ?_;rintro e w7 ⟨x71, x72, x73, rfl, hm, hg, q1, q2, q3⟩;have G7 := hid9 (G6.out.next hg q1 q2 q3);have B7 := hid9 (B6.out.trans (M6.out.grow hg));have M7 := hid9 hm;clear hm hg q1 q2 q3 G6 M6 B6;obtain ⟨e1, e2⟩ := Prod.mk.inj ((show (m5, 0) = (renameP a b).run m from by
       unfold renameP;simp only [Pg.run_bind, Pg.run_pure, Pg.run_ret, ↓reduceIte, bz, decide_true, decide_false, ne_eq, eq_self_iff_true, C1.out, C2.out, HE1.out, (show ¬ ((x1 : Int) = 0) from by first | exact c3 | omega | simpa using c3), HE2.out, (show ¬ (x2 = x1) from by first | exact c4 | omega | simpa using c4), (show ¬ ((x2 : Int) = 0) from by first | exact c5 | omega | simpa using c5), HE3.out, HE4.out, HE5.out]).trans HE.out)
      subst e1 e2;clear HE;have HEND := hid9 (G7.out _ _ _ _ (M7.out.step (Below.refl _ _) (.int .i64 0)));clear G7 M7 B7;go_wp2_with (first | (go_at_call 153; with_reducible refine (KNa.out _).mono ?_; rintro e w' ⟨rfl, rfl⟩) | (go_at_call 153; with_reducible refine (KNb.out _).mono ?_; rintro e w' ⟨rfl, rfl⟩) | fail);go_ret;exact HEND.out
  ·have C2 := hid9 (Bool.eq_false_iff.2 c2);clear c2;have KNb := hid9 (fun W => implNameOk_c b W (kle (Nat.le_trans hs2 (by decide))));rw [C2.out] at KNb;obtain ⟨e1, e2⟩ := Prod.mk.inj ((show (m, 4) = (renameP a b).run m from by
    unfold renameP;simp only [Pg.run_bind, Pg.run_pure, Pg.run_ret, ↓reduceIte, bz, decide_true, decide_false, ne_eq, eq_self_iff_true, C1.out, C2.out]).trans HE.out)
   subst e1 e2;clear HE;have HEND := hid9 (G0.out _ _ _ _ (M0.out.step (Below.refl _ _) (.int .i64 4)));clear G0 M0 B0;go_wp2_with (first | (go_at_call 153; with_reducible refine (KNa.out _).mono ?_; rintro e w' ⟨rfl, rfl⟩) | (go_at_call 153; with_reducible refine (KNb.out _).mono ?_; rintro e w' ⟨rfl, rfl⟩) | fail);go_ret;exact HEND.out
 ·have C1 := hid9 (Bool.eq_false_iff.2 c1);clear c1;have KNa := hid9 (fun W => implNameOk_c a W (kle (Nat.le_trans hs (by decide))));rw [C1.out] at KNa;obtain ⟨e1, e2⟩ := Prod.mk.inj ((show (m, 4) = (renameP a b).run m from by
   unfold renameP;simp only [Pg.run_bind, Pg.run_pure, Pg.run_ret, ↓reduceIte, bz, decide_true, decide_false, ne_eq, eq_self_iff_true, C1.out]).trans HE.out)
  subst e1 e2;clear HE;have HEND := hid9 (G0.out _ _ _ _ (M0.out.step (Below.refl _ _) (.int .i64 4)));clear G0 M0 B0;go_wp2_with (first | (go_at_call 153; with_reducible refine (KNa.out _).mono ?_; rintro e w' ⟨rfl, rfl⟩) | (go_at_call 153; with_reducible refine (KNb.out _).mono ?_; rintro e w' ⟨rfl, rfl⟩) | fail);go_ret;exact HEND.out
set_option maxRecDepth 100000 in
theorem pReap_c (p base : Nat) (v1 v2 v3 : Value) (m m' : Mch) (x y : Int) (parent : Int) (id : Int) (w : World) (h : MAt w p base v1 v2 v3 m) (ho : MOk 800000000000 m) (hn : I64 id) (HT : ∀ W, Below base w W → Tabs W) (E : (reapP parent id).run m = (m', (x, y))) :
 Calls prog 110 #[.pointer (some ⟨p, 0, none⟩), .int .i64 parent, .int .i64 id] w (MStep p base v1 v2 v3 m' (.tuple #[.int .i64 x, .int .i64 y]) w) := by
 have H := hid9 h;have HTT := hid9 HT;have O0 := hid9 ho;have HE := hid9 E;clear h ho HT E;have G0 := hid9 (GB.start (p := p) (base := base) (v1 := v1) (v2 := v2) (v3 := v3) (w := w));have M0 := hid9 H.out;have B0 := hid9 (Below.refl base w);go_enter func110, ntmps110;go_wp2_with fail;refine (procKey2_c id tP w hn (by decide) (HTT.out _ B0.out)).mono ?_;rintro e w1 ⟨rfl, hb⟩;have G1 := hid9 (G0.out.below hb);have B1 := hid9 (B0.out.trans (hb.mono M0.out.hb));have M1 := hid9 (M0.out.below hb);clear hb G0 M0 B0;obtain ⟨m1, x1, HE1, O1⟩ := Pg.Cost.hop (numP (procK id tP)) (numP_cost _) O0;have bx1 := numP_bounds HE1.out;go_wp2_with fail;refine (pNum_c p base _ _ _ _ _ _ (procK id tP) _ M1.out (O0.out.mono (by omega)) (fun W hW => HTT.out W (B1.out.trans hW)) HE1.out).mono ?_;rintro e w2 ⟨x21, x22, x23, rfl, hm, hg, q1, q2, q3⟩;have G2 := hid9 (G1.out.next hg q1 q2 q3);have B2 := hid9 (B1.out.trans (M1.out.grow hg));have M2 := hid9 hm;clear hm hg q1 q2 q3 G1 M1 B1;by_cases c1 : x1 = 0
 ·subst c1;obtain ⟨e1, e2⟩ := Prod.mk.inj ((show (m1, (0, 2)) = (reapP parent id).run m from by
   unfold reapP;simp only [Pg.run_bind, Pg.run_pure, Pg.run_ret, ↓reduceIte, bz, decide_true, decide_false, ne_eq, eq_self_iff_true, HE1.out]).trans HE.out)
  obtain ⟨e2, e3⟩ := Prod.mk.inj e2;subst e1 e2 e3;clear HE;have HEND := hid9 (G2.out _ _ _ _ (M2.out.step (Below.refl _ _) (.tuple #[.int .i64 0, .int .i64 2])));clear G2 M2 B2;go_wp2;go_ret2;exact HEND.out
 ·by_cases c2 : x1 = parent
  ·subst c2;obtain ⟨m2, x2, HE2, O2⟩ := Pg.Cost.hop (stateP id) (stateP_cost _) O1;have bx2 := numP_bounds HE2.out;go_wp2_with fail;refine (pState_c p base _ _ _ _ _ _ id _ M2.out (O1.out.mono (by omega)) hn (fun W hW => HTT.out W (B2.out.trans hW)) HE2.out).mono ?_;rintro e w3 ⟨x31, x32, x33, rfl, hm, hg, q1, q2, q3⟩;have G3 := hid9 (G2.out.next hg q1 q2 q3);have B3 := hid9 (B2.out.trans (M2.out.grow hg));have M3 := hid9 hm;clear hm hg q1 q2 q3 G2 M2 B2;by_cases c3 : x2 = 1
   ·subst c3;obtain ⟨e1, e2⟩ := Prod.mk.inj ((show (m2, (0, 5)) = (reapP x1 id).run m from by
     unfold reapP;simp only [Pg.run_bind, Pg.run_pure, Pg.run_ret, ↓reduceIte, bz, decide_true, decide_false, ne_eq, eq_self_iff_true, HE1.out, (show ¬ ((x1 : Int) = 0) from by first | exact c1 | omega | simpa using c1), HE2.out]).trans HE.out)
    obtain ⟨e2, e3⟩ := Prod.mk.inj e2;subst e1 e2 e3;clear HE;have HEND := hid9 (G3.out _ _ _ _ (M3.out.step (Below.refl _ _) (.tuple #[.int .i64 0, .int .i64 5])));clear G3 M3 B3;go_wp2;go_ret2;exact HEND.out
   ·by_cases c4 : x2 = 2
    ·subst c4;go_wp2_with fail;refine (procKey2_c id tX w3 hn (by decide) (HTT.out _ B3.out)).mono ?_;rintro e w4 ⟨rfl, hb⟩;have G4 := hid9 (G3.out.below hb);have B4 := hid9 (B3.out.trans (hb.mono M3.out.hb));have M4 := hid9 (M3.out.below hb);clear hb G3 M3 B3;obtain ⟨m3, x3, HE3, O3⟩ := Pg.Cost.hop (numP (procK id tX)) (numP_cost _) O2;have bx3 := numP_bounds HE3.out;go_wp2_with fail;refine (pNum_c p base _ _ _ _ _ _ (procK id tX) _ M4.out (O2.out.mono (by omega)) (fun W hW => HTT.out W (B4.out.trans hW)) HE3.out).mono ?_;rintro e w5 ⟨x51, x52, x53, rfl, hm, hg, q1, q2, q3⟩;have G5 := hid9 (G4.out.next hg q1 q2 q3);have B5 := hid9 (B4.out.trans (M4.out.grow hg));have M5 := hid9 hm;clear hm hg q1 q2 q3 G4 M4 B4;have hwx3 : IntKind.i64.wrap (x3 - 1) = x3 - 1 := by rw [IntKind.wrap_i64]; omega
     go_wp2_with fail;refine (procKey2_c id tSl w5 hn (by decide) (HTT.out _ B5.out)).mono ?_;rintro e w6 ⟨rfl, hb⟩;have G6 := hid9 (G5.out.below hb);have B6 := hid9 (B5.out.trans (hb.mono M5.out.hb));have M6 := hid9 (M5.out.below hb);clear hb G5 M5 B5;obtain ⟨m4, u4, HE4, O4⟩ := Pg.Cost.hop (wipeP (procK id tSl)) (wipeP_cost _) O3;go_wp2_with fail;refine (pWipe_c p base _ _ _ _ _ _ (procK id tSl) _ M6.out (O3.out.mono (by omega)) (procK_size2 hn (by decide)) HE4.out).mono ?_;rintro e w7 ⟨x71, x72, x73, rfl, hm, hg, q1, q2, q3⟩;have G7 := hid9 (G6.out.next hg q1 q2 q3);have B7 := hid9 (B6.out.trans (M6.out.grow hg));have M7 := hid9 hm;clear hm hg q1 q2 q3 G6 M6 B6;obtain ⟨e1, e2⟩ := Prod.mk.inj ((show (m4, (x3 - 1, 0)) = (reapP x1 id).run m from by
      unfold reapP;simp only [Pg.run_bind, Pg.run_pure, Pg.run_ret, ↓reduceIte, bz, decide_true, decide_false, ne_eq, eq_self_iff_true, HE1.out, (show ¬ ((x1 : Int) = 0) from by first | exact c1 | omega | simpa using c1), HE2.out, (show ¬ (((2) : Int) = 1) from by first | exact c3 | omega | simpa using c3), HE3.out, HE4.out]).trans HE.out)
     obtain ⟨e2, e3⟩ := Prod.mk.inj e2;subst e1 e2 e3;clear HE;have HEND := hid9 (G7.out _ _ _ _ (M7.out.step (Below.refl _ _) (.tuple #[.int .i64 (x3 - 1), .int .i64 0])));clear G7 M7 B7;go_wp2;go_ret2;exact HEND.out
    ·obtain ⟨e1, e2⟩ := Prod.mk.inj ((show (m2, (0, 2)) = (reapP x1 id).run m from by
      unfold reapP;simp only [Pg.run_bind, Pg.run_pure, Pg.run_ret, ↓reduceIte, bz, decide_true, decide_false, ne_eq, eq_self_iff_true, HE1.out, (show ¬ ((x1 : Int) = 0) from by first | exact c1 | omega | simpa using c1), HE2.out, (show ¬ ((x2 : Int) = 1) from by first | exact c3 | omega | simpa using c3), (show ¬ ((x2 : Int) = 2) from by first | exact c4 | omega | simpa using c4)]).trans HE.out)
     obtain ⟨e2, e3⟩ := Prod.mk.inj e2;subst e1 e2 e3;clear HE;have HEND := hid9 (G3.out _ _ _ _ (M3.out.step (Below.refl _ _) (.tuple #[.int .i64 0, .int .i64 2])));clear G3 M3 B3;go_wp2;go_ret2;exact HEND.out
  ·have d2 : (x1 == parent) = false := beq_eq_false_iff_ne.2 c2;have d3 : (x1 != parent) = true := bne_iff_ne.2 c2;obtain ⟨e1, e2⟩ := Prod.mk.inj ((show (m1, (0, 2)) = (reapP parent id).run m from by
    unfold reapP;simp only [Pg.run_bind, Pg.run_pure, Pg.run_ret, ↓reduceIte, bz, decide_true, decide_false, ne_eq, eq_self_iff_true, HE1.out, (show ¬ ((x1 : Int) = 0) from by first | exact c1 | omega | simpa using c1), (show ¬ (x1 = parent) from by first | exact c2 | omega | simpa using c2)]).trans HE.out)
   obtain ⟨e2, e3⟩ := Prod.mk.inj e2;subst e1 e2 e3;clear HE;have HEND := hid9 (G2.out _ _ _ _ (M2.out.step (Below.refl _ _) (.tuple #[.int .i64 0, .int .i64 2])));clear G2 M2 B2;go_wp2;go_ret2;exact HEND.out
set_option maxRecDepth 100000 in
theorem pDrop_c (p base : Nat) (v1 v2 v3 : Value) (m m' : Mch) (x : Unit) (id : Int) (w : World) (h : MAt w p base v1 v2 v3 m) (ho : MOk 800000000000 m) (hn : I64 id) (HT : ∀ W, Below base w W → Tabs W) (E : (dropPagesP id).run m = (m', x)) :
 Calls prog 109 #[.pointer (some ⟨p, 0, none⟩), .int .i64 id] w (MStep p base v1 v2 v3 m' (.tuple #[]) w) := by
 have H := hid9 h;have HTT := hid9 HT;have O0 := hid9 ho;have HE := hid9 E;clear h ho HT E;have G0 := hid9 (GB.start (p := p) (base := base) (v1 := v1) (v2 := v2) (v3 := v3) (w := w));have M0 := hid9 H.out;have B0 := hid9 (Below.refl base w);go_enter func109, ntmps109;go_wp2_with fail;refine (pagesKey_c id w hn (HTT.out _ B0.out)).mono ?_;rintro e w1 ⟨rfl, hb⟩;have G1 := hid9 (G0.out.below hb);have B1 := hid9 (B0.out.trans (hb.mono M0.out.hb));have M1 := hid9 (M0.out.below hb);clear hb G0 M0 B0;obtain ⟨m1, u1, HE1, O1⟩ := Pg.Cost.hop (wipeP (pagesK id)) (wipeP_cost _) O0;go_wp2_with fail;refine (pWipe_c p base _ _ _ _ _ _ (pagesK id) _ M1.out (O0.out.mono (by omega)) (pagesK_size hn) HE1.out).mono ?_;rintro e w2 ⟨x21, x22, x23, rfl, hm, hg, q1, q2, q3⟩;have G2 := hid9 (G1.out.next hg q1 q2 q3);have B2 := hid9 (B1.out.trans (M1.out.grow hg));have M2 := hid9 hm;clear hm hg q1 q2 q3 G1 M1 B1;obtain ⟨e1, e2⟩ := Prod.mk.inj ((show (m1, u1) = (dropPagesP id).run m from by
  unfold dropPagesP;simp only [Pg.run_bind, Pg.run_pure, Pg.run_ret, ↓reduceIte, bz, decide_true, decide_false, ne_eq, eq_self_iff_true, HE1.out]).trans HE.out)
 subst e1;clear HE;have HEND := hid9 (G2.out _ _ _ _ (M2.out.step (Below.refl _ _) (.tuple #[])));clear G2 M2 B2;go_wp2;exact bodyPost_ret (v := .tuple #[]) (by simp [results, results109, go_sem]) rfl HEND.out
theorem MAt.setCell {W : World} {p base : Nat} {v1 v2 v3 : Value} {m : Mch} (h : MAt W p base v1 v2 v3 m) {b : Nat} (hp : p ≠ b) (n1 : v1.ownBlock ≠ some b) (n2 : v2.ownBlock ≠ some b) (n3 : v3.ownBlock ≠ some b) (i : Nat) (v : Value) : MAt (W.setCell ⟨b, i, none⟩ v) p base v1 v2 v3 m := by
 have gs := grownBy_setCell W b i v;exact ⟨⟨Nat.lt_of_lt_of_le h.box.1 gs.size, h.box.2.elim fun T hT => ⟨T, (gs.block p h.box.1 (fun e => hp (Option.some.inj e))).trans hT⟩⟩, h.o1.kept gs (.inr n1), h.o2.kept gs (.inr n2), h.o3.kept gs (.inr n3), h.n1, h.n2, h.n3, h.d12, h.d13, h.d23, h.hp, Nat.le_trans h.hb gs.size⟩
theorem box_far2 {w : World} {b b' : Nat} {xs : List Value} (h : Box w b xs) (hne : b ≠ b') (i : Nat) (v : Value) : Box (w.setCell ⟨b', i, none⟩ v) b xs := by
 obtain ⟨h1, T, h2⟩ := h;exact ⟨by simpa [World.setCell] using h1, T, (heap_setCell_other w ⟨b', i, none⟩ b v hne).trans h2⟩
structure DAt (p base : Nat) (v1 v2 v3 : Value) (w : World) (cs xs : List Value) (W : World) (u1 u2 u3 : Value) (k : Mch) : Prop where
 at_ : MAt W p base u1 u2 u3 k
 bc : Box W w.heap.size cs
 br : ∃ ys, ys.length = 3 ∧ Box W (w.heap.size + 1) ys
 ba : Box W (w.heap.size + 2) xs
 pl : p < w.heap.size
 far : ∀ i, w.heap.size ≤ i → i < w.heap.size + 3 → u1.ownBlock ≠ some i ∧ u2.ownBlock ≠ some i ∧ u3.ownBlock ≠ some i
 gr : Grow3 w W p v1 v2 v3
 q1 : OwnOr w v1 u1
 q2 : OwnOr w v2 u2
 q3 : OwnOr w v3 u3
section
variable {p base : Nat} {v1 v2 v3 u1 u2 u3 x1 x2 x3 : Value} {w W W' : World} {cs xs : List Value} {m k k' : Mch}
theorem DAt.first (h : MAt w p base v1 v2 v3 m) (cs : List Value) (T T2 T3 : TypeId) : DAt p base v1 v2 v3 w cs [.int .i64 0, .int .i64 0, .string ⟨#[]⟩] (((w.alloc (.cells cs.toArray T)).alloc (.cells #[.int .i64 0, .int .i64 0, .string ⟨#[]⟩] T2)).alloc (.cells #[.int .i64 0, .int .i64 0, .string ⟨#[]⟩] T3)) v1 v2 v3 m := by
 have hb : Below w.heap.size w (((w.alloc (.cells cs.toArray T)).alloc (.cells #[.int .i64 0, .int .i64 0, .string ⟨#[]⟩] T2)).alloc (.cells #[.int .i64 0, .int .i64 0, .string ⟨#[]⟩] T3)) := bel9;have e1 : (w.alloc (.cells cs.toArray T)).heap.size = w.heap.size + 1 := by simp
 have e2 : ((w.alloc (.cells cs.toArray T)).alloc (.cells #[.int .i64 0, .int .i64 0, .string ⟨#[]⟩] T2)).heap.size = w.heap.size + 2 := by simp
 have h2 := Box.new (w.alloc (.cells cs.toArray T)) [.int .i64 0, .int .i64 0, .string ⟨#[]⟩] T2;have h3 := Box.new ((w.alloc (.cells cs.toArray T)).alloc (.cells #[.int .i64 0, .int .i64 0, .string ⟨#[]⟩] T2)) [.int .i64 0, .int .i64 0, .string ⟨#[]⟩] T3;rw [e1] at h2;rw [e2] at h3;refine ⟨h.below hb, ((Box.new w cs T).alloc _).alloc _, ⟨_, rfl, h2.alloc _⟩, h3, h.box.1, fun i h1 _ => ⟨fun e => ?_, fun e => ?_, fun e => ?_⟩, Grow3.of_below hb, .inl rfl, .inl rfl, .inl rfl⟩
 ·have := (h.o1.lt i e).2; omega
 ·have := (h.o2.lt i e).2; omega
 ·have := (h.o3.lt i e).2; omega
theorem DAt.next (d : DAt p base v1 v2 v3 w cs xs W u1 u2 u3 k) (hm : MAt W' p base x1 x2 x3 k') (hg : Grow3 W W' p u1 u2 u3) (r1 : OwnOr W u1 x1) (r2 : OwnOr W u2 x2) (r3 : OwnOr W u3 x3) : DAt p base v1 v2 v3 w cs xs W' x1 x2 x3 k' := by
 have hs : w.heap.size + 3 ≤ W.heap.size := by have := d.ba.1; omega
 have hp := d.pl;have keep : ∀ (i : Nat) (ys : List Value), w.heap.size ≤ i → i < w.heap.size + 3 → Box W i ys → Box W' i ys := fun i ys h1 h2 hb => by
  obtain ⟨f1, f2, f3⟩ := d.far i h1 h2;exact ⟨Nat.lt_of_lt_of_le hb.1 hg.size, hb.2.elim fun T hT => ⟨T, (hg.block i hb.1 (by omega) f1 f2 f3).trans hT⟩⟩
 refine ⟨hm, keep _ _ (Nat.le_refl _) (by omega) d.bc, d.br.elim fun ys hy => ⟨ys, hy.1, keep _ _ (by omega) (by omega) hy.2⟩, keep _ _ (by omega) (by omega) d.ba, hp, fun i h1 h2 => ?_, d.gr.trans d.q1 d.q2 d.q3 hg, d.q1.trans r1 d.gr.size, d.q2.trans r2 d.gr.size, d.q3.trans r3 d.gr.size⟩;obtain ⟨f1, f2, f3⟩ := d.far i h1 h2;exact ⟨r1.ne (by omega) f1, r2.ne (by omega) f2, r3.ne (by omega) f3⟩
theorem DAt.below (d : DAt p base v1 v2 v3 w cs xs W u1 u2 u3 k) (hb : Below W.heap.size W W') : DAt p base v1 v2 v3 w cs xs W' u1 u2 u3 k := d.next (d.at_.below hb) (Grow3.of_below hb) (.inl rfl) (.inl rfl) (.inl rfl)
theorem grow_set (h : Grow3 w W p v1 v2 v3) {b : Nat} (hb : w.heap.size ≤ b) (i : Nat) (v : Value) : Grow3 w (W.setCell ⟨b, i, none⟩ v) p v1 v2 v3 := by
 have gs := grownBy_setCell W b i v;exact ⟨gs.os.trans h.os, gs.tape.trans h.tape, gs.output.trans h.output, Nat.le_trans h.size gs.size, fun k hk h0 h1 h2 h3 => (gs.block k (Nat.lt_of_lt_of_le hk h.size) (fun e => by have := Option.some.inj e; omega)).trans (h.block k hk h0 h1 h2 h3)⟩
theorem DAt.seta (d : DAt p base v1 v2 v3 w cs xs W u1 u2 u3 k) (i : Nat) (v : Value) : DAt p base v1 v2 v3 w cs (xs.set i v) (W.setCell ⟨w.heap.size + 2, i, none⟩ v) u1 u2 u3 k := by
 have hp := d.pl;obtain ⟨f1, f2, f3⟩ := d.far (w.heap.size + 2) (by omega) (by omega);exact ⟨d.at_.setCell (by omega) f1 f2 f3 i v, box_far2 d.bc (by omega) i v, d.br.elim fun ys hy => ⟨ys, hy.1, box_far2 hy.2 (by omega) i v⟩, box_put d.ba i v, hp, d.far, grow_set d.gr (by omega) i v, d.q1, d.q2, d.q3⟩
theorem DAt.done (d : DAt p base v1 v2 v3 w cs xs W u1 u2 u3 k) (r : Value) (a b c : Value) : MStep p base v1 v2 v3 k r w (.returned r) (((W.setCell ⟨w.heap.size + 1, 0, none⟩ a).setCell ⟨w.heap.size + 1, 1, none⟩ b).setCell ⟨w.heap.size + 1, 2, none⟩ c) := by
 have hp := d.pl;obtain ⟨f1, f2, f3⟩ := d.far (w.heap.size + 1) (by omega) (by omega);have h : ∀ (X : World), MAt X p base u1 u2 u3 k → ∀ i v, MAt (X.setCell ⟨w.heap.size + 1, i, none⟩ v) p base u1 u2 u3 k := fun X hX i v => hX.setCell (by omega) f1 f2 f3 i v;exact ⟨u1, u2, u3, rfl, h _ (h _ (h _ d.at_ 0 a) 1 b) 2 c, grow_set (grow_set (grow_set d.gr (by omega) 0 a) (by omega) 1 b) (by omega) 2 c, d.q1, d.q2, d.q3⟩
theorem DAt.bel (d : DAt p base v1 v2 v3 w cs xs W u1 u2 u3 k) (h : MAt w p base v1 v2 v3 m) : Below base w W := h.grow d.gr
end
structure COk (c : Cal) : Prop where
 a : I64 c.a
 b : I64 c.b
 n : c.name.size ≤ maxLen
 d : c.dest.size ≤ maxLen
 t : c.text.size ≤ maxLen
theorem ok_sizes {c : Cal} (h : callOkB c = true) : c.name.size ≤ 20 ∧ c.dest.size ≤ 20 ∧ c.text.size ≤ 64 := by
 unfold callOkB at h;simp only [Bool.and_eq_true, decide_eq_true_eq] at h;omega
end
theorem kind1 {p : Int} {c : Cal} (h : c.kind = 1) : kindP p c = (do let x ← makeP c.name; pure (ansN x)) := by unfold kindP; simp [h]
theorem kind2 {p : Int} {c : Cal} (h : c.kind = 2) : kindP p c = (do let x ← linkP c.name c.dest; pure (ansC x)) := by unfold kindP; simp [h]
theorem kind3 {p : Int} {c : Cal} (h : c.kind = 3) : kindP p c = (do let x ← unlinkP c.name; pure (ansC x)) := by unfold kindP; simp [h]
theorem kind4 {p : Int} {c : Cal} (h : c.kind = 4) : kindP p c = (do let x ← renameP c.name c.dest; pure (ansC x)) := by unfold kindP; simp [h]
theorem kind5 {p : Int} {c : Cal} (h : c.kind = 5) : kindP p c = (do let x ← namesP; pure ⟨0, 0, wordsS x⟩) := by unfold kindP; simp [h]
theorem kind6 {p : Int} {c : Cal} (h : c.kind = 6) : kindP p c = fileP c := by unfold kindP; simp [h]
theorem kind7 {p : Int} {c : Cal} (h : c.kind = 7) : kindP p c = fileP c := by unfold kindP; simp [h]
theorem kind8 {p : Int} {c : Cal} (h : c.kind = 8) : kindP p c = fileP c := by unfold kindP; simp [h]
theorem kind9 {p : Int} {c : Cal} (h : c.kind = 9) : kindP p c = (do let x ← mkPipeP; pure (ansN x)) := by unfold kindP; simp [h]
theorem kind10 {p : Int} {c : Cal} (h : c.kind = 10) : kindP p c = (do let x ← putPipeP c.a c.text; pure (ansC x)) := by unfold kindP; simp [h]
theorem kind11 {p : Int} {c : Cal} (h : c.kind = 11) : kindP p c = (do let x ← takePipeP c.a; pure (ansT x)) := by unfold kindP; simp [h]
theorem kind12 {p : Int} {c : Cal} (h : c.kind = 12) : kindP p c = spawnAllP p := by unfold kindP; simp [h]
theorem kind13 {p : Int} {c : Cal} (h : c.kind = 13) : kindP p c = endAllP p c.a := by unfold kindP; simp [h]
theorem kind14 {p : Int} {c : Cal} (h : c.kind = 14) : kindP p c = (do let x ← reapP p c.a; pure (ansN x)) := by unfold kindP; simp [h]
theorem kind15 {p : Int} {c : Cal} (h : c.kind = 15) : kindP p c = (do let x ← kidsP p; pure ⟨0, 0, wordsS (x.map decS)⟩) := by unfold kindP; simp [h]
theorem kind16 {p : Int} {c : Cal} (h : c.kind = 16) : kindP p c = (do let x ← sendP c.a c.b; pure (ansC x)) := by unfold kindP; simp [h]
theorem kind17 {p : Int} {c : Cal} (h : c.kind = 17) : kindP p c = (do let x ← takeSigP p; pure (ansN x)) := by unfold kindP; simp [h]
theorem kind18 {p : Int} {c : Cal} (h : c.kind = 18) : kindP p c = (do let x ← timerP p c.a; pure (ansC x)) := by unfold kindP; simp [h]
theorem kind19 {p : Int} {c : Cal} (h : c.kind = 19) : kindP p c = (do let x ← tickP c.a; pure (ansN x)) := by unfold kindP; simp [h]
theorem kind20 {p : Int} {c : Cal} (h : c.kind = 20) : kindP p c = (do let x ← storeP p c.a c.text; pure (ansC x)) := by unfold kindP; simp [h]
theorem kind21 {p : Int} {c : Cal} (h : c.kind = 21) : kindP p c = (do let x ← loadP p c.a; pure (ansT x)) := by unfold kindP; simp [h]
theorem kind22 {p : Int} {c : Cal} (h : c.kind = 22) : kindP p c = (do let x ← putOutP c.text; pure (ansC x)) := by unfold kindP; simp [h]
theorem spawn_bounds {m m' : Mch} {p x y : Int} (E : (spawnP p).run m = (m', (x, y))) : 0 ≤ x ∧ x ≤ 999 := by
 unfold spawnP at E;rw [Pg.run_bind] at E;split at E
 ·obtain ⟨_, e2⟩ := Prod.mk.inj E;obtain ⟨e2, _⟩ := Prod.mk.inj e2;omega
 ·simp only [Pg.run_bind, Pg.run_pure] at E;obtain ⟨_, e2⟩ := Prod.mk.inj E;obtain ⟨e2, _⟩ := Prod.mk.inj e2;have h := bumpP_bounds (m := ((numP cProc).run m).1) (m' := ((bumpP cProc).run ((numP cProc).run m).1).1) (k := cProc) (x := ((bumpP cProc).run ((numP cProc).run m).1).2) rfl;rw [e2] at h;exact h
section
open Go.ChangeShapes Go.WideShapes Go.ChangeAt Go.RowKit
attribute [local go_sem ↓] Go.wp_at_zero Go.wp_at_succ
set_option maxRecDepth 100000 in
theorem pTick_c (p base : Nat) (v1 v2 v3 : Value) (m m' : Mch) (x y : Int) (n : Int) (w : World) (h : MAt w p base v1 v2 v3 m) (ho : MOk 200000000000 m) (hn : I64 n) (HT : ∀ W, Below base w W → Tabs W) (E : (tickP n).run m = (m', (x, y))) :
 Calls prog 116 #[.pointer (some ⟨p, 0, none⟩), .int .i64 n] w (MStep p base v1 v2 v3 m' (.tuple #[.int .i64 x, .int .i64 y]) w) := by
 have H := hid9 h;have HTT := hid9 HT;have O0 := hid9 ho;have hnl := hn.lo;have hnh := hn.hi;clear h ho HT hn;unfold tickP at E;by_cases c1 : n < 1
 ·rw [if_pos c1] at E;obtain ⟨e1, e2⟩ := Prod.mk.inj E;obtain ⟨e2, e3⟩ := Prod.mk.inj e2;subst e1 e2 e3;have HEND := hid9 (H.out.step (Below.refl _ _) (.tuple #[.int .i64 0, .int .i64 4]));go_enter func116, ntmps116;go_wp2;go_ret2;exact HEND.out
 rw [if_neg c1, Pg.run_bind] at E;obtain ⟨m1, x1, E1⟩ : ∃ aa bb, (numP cClock).run m = (aa, bb) := ⟨_, _, rfl⟩;have bx1 := numP_bounds E1;have O1 := hid9 ((numP_cost _).okE O0.out E1);rw [E1] at E;simp only at E;have hws : IntKind.i64.wrap (999 - x1) = 999 - x1 := by rw [IntKind.wrap_i64]; omega
 have K1 := hid9 (pNum_c p base v1 v2 v3 m m1 x1 cClock w H.out (O0.out.mono (by omega)) HTT.out E1);by_cases c2 : 999 - x1 < n
 ·rw [if_pos c2] at E;obtain ⟨e1, e2⟩ := Prod.mk.inj E;obtain ⟨e2, e3⟩ := Prod.mk.inj e2;subst e1 e2 e3;clear E1 O1;go_enter func116, ntmps116;go_wp2_with fail;refine K1.out.mono ?_;rintro e w1 ⟨u1, u2, u3, rfl, hm, hg, q1, q2, q3⟩;have HEND := hid9 (MStep.next hg q1 q2 q3 (hm.step (Below.refl _ _) (.tuple #[.int .i64 0, .int .i64 3])));clear hm hg q1 q2 q3 K1;go_wp2;go_ret2;exact HEND.out
 rw [if_neg c2, Pg.run_bind] at E;obtain ⟨cl, hcl⟩ : ∃ cl, x1 + n = cl := ⟨_, rfl⟩;have hcb : 1 ≤ cl ∧ cl ≤ 999 := by omega
 rw [hcl] at E;have hwc : IntKind.i64.wrap (x1 + n) = cl := by rw [IntKind.wrap_i64]; omega
 obtain ⟨m2, u, E2⟩ : ∃ aa bb, (setP cClock cl).run m1 = (aa, bb) := ⟨_, _, rfl⟩;have O2 := hid9 ((setP_cost _ _).okE O1.out E2);rw [E2] at E;simp only at E;rw [Pg.run_bind] at E;obtain ⟨m3, ks, E3⟩ : ∃ aa bb, (underP tHead).run m2 = (aa, bb) := ⟨_, _, rfl⟩;have O3 := hid9 ((underP_cost _).okE O2.out E3);obtain ⟨hsz, hkn⟩ := under_sz O2.out E3;have hpre := under_pre E3;rw [E3] at E;simp only at E;rw [Pg.run_bind] at E;obtain ⟨m4, x4, E4⟩ : ∃ aa bb, (tickL cl ks 0).run m3 = (aa, bb) := ⟨_, _, rfl⟩;rw [E4] at E;obtain ⟨e1, e2⟩ := Prod.mk.inj E;obtain ⟨e2, e3⟩ := Prod.mk.inj e2;subst e1 e2 e3;have HE4 := hid9 E4;have HE3 := hid9 E3;have HE2 := hid9 E2;have HSZ := hid9 hsz;have HPRE := hid9 hpre;have HWC := hid9 hwc;clear E E1 E2 E3 E4 hsz hpre hcl hwc;have hwc2 := HWC.out;go_enter func116, ntmps116;go_wp2_with fail;refine K1.out.mono ?_;rintro e w1 ⟨u1, u2, u3, rfl, hm, hg, q1, q2, q3⟩;have G1 := hid9 (show ∀ m' r e w', MStep p base u1 u2 u3 m' r w1 e w' → MStep p base v1 v2 v3 m' r w e w' from fun _ _ _ _ h => MStep.next hg q1 q2 q3 h);have B1 := hid9 (H.out.grow hg);have M1 := hid9 hm;have K2 := hid9 (pSet_c p base u1 u2 u3 m1 m2 u cClock cl w1 hm (O1.out.mono (by omega)) (by decide) (fun W hW => HTT.out W (B1.out.trans hW)) HE2.out);clear hm hg q1 q2 q3 K1 O1;go_wp2_with fail;refine K2.out.mono ?_;rintro e w2 ⟨s1, s2, s3, rfl, hm, hg, q1, q2, q3⟩;have G2 := hid9 (show ∀ m' r e w', MStep p base s1 s2 s3 m' r w2 e w' → MStep p base v1 v2 v3 m' r w e w' from fun _ _ _ _ h => G1.out _ _ _ _ (MStep.next hg q1 q2 q3 h));have B2 := hid9 (B1.out.trans (M1.out.grow hg));have M2 := hid9 hm;have K3 := hid9 (pUnder_c p base s1 s2 s3 m2 m3 ks tHead w2 hm (O2.out.mono (by omega)) (by decide) HE3.out);clear hm hg q1 q2 q3 K2 G1 M1 B1;go_wp2_with fail;refine K3.out.mono ?_;rintro e w3 ⟨t1, t2, t3, a, c, rfl, hm, hg, q1, q2, q3, hk⟩;have L1 := hid9 (show LAt p base v1 v2 v3 w a ks w3 t1 t2 t3 m3 (200000000000 + 1 + 1 + 1) from ⟨hm, O3.out, hk, fun _ _ _ _ hs => G2.out _ _ _ _ (MStep.next hg q1 q2 q3 hs), B2.out.trans (M2.out.grow hg)⟩);clear hm hg q1 q2 q3 hk K3 G2 M2 B2 O3 O2 HE2 HE3 H O0;go_wp2;go_loopw [7, 27] (fun xv i wr => ∃ k : Nat, k ≤ ks.length ∧ i = .int .i64 k ∧ ∃ xn : Int, xv = .int .i64 xn ∧ 0 ≤ xn ∧ xn ≤ k ∧ Hid (∃ y1 y2 y3 mk, LAt p base v1 v2 v3 w a ks wr y1 y2 y3 mk (200000000003 + 7 * k) ∧ (tickL cl (ks.drop k) xn).run mk = (m4, x4))) (fun _ i _ => ks.length - (intOf i).toNat)
 case atStart => exact ⟨0, Nat.zero_le _, rfl, 0, rfl, by omega, by omega, hid9 ⟨_, _, _, _, L1.out, HE4.out⟩⟩
 case round =>
  obtain ⟨k, hk, rfl, xn, rfl, hx0, hxk, HI⟩ := hrel;obtain ⟨y1, y2, y3, mk, hl, hr⟩ := HI.out;have HL := hid9 hl;have HR := hid9 hr;clear HI hl hr L1 HE4;by_cases hlt : k < ks.length
  ·obtain ⟨y, hy⟩ := some_of_lt hlt;obtain ⟨b, off, hab, c0⟩ := readFS HL.out.keys.rd (Below.refl _ _) hy;subst hab;have p1 : (0 : Int) ≤ (k : Int) := by omega
   have p2 : (k : Int) < (ks.length : Int) := by omega
   have hys := HSZ.out y (List.mem_of_getElem? hy);have hyp : 2 ≤ y.size := begins_size (HPRE.out y (List.mem_of_getElem? hy));have hr := HR.out;rw [drop_cons hy] at hr;unfold tickL at hr;rw [Pg.run_bind] at hr;obtain ⟨n1, z1, F1⟩ : ∃ aa bb, (numP y).run mk = (aa, bb) := ⟨_, _, rfl⟩;have bz1 := numP_bounds F1;have P1 := hid9 ((numP_cost _).okE HL.out.ok F1);have Q1 := hid9 (pNum_c p base y1 y2 y3 mk n1 z1 y wr HL.out.at_ (HL.out.ok.mono (by omega)) (fun W hW => HTT.out W (HL.out.bel.trans hW)) F1);rw [F1] at hr;simp only at hr;clear HR hy F1;by_cases d1 : cl < z1
   ·rw [if_pos d1] at hr;have HR2 := hid9 hr;clear hr;go_wp2_with fail;refine Q1.out.mono ?_;rintro e w4 ⟨r1, r2, r3, rfl, hm, hg, q1, q2, q3⟩;have L2 := hid9 (HL.out.next hm hg q1 q2 q3 P1.out);clear hm hg q1 q2 q3 Q1 P1 HL;go_wp2;go_roundw
    case rel => exact ⟨k + 1, by omega, by go_num, xn, rfl, hx0, by omega, hid9 ⟨_, _, _, _, L2.out.mono (by omega), HR2.out⟩⟩
    case measure => simp [intOf]; omega
   ·rw [if_neg d1, Pg.run_bind] at hr;obtain ⟨n2, z2, F2⟩ : ∃ aa bb, (layP y noB).run n1 = (aa, bb) := ⟨_, _, rfl⟩;have P2 := hid9 ((layP_cost _ _).okE P1.out F2);rw [F2] at hr;simp only at hr;rw [Pg.run_bind] at hr;have hdn := numOf_bounds (drop2 y);have hdz : (drop2 y).size ≤ 1048576 := by unfold drop2; rw [ByteArray.size_extract]; omega
    have KN := hid9 (fun W (h : Tabs W) => implNumOf_c (drop2 y) W (by omega) h.1 h.2.1);have HD2 := hid9 (show y.extract 2 y.size = drop2 y from rfl);obtain ⟨dv, hdv⟩ : ∃ dv, numOfV (drop2 y) = dv := ⟨_, rfl⟩;rw [hdv] at hr KN hdn;obtain ⟨n3, z3, F3⟩ : ∃ aa bb, (sendP dv 14).run n2 = (aa, bb) := ⟨_, _, rfl⟩;have P3 := hid9 ((sendP_cost _ _).okE P2.out F3);rw [F3] at hr;have HR2 := hid9 hr;have HF2 := hid9 F2;have HF3 := hid9 F3;have hi : I64 dv := i64_of hdn;have hwx : IntKind.i64.wrap (xn + 1) = xn + 1 := by rw [IntKind.wrap_i64]; omega
    clear hr F2 F3 hdv hdz hdn;go_wp2_with fail;refine Q1.out.mono ?_;rintro e w4 ⟨r1, r2, r3, rfl, hm, hg, q1, q2, q3⟩;have L2 := hid9 (HL.out.next hm hg q1 q2 q3 P1.out);have Q2 := hid9 (pLay_c p base r1 r2 r3 n1 n2 z2 y noB w4 hm (P1.out.mono (by omega)) (by unfold maxLen; omega) (by decide) HF2.out);clear hm hg q1 q2 q3 Q1 P1 HL;go_wp2_with fail;refine Q2.out.mono ?_;rintro e w5 ⟨j1, j2, j3, rfl, hm, hg, q1, q2, q3⟩;have L3 := hid9 (L2.out.next hm hg q1 q2 q3 P2.out);clear hm hg q1 q2 q3 Q2 L2;go_wp2_with fail;refine (KN.out _ (HTT.out _ L3.out.bel)).mono ?_;rintro e w6 ⟨rfl, hb6⟩;have L4 := hid9 (L3.out.below hb6);have Q3 := hid9 (pSend_c p base j1 j2 j3 n2 n3 z3 dv 14 w6 L4.out.at_ (P2.out.mono (by omega)) hi (fun W hW => HTT.out W (L4.out.bel.trans hW)) HF3.out);clear hb6 L3 KN P2;go_wp2_with fail;refine Q3.out.mono ?_;rintro e w7 ⟨i1, i2, i3, rfl, hm, hg, q1, q2, q3⟩;have L5 := hid9 (L4.out.next hm hg q1 q2 q3 P3.out);clear hm hg q1 q2 q3 Q3 L4 P3;go_wp2;go_roundw
    case rel => exact ⟨k + 1, by omega, by go_num, xn + 1, rfl, by omega, by omega, hid9 ⟨_, _, _, _, L5.out.mono (by omega), HR2.out⟩⟩
    case measure => simp [intOf]; omega
  ·obtain rfl : k = ks.length := by omega
   have p2 : ¬ ((ks.length : Nat) : Int) < (ks.length : Int) := by omega
   have HEND := hid9 (show MStep p base v1 v2 v3 m4 (.tuple #[.int .i64 x4, .int .i64 0]) w (.returned (.tuple #[.int .i64 xn, .int .i64 0])) wr from by
    have h := HR.out;rw [List.drop_length] at h;obtain ⟨e1, e2⟩ := Prod.mk.inj (show (mk, xn) = (m4, x4) from h);subst e1 e2;exact HL.out.back _ _ _ _ (HL.out.at_.step (Below.refl _ _) _))
   clear HR HL;go_wp2;go_ret2;exact HEND.out
end
section
open Go.ChangeShapes Go.WideShapes Go.ChangeAt Go.RowKit Go.Deep
attribute [local go_sem ↓] Go.wp_at_zero Go.wp_at_succ
def encU (x : Int) : List Value := [.int .u8 x]
def okU (x : Int) : Prop := 0 ≤ x ∧ x ≤ 255
def IsRow (k : IntKind) (w : World) (a : Option Addr) (len cap : Nat) (z : List Int) : Prop := k = .u8 ∧ z.length = len ∧ len ≤ maxLen ∧ Reads w a 1 encU z ∧ ∀ x ∈ z, okU x
theorem isRow_of {H : Type} {enc : TypeId × Value → H} {P : Program} {w : World} {base : Nat} {spare : Nat → Bool} {held : Bool} {t e : TypeId} {a : Option Addr} {len cap : Nat} {d : DataW H} {ps : List MemPlace}
 (ht : P.underlying t = some (.slice e)) (he : P.underlying e = some (.int .u8)) (hC : P.cellsOf e = 1) (h : DataW.Trod enc P w base spare held t (.slice a len cap) d ps) : ∃ z, IsRow .u8 w a len cap z := by
 obtain ⟨hl, xs, hx, hr, ho⟩ := open_rows (w := w) encU okU 1 ht hC (by decide) (fun n cs y _ h => by
  obtain ⟨m, e1, _, hm⟩ := DataW.trod_int he h;refine ⟨m, e1, ?_⟩;simpa [okU, Lit.wf, IntKind.min, IntKind.max, IntKind.signed, IntKind.bits] using hm) h
 exact ⟨xs, rfl, hx, hl, hr, ho⟩
theorem i64_and255 (n : Int) : 0 ≤ bits .and .i64 n 255 ∧ bits .and .i64 n 255 ≤ 255 := by
 have h : (BitVec.ofInt 64 n &&& 255#64).toNat ≤ 255 := by
  rw [BitVec.toNat_and];exact Nat.le_trans Nat.and_le_right (by decide)
 show 0 ≤ IntKind.i64.wrap ((BitVec.ofInt 64 n &&& BitVec.ofInt 64 255).toNat : Int) ∧ IntKind.i64.wrap ((BitVec.ofInt 64 n &&& BitVec.ofInt 64 255).toNat : Int) ≤ 255;rw [show BitVec.ofInt 64 255 = 255#64 from rfl];generalize (BitVec.ofInt 64 n &&& 255#64).toNat = x at *;rw [IntKind.wrap_i64]; omega
def Cur (w0 w : World) (c : Nat) : Prop :=
 ∃ a len cap z i h, IsRow .u8 w0 a len cap z ∧ w0.heap.size ≤ c ∧ Below w0.heap.size w0 w ∧ i ≤ len ∧ w.heap[c]? = some (.cells #[.slice a len cap, .int .i64 ((i : Nat) : Int), .int .i64 h] 127 (0, 0))
theorem Cur.lt {w0 w : World} {c : Nat} (h : Cur w0 w c) : c < w.heap.size := by
 obtain ⟨_, _, _, _, _, _, _, _, _, _, h⟩ := h;exact (Array.getElem?_eq_some_iff.1 h).1
theorem Cur.ge {w0 w : World} {c : Nat} (h : Cur w0 w c) : w0.heap.size ≤ c := by
 obtain ⟨_, _, _, _, _, _, _, h, _⟩ := h;exact h
theorem Cur.base {w0 w : World} {c : Nat} (h : Cur w0 w c) : Below w0.heap.size w0 w := by
 obtain ⟨_, _, _, _, _, _, _, _, h, _⟩ := h;exact h
theorem Cur.below {w0 w w' : World} {c : Nat} (h : Cur w0 w c) (hb : Below w.heap.size w w') : Cur w0 w' c := by
 have hlt := h.lt;obtain ⟨a, len, cap, z, i, x, h1, h2, h3, h4, h5⟩ := h;exact ⟨a, len, cap, z, i, x, h1, h2, h3.trans (hb.mono h3.size), h4, (hb.block c hlt).trans h5⟩
def Drawn (w0 : World) (c : Nat) (P : Value → World → Prop) (w : World) (e : Ending) (w' : World) : Prop :=
 ∃ v, e = .returned v ∧ P v w' ∧ Cur w0 w' c ∧ w.grownBy w' (some c)
theorem grownBy_below2 {w W w' : World} {r : Option Nat} (h : w.grownBy W r) (hb : Below W.heap.size W w') : w.grownBy w' r := grownBy_trans h (grownBy_of_below hb r)
theorem Drawn.from {w0 w W w' : World} {c : Nat} {P : Value → World → Prop} {e : Ending} (hg : w.grownBy W (some c)) (h : Drawn w0 c P W e w') : Drawn w0 c P w e w' := by
 obtain ⟨v, rfl, h1, h2, h3⟩ := h;exact ⟨v, rfl, h1, h2, grownBy_trans hg h3⟩
def IsInt (lo hi : Int) (v : Value) (_ : World) : Prop := ∃ n : Int, v = .int .i64 n ∧ lo ≤ n ∧ n ≤ hi
def CurIs (w : World) (c : Nat) (a : Option Addr) (len cap i : Nat) (h : Int) : Prop := w.heap[c]? = some (.cells #[.slice a len cap, .int .i64 ((i : Nat) : Int), .int .i64 h] 127 (0, 0))
theorem CurIs.c0 {w : World} {c : Nat} {a : Option Addr} {len cap i : Nat} {h : Int} (k : CurIs w c a len cap i h) : w.cell? ⟨c, 0, none⟩ = some (.slice a len cap) := cell_of_row w c 0 _ _ _ k
theorem CurIs.c1 {w : World} {c : Nat} {a : Option Addr} {len cap i : Nat} {h : Int} (k : CurIs w c a len cap i h) : w.cell? ⟨c, 1, none⟩ = some (.int .i64 ((i : Nat) : Int)) := cell_of_row w c 1 _ _ _ k
theorem CurIs.c2 {w : World} {c : Nat} {a : Option Addr} {len cap i : Nat} {h : Int} (k : CurIs w c a len cap i h) : w.cell? ⟨c, 2, none⟩ = some (.int .i64 h) := cell_of_row w c 2 _ _ _ k
theorem CurIs.free {w : World} {c : Nat} {a : Option Addr} {len cap i : Nat} {h : Int} (k : CurIs w c a len cap i h) (j : Nat) : w.frozen? ⟨c, j, none⟩ = false := frozen_of_row w c j _ _ k
theorem CurIs.setH {w : World} {c : Nat} {a : Option Addr} {len cap i : Nat} {h h2 : Int} (k : CurIs w c a len cap i h) : CurIs (w.setCell ⟨c, 2, none⟩ (.int .i64 h2)) c a len cap i h2 := heap_setCell_same w c 2 _ _ _ k
theorem CurIs.setI {w : World} {c : Nat} {a : Option Addr} {len cap i i2 : Nat} {h x : Int} (k : CurIs w c a len cap i h) (hx : x = ((i2 : Nat) : Int)) : CurIs (w.setCell ⟨c, 1, none⟩ (.int .i64 x)) c a len cap i2 h := by
 subst hx; exact heap_setCell_same w c 1 _ _ _ k
set_option maxRecDepth 100000 in
theorem byte_c (w0 w : World) (c : Nat) (hc : Cur w0 w c) :
 Calls prog 94 #[.pointer (some ⟨c, 0, none⟩)] w (Drawn w0 c (IsInt 0 255) w) := by
 obtain ⟨a, len, cap, z, i, h, hz, hge, hb, hi, hblk⟩ := hc;have HZ := hid9 hz;have HB := hid9 hb;have HC := hid9 (show CurIs w c a len cap i h from hblk);have hlm := hz.2.2.1;have e0 := HC.out.c0;have e1 := HC.out.c1;have e2 := HC.out.c2;have f1 := HC.out.free 1;have f2 := HC.out.free 2;clear hblk hb hz;unfold maxLen at hlm;have hi0 : (0 : Int) ≤ (i : Int) := by omega
 have HEND := hid9 (fun (w' : World) (i2 : Nat) (h2 n : Int) (k1 : CurIs w' c a len cap i2 h2) (k2 : i2 ≤ len) (k3 : w.grownBy w' (some c)) (k4 : 0 ≤ n ∧ n ≤ 255) =>
  (show Drawn w0 c (IsInt 0 255) w (.returned (.int .i64 n)) w' from ⟨_, rfl, ⟨n, rfl, k4.1, k4.2⟩, ⟨a, len, cap, z, i2, h2, HZ.out, hge, HB.out.trans (below_of_grown k3 hge HB.out.size), k2, k1⟩, k3⟩))
 go_enter func94, ntmps94;go_wp2_with fail;obtain ⟨h2, hh2⟩ : ∃ h2, wrap64 (wrap64 (h * 6364136223846793005) + 1442695040888963407) = h2 := ⟨_, rfl⟩;rw [hh2];clear hh2;have HC1 := hid9 (HC.out.setH (h2 := h2));have HG1 := hid9 (grownBy_setCell w c 2 (.int .i64 h2));generalize w.setCell ⟨c, 2, none⟩ (.int .i64 h2) = W at *;clear e0 e1 e2 f1 f2;have e0 := HC1.out.c0;have e1 := HC1.out.c1;have e2 := HC1.out.c2;have f1 := HC1.out.free 1;rcases Nat.lt_or_ge i len with hil | hil
 ·have p1 : (i : Int) < (len : Int) := by omega
  obtain ⟨_, hzl, _, hzr, hzo⟩ := HZ.out;obtain ⟨x, hx⟩ := some_of_lt (xs := z) (k := i) (by omega);have hxo := hzo x (List.mem_of_getElem? hx);obtain ⟨b, off, hab, hbl, ha⟩ : ∃ b off, a = some ⟨b, off, none⟩ ∧ b < w0.heap.size ∧ w0.cell? ⟨b, off + i, none⟩ = some (.int .u8 x) := by
   rcases hzr with rfl | ⟨b, off, h1, h2, h3⟩
   ·simp at hx
   ·exact ⟨b, off, h1, h2, by simpa using h3 i x hx 0 _ rfl⟩
  subst hab;have hax : W.cell? ⟨b, off + i, none⟩ = some (.int .u8 x) := (World.cell?_of_block ((below_of_grown HG1.out hge HB.out.size).block b hbl)).trans ((HB.out.cell (p := ⟨b, off + i, none⟩) hbl).trans ha);have x0 := hxo.1;have x1 := hxo.2;clear hzl hzr hzo hx hxo ha;go_quiet (fail);go_wp2_with fail;go_quiet (fail);go_wp2_with fail;go_quiet (fail);go_wp2;go_ret;exact HEND.out _ (i + 1) h2 _ (HC1.out.setI (by omega)) (by omega) (grownBy_trans HG1.out (grownBy_trans (grownBy_of_below (below_drewN (Below.refl _ _) _) _) (grownBy_setCell _ c 1 _))) (i64_and255 _)
 ·have p1 : ¬ (i : Int) < (len : Int) := by omega
  go_quiet (fail);go_wp2_with fail;go_quiet (fail);go_wp2;go_ret;exact HEND.out _ i h2 _ HC1.out hi (grownBy_trans HG1.out (grownBy_of_below (below_drewN (below_drewN (Below.refl _ _) _) _) _)) (i64_and255 _)
def IsBelow (n : Int) (v : Value) (_ : World) : Prop := ∃ m : Int, v = .int .i64 m ∧ 0 ≤ m ∧ (0 < n → m < n) ∧ (n ≤ 0 → m = 0)
theorem below_c (w0 w : World) (c : Nat) (n : Int) (hc : Cur w0 w c) (hn : n ≤ 9223372036854775807) :
 Calls prog 58 #[.pointer (some ⟨c, 0, none⟩), .int .i64 n] w (Drawn w0 c (IsBelow n) w) := by
 have HC := hid9 hc;clear hc;by_cases h0 : n ≤ 0
 ·have HEND := hid9 (show Drawn w0 c (IsBelow n) w (.returned (.int .i64 0)) w from ⟨_, rfl, ⟨0, rfl, Int.le_refl _, fun h => by omega, fun _ => rfl⟩, HC.out, grownBy_refl _ _⟩);go_enter func58, ntmps58;go_wp2;go_ret;exact HEND.out
 ·have hp : 0 < n := by omega
  by_cases h256 : n ≤ 256
  ·have K := hid9 (byte_c w0 w c HC.out);go_enter func58, ntmps58;go_wp2_with fail;refine K.out.mono ?_;rintro e w1 ⟨v, rfl, ⟨x, rfl, x0, x1⟩, hc1, hg1⟩;obtain ⟨y, hy⟩ : ∃ y, x % n = y := ⟨_, rfl⟩;have hy0 : 0 ≤ y := by rw [← hy]; exact Int.emod_nonneg _ (by omega)
   have hy1 : y < n := by rw [← hy]; exact Int.emod_lt_of_pos _ hp
   have hm : x.tmod n = y := by rw [← hy, Int.tmod_eq_emod_of_nonneg x0]
   have HEND := hid9 (show Drawn w0 c (IsBelow n) w (.returned (.int .i64 y)) w1 from ⟨_, rfl, ⟨y, rfl, hy0, fun _ => hy1, fun h => by omega⟩, hc1, hg1⟩);clear hc1 hg1;go_wp2;go_ret;exact HEND.out
  ·have K := hid9 (fun W (h : Cur w0 W c) => byte_c w0 W c h);go_enter func58, ntmps58;go_wp2_with fail;refine (K.out _ HC.out).mono ?_;rintro e w1 ⟨v, rfl, ⟨x, rfl, x0, x1⟩, hc1, hg1⟩;have HC1 := hid9 hc1;have HG1 := hid9 hg1;clear hc1 hg1;go_wp2_with fail;refine (K.out _ HC1.out).mono ?_;rintro e w2 ⟨v, rfl, ⟨y, rfl, y0, y1⟩, hc2, hg2⟩;have HC2 := hid9 hc2;have HG2 := hid9 (grownBy_trans HG1.out hg2);clear hc2 hg2;go_wp2_with fail;refine (K.out _ HC2.out).mono ?_;rintro e w3 ⟨v, rfl, ⟨z, rfl, z0, z1⟩, hc3, hg3⟩;have HC3 := hid9 hc3;have HG3 := hid9 (grownBy_trans HG2.out hg3);clear hc3 hg3;go_wp2_with fail;refine (K.out _ HC3.out).mono ?_;rintro e w4 ⟨v, rfl, ⟨t, rfl, t0, t1⟩, hc4, hg4⟩;have HC4 := hid9 hc4;have HG4 := hid9 (grownBy_trans HG3.out hg4);clear hc4 hg4;obtain ⟨s, hs⟩ : ∃ s, x * 16777216 + y * 65536 + z * 256 + t = s := ⟨_, rfl⟩;have hs0 : 0 ≤ s := by omega
   obtain ⟨r, hr⟩ : ∃ r, s % n = r := ⟨_, rfl⟩;have hr0 : 0 ≤ r := by rw [← hr]; exact Int.emod_nonneg _ (by omega)
   have hr1 : r < n := by rw [← hr]; exact Int.emod_lt_of_pos _ hp
   have hm : s.tmod n = r := by rw [← hr, Int.tmod_eq_emod_of_nonneg hs0]
   have HEND := hid9 (show Drawn w0 c (IsBelow n) w (.returned (.int .i64 r)) w4 from ⟨_, rfl, ⟨r, rfl, hr0, fun _ => hr1, fun h => by omega⟩, HC4.out, HG4.out⟩);go_wp2;go_ret;exact HEND.out
def IsBool (v : Value) (_ : World) : Prop := ∃ b : Bool, v = .bool b
theorem once_c (w0 w : World) (c : Nat) (n : Int) (hc : Cur w0 w c) (hn : n ≤ 9223372036854775807) :
 Calls prog 63 #[.pointer (some ⟨c, 0, none⟩), .int .i64 n] w (Drawn w0 c IsBool w) := by
 have K := hid9 (below_c w0 w c n hc hn);clear hc;go_enter func63, ntmps63;go_wp2_with fail;refine K.out.mono ?_;rintro e w1 ⟨v, rfl, ⟨x, rfl, _, _, _⟩, hc1, hg1⟩;have HEND := hid9 (fun b => (show Drawn w0 c IsBool w (.returned (.bool b)) w1 from ⟨_, rfl, ⟨b, rfl⟩, hc1, hg1⟩));clear hc1 hg1;go_wp2;go_ret;exact HEND.out _
def IsOneOf (xs : List ByteArray) (v : Value) (_ : World) : Prop := ∃ s, v = .string s ∧ s ∈ xs
theorem pick_c (w0 w : World) (c : Nat) (a : Option Addr) (cap : Nat) (xs : List ByteArray) (hc : Cur w0 w c) (hlen : 0 < xs.length) (hl2 : xs.length ≤ maxLen) (hr : Reads w a 1 encS xs) (hne : ∀ b off, a = some ⟨b, off, none⟩ → b ≠ c) :
 Calls prog 65 #[.pointer (some ⟨c, 0, none⟩), .slice a xs.length cap] w (Drawn w0 c (IsOneOf xs) w) := by
 unfold maxLen at hl2;have K := hid9 (below_c w0 w c (xs.length : Int) hc (by omega));have HR := hid9 hr;have HN := hid9 hne;clear hc hr hne;go_enter func65, ntmps65;go_wp2_with fail;refine K.out.mono ?_;rintro e w1 ⟨v, rfl, ⟨x, rfl, x0, x1, _⟩, hc1, hg1⟩;have hx1 := x1 (by omega);obtain ⟨k, rfl⟩ : ∃ k : Nat, x = (k : Int) := ⟨x.toNat, by omega⟩;obtain ⟨y, hy⟩ := some_of_lt (xs := xs) (k := k) (by omega);obtain ⟨b, off, hab, c0⟩ := readFS HR.out (Below.refl _ _) hy;have hbn := HN.out b off hab;have c1 : w1.cell? ⟨b, off + k, none⟩ = some (.string y) := (World.cell?_of_block (hg1.block b (World.block_lt_of_cell? w _ c0) (fun e => hbn (by cases e; rfl)))).trans c0;subst hab;have HEND := hid9 (show Drawn w0 c (IsOneOf xs) w (.returned (.string y)) w1 from ⟨_, rfl, ⟨y, rfl, List.mem_of_getElem? hy⟩, hc1, hg1⟩);clear hc1 hg1 hy c0 x1;go_wp2;go_ret;exact HEND.out
end
section
open Go.ChangeShapes Go.WideShapes Go.ChangeAt Go.RowKit
attribute [local go_sem ↓] Go.wp_at_zero Go.wp_at_succ
def Begun (w : World) (e : Ending) (w' : World) : Prop := ∃ c, e = .returned (.pointer (some ⟨c, 0, none⟩)) ∧ Cur w w' c
set_option maxRecDepth 100000 in
theorem new_c (a : Option Addr) (len cap : Nat) (z : List Int) (w : World) (hz : IsRow .u8 w a len cap z) :
 Calls prog 57 #[.slice a len cap] w (Begun w) := by
 have HZ := hid9 hz;have hlm := hz.2.2.1;unfold maxLen at hlm;have HEND := hid9 (fun (h : Int) => (show Begun w (.returned (.pointer (some ⟨w.heap.size, 0, none⟩))) (w.alloc (.cells #[.slice a len cap, .int .i64 0, .int .i64 h] 127)) from
  ⟨w.heap.size, rfl, a, len, cap, z, 0, h, HZ.out, Nat.le_refl _, bel9, Nat.zero_le _, heap_alloc_new w _⟩))
 clear hz;go_enter func57, ntmps57;go_wp2;go_loop [3, 4] (fun h i => ∃ (hh : Int) (k : Nat), h = .int .i64 hh ∧ i = .int .i64 k ∧ k ≤ len) (fun _ i => len - (intOf i).toNat)
 case atStart => exact ⟨_, 0, rfl, rfl, Nat.zero_le _⟩
 case round =>
  obtain ⟨hh, k, rfl, rfl, hk⟩ := hrel;have p0 : (0 : Int) ≤ (k : Int) := by omega
  by_cases hlt : k < len
  ·have p1 : (k : Int) < (len : Int) := by omega
   by_cases h4 : (k : Int) < 4000
   ·obtain ⟨_, hzl, _, hzr, hzo⟩ := HZ.out;obtain ⟨x, hx⟩ := some_of_lt (xs := z) (k := k) (by omega);have hxo := hzo x (List.mem_of_getElem? hx);obtain ⟨b, off, hab, ha⟩ : ∃ b off, a = some ⟨b, off, none⟩ ∧ w.cell? ⟨b, off + k, none⟩ = some (.int .u8 x) := by
     rcases hzr with rfl | ⟨b, off, h1, h2, h3⟩
     ·simp at hx
     ·exact ⟨b, off, h1, by simpa using h3 k x hx 0 _ rfl⟩
    subst hab;have x0 := hxo.1;have x1 := hxo.2;clear hzl hzr hzo hx hxo;go_wp2;go_round
    case rel => exact ⟨_, k + 1, rfl, by go_num, by omega⟩
    case measure => simp [intOf]; omega
   ·go_wp2;go_ret;exact HEND.out _
  ·have p1 : ¬ (k : Int) < (len : Int) := by omega
   go_wp2;go_ret;exact HEND.out _
def IsText (n : Nat) (v : Value) (_ : World) : Prop := ∃ s : ByteArray, v = .string s ∧ s.size ≤ n
theorem reads_new (w : World) (xs : List ByteArray) (T : TypeId) : Reads (w.alloc (.cells (xs.flatMap encS).toArray T)) (some ⟨w.heap.size, 0, none⟩) 1 encS xs :=
 .inr ⟨w.heap.size, 0, rfl, by simp, fun i x hx j v hv => by
  have hj : j = 0 := by
   have := (List.getElem?_eq_some_iff.1 hv).1;simp [encS] at this; omega
  subst hj;have h := getElem_flatMap encS_len xs i 0 x hx (by decide);rw [Nat.zero_add];exact (Box.new w (xs.flatMap encS) T).cell _ v (h.trans hv)⟩
theorem pickNew_c (w0 w : World) (c : Nat) (xs : List ByteArray) (T : TypeId) (n : Nat) (hn : n = xs.length) (hc : Cur w0 w c) (hlen : 0 < xs.length) (hl2 : xs.length ≤ maxLen) :
 Calls prog 65 #[.pointer (some ⟨c, 0, none⟩), .slice (some ⟨w.heap.size, 0, none⟩) n n] (w.alloc (.cells (xs.flatMap encS).toArray T)) (Drawn w0 c (IsOneOf xs) w) := by
 subst hn;refine (pick_c w0 _ c _ _ xs (hc.below ((Below.refl _ _).alloc (Nat.le_refl _) _)) hlen hl2 (reads_new w xs T) (fun b off e => ?_)).mono fun e w' h => Drawn.from (grownBy_of_below ((Below.refl _ _).alloc (Nat.le_refl _) _) _) h;cases e;have := hc.lt;omega
theorem own_far {w w' : World} {base T K n c : Nat} {v : Value} {cells : List Value} (h : w.ownsRow base T K v n cells) (hg : w.grownBy w' (some c)) (hc : c < base) : w'.ownsRow base T K v n cells :=
 h.kept hg (by
  cases hv : v.ownBlock with
  | none => simp
  | some b => have := (h.lt b hv).1; simp; omega)
theorem grown_own {w W w' : World} {T K n c : Nat} {v : Value} {cells : List Value} (h1 : w.grownBy W (some c)) (ho : W.ownsRow w.heap.size T K v n cells) (h2 : W.grownBy w' v.ownBlock) : w.grownBy w' (some c) :=
 ⟨h2.os.trans h1.os, h2.tape.trans h1.tape, h2.output.trans h1.output, Nat.le_trans h1.size h2.size, fun k hk hne =>
  (h2.block k (Nat.lt_of_lt_of_le hk h1.size) (fun e => by have := (ho.lt k e.symm).1; omega)).trans (h1.block k hk hne)⟩
theorem Cur.own {w0 w w' : World} {T K n c base : Nat} {v : Value} {cells : List Value} (h : Cur w0 w c) (ho : w.ownsRow base T K v n cells) (hb : c < base) (hg : w.grownBy w' v.ownBlock) : Cur w0 w' c := by
 have hlt := h.lt;have hge := h.ge;obtain ⟨a, len, cap, z, i, x, h1, h2, h3, h4, h5⟩ := h;refine ⟨a, len, cap, z, i, x, h1, h2, ⟨hg.os.trans h3.os, hg.tape.trans h3.tape, hg.output.trans h3.output, Nat.le_trans h3.size hg.size, fun k hk => ?_⟩, h4, (hg.block c hlt (fun e => by have := (ho.lt c e.symm).1; omega)).trans h5⟩;exact (hg.block k (Nat.lt_of_lt_of_le hk h3.size) (fun e => by have := (ho.lt k e.symm).1; omega)).trans (h3.block k hk)
theorem own_empty (W : World) (T K : Nat) : (W.alloc (.cells #[] T)).ownsRow W.heap.size T K (.slice (some ⟨W.heap.size, 0, none⟩) 0 0) 0 [] :=
 ⟨by simp, .inr ⟨W.heap.size, 0, #[], rfl, Nat.le_refl _, heap_alloc_new W _, Nat.le_refl _, Nat.zero_le _, by simp, by simp⟩⟩
set_option maxRecDepth 100000 in
theorem text_c (w0 w : World) (c : Nat) (n : Int) (hc : Cur w0 w c) (hn : n ≤ 5000) :
 Calls prog 146 #[.pointer (some ⟨c, 0, none⟩), .int .i64 n] w (Drawn w0 c (IsText n.toNat) w) := by
 obtain ⟨i0, hi, hzz⟩ := Option.map_eq_some_iff.1 infoByte;simp only [Prod.mk.injEq] at hzz;have HI := hid9 hi;have HZ := hid9 hzz;have hcl := hc.lt;have HC := hid9 hc;have HE0 := hid9 (own_empty w 5 1);clear hi hzz hc;have p5 : ¬ (5000 : Int) < n := by omega
 go_enter func146, ntmps146;go_wp2;go_loopw [5, 6] (fun v i wr => ∃ (k : Nat) (E : List UInt8), i = .int .i64 k ∧ k ≤ n.toNat ∧ E.length = k ∧ Hid (wr.ownsRow w.heap.size 5 1 v k (E.flatMap encB)) ∧ Hid (Cur w0 wr c) ∧ Hid (w.grownBy wr (some c))) (fun _ i _ => n.toNat - (intOf i).toNat)
 case atStart => exact ⟨0, [], rfl, Nat.zero_le _, rfl, HE0, hid9 (HC.out.below bel9), hid9 (grownBy_of_below bel9 _)⟩
 case round =>
  obtain ⟨k, E, rfl, hk, hE, HW, HCr, HG⟩ := hrel;have HEL := hid9 hE;have p0 : (0 : Int) ≤ (k : Int) := by omega
  by_cases hlt : (k : Int) < n
  ·have K := hid9 (byte_c w0 wr c HCr.out);clear hE;go_wp2_with fail;refine K.out.mono ?_;rintro e w1 ⟨v, rfl, ⟨x, rfl, x0, x1⟩, hc1, hg1⟩;have HC1 := hid9 hc1;have HG1 := hid9 (grownBy_trans HG.out hg1);have HW1 := hid9 (own_far HW.out hg1 hcl);obtain ⟨ch, hch⟩ : ∃ ch, UInt8.ofNat x.toNat = ch := ⟨_, rfl⟩;have HCH := hid9 (show encB ch = [.int .u8 x] by
    unfold encB;rw [← hch, UInt8.toNat_ofNat', Nat.mod_eq_of_lt (by omega)];congr 2;omega)
   have hs1 : w.heap.size ≤ w1.heap.size := HG1.out.size;clear hc1 hg1 hch HW HG HCr;go_wp2_with (at_builtin; refine wpList_append_own2 _ rfl _ _ 22 rfl w.heap.size 5 i0 _ 1 1 underlying22 HI.out HZ.out.1 HZ.out.2.1 HZ.out.2.2 rfl (by decide) _ _ _ rfl (HW1.out.alloc _) ⟨w1.heap.size, 0, none⟩ 1 1 [.int .u8 x] rfl rfl (box_news (Box.new _ _ _)) (by intro u hu; simp at hu; subst hu; rfl) (by unfold maxLen; omega) (by omega) (by simp; omega) ?_);intro v' w' o2 g2 or2;have HG2 := hid9 (grown_own (grownBy_below2 HG1.out (show Below w1.heap.size w1 (w1.alloc (.cells #[.int .u8 x] 5)) from bel9)) (HW1.out.alloc _) g2);have HC2 := hid9 (Cur.own (HC1.out.below (show Below w1.heap.size w1 (w1.alloc (.cells #[.int .u8 x] 5)) from bel9)) (HW1.out.alloc _) hcl g2);have HW2 := hid9 (show w'.ownsRow w.heap.size 5 1 v' (k + 1) ((E ++ [ch]).flatMap encB) from by
    rw [List.flatMap_append, List.flatMap_cons, List.flatMap_nil, List.append_nil, HCH.out]; exact o2)
   have HL2 := hid9 (show (E ++ [ch]).length = k + 1 from by rw [List.length_append, HEL.out]; rfl);clear o2 g2 or2 HW1 HC1 HG1;go_wp2;go_roundw
   case rel => exact ⟨k + 1, E ++ [ch], by go_num, by omega, HL2.out, HW2, HC2, HG2⟩
   case measure => simp [intOf]; omega
  ·have hcv := convB wr w.heap.size 5 u5 E k hE.symm HW.out;have HEND := hid9 (show Drawn w0 c (IsText n.toNat) w (.returned (.string ⟨E.toArray⟩)) wr from ⟨_, rfl, ⟨_, rfl, by show E.toArray.size ≤ _; rw [List.size_toArray, hE]; exact hk⟩, HCr.out, HG.out⟩);clear hE HW HCr HG;go_wp2;go_ret;exact HEND.out
theorem rep_flat (n : Nat) (x : UInt8) : (List.replicate n x).flatMap encB = List.replicate n (.int .u8 (x.toNat : Int)) := by
 induction n with
 | zero => rfl
 | succ n ih => rw [List.replicate_succ, List.flatMap_cons, ih]; rfl
theorem long_c (n : Nat) (x : UInt8) (w : World) (hn : n ≤ 100000) :
 Calls prog 126 #[.int .i64 (n : Int), .int .u8 (x.toNat : Int)] w fun e w' => e = .returned (.string ⟨(List.replicate n x).toArray⟩) ∧ Below w.heap.size w w' := by
 have hmk := make_eq (P := prog) 22 5 1 1 _ underlying22 infoByte n (by omega) (by omega);have p0 : (0 : Int) ≤ (n : Int) := by omega
 go_enter func126, ntmps126;go_wp2;go_loopw [6] (fun i wr => ∃ k : Nat, k ≤ n ∧ i = .int .i64 k ∧ Hid (Filling wr w.heap.size 5 1 n ((List.replicate k x).flatMap encB)) ∧ Below w.heap.size w wr) (fun i _ => n - (intOf i).toNat)
 case atStart => exact ⟨0, Nat.zero_le _, rfl, hid9 (by simpa using Filling.made w _ _ 1 n), bel9⟩
 case round =>
  obtain ⟨k, hk, rfl, HF, hb⟩ := hrel;clear hmk;have q0 : (0 : Int) ≤ (k : Int) := by omega
  by_cases hlt : k < n
  ·have q1 : (k : Int) < (n : Int) := by omega
   have hdl : ((List.replicate k x).flatMap encB).length = k := by rw [rep_flat]; simp
   have F3 := HF.out.stores [.int .u8 (x.toNat : Int)] k hdl.symm (by rw [hdl]; simp; omega);have H3 := hid9 (show Filling _ w.heap.size 5 1 n ((List.replicate (k + 1) x).flatMap encB) by
    rw [List.replicate_succ', List.flatMap_append]; exact F3)
   have hB := hid9 (below_of_grown (sets_grown [.int .u8 (x.toNat : Int)] wr w.heap.size k) (Nat.le_refl w.heap.size) hb.size);have D2 := hid9 hb;have f0 := HF.out.free k;obtain ⟨o0, z0⟩ := HF.out.cell k (by omega);clear F3 HF hdl;go_wp2;go_roundw
   case rel => exact ⟨k + 1, by omega, by go_num, H3, D2.out.trans hB.out⟩
   case measure => simp [intOf]; omega
  ·obtain rfl : k = n := by omega
   have q1 : ¬ (k : Int) < (k : Int) := by omega
   have hO := HF.out.owns (base := w.heap.size) (by rw [rep_flat]; simp) (Nat.le_refl _) (by unfold maxLen; omega);have hcv := convB wr w.heap.size 5 _ (List.replicate k x) k (by simp) hO;clear HF hO;go_wp2;go_ret;exact ⟨rfl, hb⟩
def longK (n : Nat) (x : UInt8) : ByteArray := ⟨(List.replicate n x).toArray⟩
theorem longK_size (n : Nat) (x : UInt8) : (longK n x).size = n := by show (List.replicate n x).toArray.size = n; simp
def encI (x : Int) : List Value := [.int .i64 x]
theorem encI_len (x : Int) : (encI x).length = 1 := rfl
theorem infoInt : (Tryz.prog.info? 3).map (fun i => (i.zero, i.size, i.bytes)) = some (some (.int .i64 0), 1, 8) := by kernel_rfl
structure JAt (p base : Nat) (v1 v2 v3 : Value) (w W : World) (u1 u2 u3 : Value) (k : Mch) : Prop where
 at_ : MAt W p base u1 u2 u3 k
 gr : Grow3 w W p v1 v2 v3
 q1 : OwnOr w v1 u1
 q2 : OwnOr w v2 u2
 q3 : OwnOr w v3 u3
section
variable {p base : Nat} {v1 v2 v3 u1 u2 u3 x1 x2 x3 vo vo' : Value} {w W W' : World} {m k k' : Mch} {a : Option Addr} {ks : List ByteArray} {ol ol2 : List Int}
theorem JAt.first (h : MAt w p base v1 v2 v3 m) : JAt p base v1 v2 v3 w w v1 v2 v3 m := ⟨h, Grow3.of_below (Below.refl _ _), .inl rfl, .inl rfl, .inl rfl⟩
theorem JAt.next (d : JAt p base v1 v2 v3 w W u1 u2 u3 k) (hm : MAt W' p base x1 x2 x3 k') (hg : Grow3 W W' p u1 u2 u3) (r1 : OwnOr W u1 x1) (r2 : OwnOr W u2 x2) (r3 : OwnOr W u3 x3) : JAt p base v1 v2 v3 w W' x1 x2 x3 k' :=
 ⟨hm, d.gr.trans d.q1 d.q2 d.q3 hg, d.q1.trans r1 d.gr.size, d.q2.trans r2 d.gr.size, d.q3.trans r3 d.gr.size⟩
theorem JAt.below (d : JAt p base v1 v2 v3 w W u1 u2 u3 k) (hb : Below W.heap.size W W') : JAt p base v1 v2 v3 w W' u1 u2 u3 k := d.next (d.at_.below hb) (Grow3.of_below hb) (.inl rfl) (.inl rfl) (.inl rfl)
theorem JAt.bel (d : JAt p base v1 v2 v3 w W u1 u2 u3 k) (h : MAt w p base v1 v2 v3 m) : Below base w W := h.grow d.gr
theorem JAt.done (d : JAt p base v1 v2 v3 w W u1 u2 u3 k) (r : Value) : MStep p base v1 v2 v3 k r w (.returned r) W := ⟨u1, u2, u3, rfl, d.at_, d.gr, d.q1, d.q2, d.q3⟩
theorem ownsRow_block {B e size n : Nat} {v : Value} {xs : List Value} (h : W.ownsRow B e size v n xs) (hb : ∀ b, v.ownBlock = some b → W'.heap[b]? = W.heap[b]?) : W'.ownsRow B e size v n xs := by
 refine ⟨h.1, ?_⟩;rcases h.2 with hn | ⟨g, cap, cur, rfl, h1, h2, rest⟩
 ·exact .inl hn
 ·exact .inr ⟨g, cap, cur, rfl, h1, (hb g rfl).trans h2, rest⟩
theorem ownsRow_grow3 {B e size n : Nat} {v : Value} {xs : List Value} (h : W.ownsRow B e size v n xs) (hg : Grow3 W W' p u1 u2 u3) (np : v.ownBlock ≠ some p) (n1 : ∀ b, v.ownBlock = some b → u1.ownBlock ≠ some b) (n2 : ∀ b, v.ownBlock = some b → u2.ownBlock ≠ some b) (n3 : ∀ b, v.ownBlock = some b → u3.ownBlock ≠ some b) : W'.ownsRow B e size v n xs :=
 ownsRow_block h (fun b e => hg.block b (h.lt b e).2 (fun e2 => np (e2 ▸ e)) (n1 b e) (n2 b e) (n3 b e))
theorem MAt.grown (h : MAt W p base u1 u2 u3 k) (hg : W.grownBy W' vo.ownBlock) (np : vo.ownBlock ≠ some p) (n1 : ∀ b, vo.ownBlock = some b → u1.ownBlock ≠ some b) (n2 : ∀ b, vo.ownBlock = some b → u2.ownBlock ≠ some b) (n3 : ∀ b, vo.ownBlock = some b → u3.ownBlock ≠ some b) : MAt W' p base u1 u2 u3 k := by
 have f : ∀ u : Value, (∀ b, vo.ownBlock = some b → u.ownBlock ≠ some b) → u.ownBlock = none ∨ u.ownBlock ≠ vo.ownBlock := fun u hu => by
  cases hv : u.ownBlock with
  | none => exact .inl rfl
  | some b => exact .inr (fun e => hu b e.symm hv)
 exact ⟨⟨Nat.lt_of_lt_of_le h.box.1 hg.size, h.box.2.elim fun T hT => ⟨T, (hg.block p h.box.1 (fun e => np e.symm)).trans hT⟩⟩, h.o1.kept hg (f _ n1), h.o2.kept hg (f _ n2), h.o3.kept hg (f _ n3), h.n1, h.n2, h.n3, h.d12, h.d13, h.d23, h.hp, Nat.le_trans h.hb hg.size⟩
theorem grow_row (h : Grow3 w W p v1 v2 v3) (hg : W.grownBy W' vo.ownBlock) (hge : ∀ b, vo.ownBlock = some b → w.heap.size ≤ b) : Grow3 w W' p v1 v2 v3 :=
 ⟨hg.os.trans h.os, hg.tape.trans h.tape, hg.output.trans h.output, Nat.le_trans h.size hg.size, fun b hb h0 h1 h2 h3 => (hg.block b (Nat.lt_of_lt_of_le hb h.size) (fun e => by have := hge b e.symm; omega)).trans (h.block b hb h0 h1 h2 h3)⟩
structure RAt {α : Type} (T K : Nat) (enc : α → List Value) (p base : Nat) (v1 v2 v3 : Value) (w W : World) (u1 u2 u3 : Value) (k : Mch) (vo : Value) (ol : List α) : Prop where
 j : JAt p base v1 v2 v3 w W u1 u2 u3 k
 o : W.ownsRow w.heap.size T K vo ol.length (ol.flatMap enc)
 np : vo.ownBlock ≠ some p
 n1 : ∀ b, vo.ownBlock = some b → u1.ownBlock ≠ some b
 n2 : ∀ b, vo.ownBlock = some b → u2.ownBlock ≠ some b
 n3 : ∀ b, vo.ownBlock = some b → u3.ownBlock ≠ some b
theorem RAt.first {α : Type} {T K : Nat} {enc : α → List Value} (d : JAt p base v1 v2 v3 w W u1 u2 u3 k) : RAt T K enc p base v1 v2 v3 w W u1 u2 u3 k (.slice none 0 0) [] :=
 ⟨d, World.ownsRow_nil _ _ _ _, by simp [Value.ownBlock], by simp [Value.ownBlock], by simp [Value.ownBlock], by simp [Value.ownBlock]⟩
theorem RAt.next {α : Type} {T K : Nat} {enc : α → List Value} {ol : List α} (h : RAt T K enc p base v1 v2 v3 w W u1 u2 u3 k vo ol) (hm : MAt W' p base x1 x2 x3 k') (hg : Grow3 W W' p u1 u2 u3) (r1 : OwnOr W u1 x1) (r2 : OwnOr W u2 x2) (r3 : OwnOr W u3 x3) : RAt T K enc p base v1 v2 v3 w W' x1 x2 x3 k' vo ol :=
 ⟨h.j.next hm hg r1 r2 r3, ownsRow_grow3 h.o hg h.np h.n1 h.n2 h.n3, h.np, fun b e => r1.ne (h.o.lt b e).2 (h.n1 b e), fun b e => r2.ne (h.o.lt b e).2 (h.n2 b e), fun b e => r3.ne (h.o.lt b e).2 (h.n3 b e)⟩
theorem RAt.below {α : Type} {T K : Nat} {enc : α → List Value} {ol : List α} (h : RAt T K enc p base v1 v2 v3 w W u1 u2 u3 k vo ol) (hb : Below W.heap.size W W') : RAt T K enc p base v1 v2 v3 w W' u1 u2 u3 k vo ol :=
 h.next (h.j.at_.below hb) (Grow3.of_below hb) (.inl rfl) (.inl rfl) (.inl rfl)
theorem RAt.app {α : Type} {T K : Nat} {enc : α → List Value} {ol ol2 : List α} (h : RAt T K enc p base v1 v2 v3 w W u1 u2 u3 k vo ol) (hg : W.grownBy W' vo.ownBlock) (hor : OwnOr W vo vo') (ho : W'.ownsRow w.heap.size T K vo' ol2.length (ol2.flatMap enc)) : RAt T K enc p base v1 v2 v3 w W' u1 u2 u3 k vo' ol2 := by
 have hge : ∀ b, vo.ownBlock = some b → w.heap.size ≤ b := fun b e => (h.o.lt b e).1;have hm := h.j.at_.grown hg h.np h.n1 h.n2 h.n3;have new : ∀ u : Value, (∀ b, u.ownBlock = some b → b < W.heap.size) → (∀ b, vo.ownBlock = some b → u.ownBlock ≠ some b) → ∀ b, vo'.ownBlock = some b → u.ownBlock ≠ some b := fun u hu hn b e e2 => by
  rcases hor with h2 | h2
  ·exact hn b (h2 ▸ e) e2
  ·have := h2 b e; have := hu b e2; omega
 refine ⟨⟨hm, grow_row h.j.gr hg hge, h.j.q1, h.j.q2, h.j.q3⟩, ho, ?_, new _ (fun b e => (h.j.at_.o1.lt b e).2) h.n1, new _ (fun b e => (h.j.at_.o2.lt b e).2) h.n2, new _ (fun b e => (h.j.at_.o3.lt b e).2) h.n3⟩;intro e;rcases hor with h2 | h2
 ·exact h.np (h2 ▸ e)
 ·have := h2 _ e; have := h.j.at_.box.1; omega
structure KidAt (p base : Nat) (v1 v2 v3 : Value) (w : World) (a : Option Addr) (ks : List ByteArray) (W : World) (u1 u2 u3 : Value) (k : Mch) (vo : Value) (ol : List Int) : Prop where
 r : RAt 3 1 encI p base v1 v2 v3 w W u1 u2 u3 k vo ol
 ks : KAt W p u1 u2 u3 a ks
 nk : ∀ b o, a = some ⟨b, o, none⟩ → vo.ownBlock ≠ some b
theorem KidAt.next (h : KidAt p base v1 v2 v3 w a ks W u1 u2 u3 k vo ol) (hm : MAt W' p base x1 x2 x3 k') (hg : Grow3 W W' p u1 u2 u3) (r1 : OwnOr W u1 x1) (r2 : OwnOr W u2 x2) (r3 : OwnOr W u3 x3) : KidAt p base v1 v2 v3 w a ks W' x1 x2 x3 k' vo ol :=
 ⟨h.r.next hm hg r1 r2 r3, h.ks.grow hg r1 r2 r3, h.nk⟩
theorem KidAt.below (h : KidAt p base v1 v2 v3 w a ks W u1 u2 u3 k vo ol) (hb : Below W.heap.size W W') : KidAt p base v1 v2 v3 w a ks W' u1 u2 u3 k vo ol :=
 h.next (h.r.j.at_.below hb) (Grow3.of_below hb) (.inl rfl) (.inl rfl) (.inl rfl)
theorem KidAt.app (h : KidAt p base v1 v2 v3 w a ks W u1 u2 u3 k vo ol) (hg : W.grownBy W' vo.ownBlock) (hor : OwnOr W vo vo') (ho : W'.ownsRow w.heap.size 3 1 vo' ol2.length (ol2.flatMap encI)) : KidAt p base v1 v2 v3 w a ks W' u1 u2 u3 k vo' ol2 := by
 refine ⟨h.r.app hg hor ho, ⟨h.ks.rd.grow hg.size (fun b o e => hg.block b (h.ks.far b o e).1 (fun e2 => h.nk b o e e2.symm)), fun b o e => by obtain ⟨h1, h2, h3, h4, h5⟩ := h.ks.far b o e; exact ⟨Nat.lt_of_lt_of_le h1 hg.size, h2, h3, h4, h5⟩⟩, ?_⟩;intro b o e e2;rcases hor with h2 | h2
 ·exact h.nk b o e (h2 ▸ e2)
 ·have := h2 _ e2; have := (h.ks.far b o e).1; omega
end
def MNames (p base : Nat) (v1 v2 v3 : Value) (m' : Mch) (ns : List ByteArray) (w : World) (e : Ending) (w' : World) : Prop :=
 ∃ u1 u2 u3 a c, e = .returned (.slice a ns.length c) ∧ JAt p base v1 v2 v3 w w' u1 u2 u3 m' ∧ w'.ownsRow w.heap.size 9 1 (.slice a ns.length c) ns.length (ns.flatMap encS)
def MInts (p base : Nat) (v1 v2 v3 : Value) (m' : Mch) (ns : List Int) (w : World) (e : Ending) (w' : World) : Prop :=
 ∃ u1 u2 u3 a c, e = .returned (.slice a ns.length c) ∧ JAt p base v1 v2 v3 w w' u1 u2 u3 m' ∧ w'.ownsRow w.heap.size 3 1 (.slice a ns.length c) ns.length (ns.flatMap encI)
theorem add_run {t : TypeId} {a b : ByteArray} (h : a.size + b.size ≤ 9223372036854775807) : binOp .add t (.string a) (.string b) = pure (.string (a ++ b)) := by
 rw [binOp_string_add];unfold Op.stringOp;simp only;rw [if_neg];show ¬ (((a.size + b.size : Nat) : Int) > 9223372036854775807);omega
theorem namesP_eq : namesP = (underP nHead >>= fun ks => pure (ks.map drop2)) := rfl
theorem map_up {ks : List ByteArray} {k : Nat} {y : ByteArray} (h : ks[k]? = some y) : (ks.take (k + 1)).map drop2 = (ks.take k).map drop2 ++ [drop2 y] := by
 rw [take_snoc_of h, List.map_append];rfl
set_option maxRecDepth 100000 in
theorem pNames_c (p base : Nat) (v1 v2 v3 : Value) (m m' : Mch) (x : List ByteArray) (w : World) (h : MAt w p base v1 v2 v3 m) (ho : MOk 1700000000000 m) (E : namesP.run m = (m', x)) :
 Calls prog 102 #[.pointer (some ⟨p, 0, none⟩)] w (MNames p base v1 v2 v3 m' x w) := by
 obtain ⟨i0, hi0, hzz⟩ := Option.map_eq_some_iff.1 infoString;simp only [Prod.mk.injEq] at hzz;have HI := hid9 hi0;have HZ := hid9 hzz;clear hi0 hzz;obtain ⟨m1, ks, E1⟩ : ∃ aa bb, (underP nHead).run m = (aa, bb) := ⟨_, _, rfl⟩;obtain ⟨e1, e2⟩ := Prod.mk.inj ((show (m1, ks.map drop2) = namesP.run m from by rw [namesP_eq, Pg.run_bind, E1]; rfl).trans E);subst e1 e2;obtain ⟨hsz, hkn⟩ := under_sz ho E1;have HPRE := hid9 (under_pre E1);have J0 := hid9 (JAt.first h);have KU := hid9 (pUnder_c p base v1 v2 v3 m m1 ks nHead w h (ho.mono (by omega)) (by decide) E1);clear h ho E E1 hsz;go_enter func102, ntmps102;go_wp2_with fail;refine KU.out.mono ?_;rintro e w1 ⟨u1, u2, u3, a, c, rfl, hm, hg, q1, q2, q3, hk⟩;have J1 := hid9 (J0.out.next hm hg q1 q2 q3);have HK := hid9 hk.rd;clear hm hg q1 q2 q3 hk KU J0;go_wp2;go_loopw [3, 9] (fun v i wr => ∃ k : Nat, k ≤ ks.length ∧ i = .int .i64 k ∧ Hid (wr.ownsRow w1.heap.size 9 1 v k (((ks.take k).map drop2).flatMap encS)) ∧ Below w1.heap.size w1 wr) (fun _ i _ => ks.length - (intOf i).toNat)
 case atStart => exact ⟨0, Nat.zero_le _, rfl, hid9 (World.ownsRow_nil _ _ _ _), bel9⟩
 case round =>
  obtain ⟨k, hk, rfl, HW, hb⟩ := hrel;have HB := hid9 hb;clear hb;have hsz := HB.out.size;by_cases hlt : k < ks.length
  ·obtain ⟨y, hy⟩ := some_of_lt hlt;obtain ⟨b, off, hab, c0⟩ := readFS HK.out HB.out hy;subst hab;have p1 : (0 : Int) ≤ (k : Int) := by omega
   have p2 : (k : Int) < (ks.length : Int) := by omega
   have hyp : 2 ≤ y.size := begins_size (HPRE.out y (List.mem_of_getElem? hy));have hyi : (2 : Int) ≤ (y.size : Int) := by omega
   have HUP := hid9 (map_up hy);clear hy;go_wp2_with (at_builtin; refine wpList_append_own2 _ rfl _ _ 29 rfl w1.heap.size 9 i0 _ 1 16 underlying29 HI.out HZ.out.1 HZ.out.2.1 HZ.out.2.2 rfl (by decide) _ _ _ rfl (HW.out.alloc _) ⟨wr.heap.size, 0, none⟩ 1 1 [.string (y.extract 2 y.size)] rfl rfl (box_news (Box.new _ _ _)) (by intro u hu; simp at hu; subst hu; rfl) (by unfold maxLen; omega) (by omega) (by simp; omega) ?_);intro v' w' o2 g2 or2;have HB4 := hid9 (below_of_own0 (show Below w1.heap.size w1 (wr.alloc (.cells #[.string (y.extract 2 y.size)] 9)) from bel9) (HW.out.alloc _) g2);have HW4 := hid9 (show w'.ownsRow w1.heap.size 9 1 v' (k + 1) (((ks.take (k + 1)).map drop2).flatMap encS) from by rw [HUP.out, List.flatMap_append]; simpa [encS, drop2] using o2);clear o2 g2 or2 HW c0;go_wp2;go_roundw
   case rel => exact ⟨k + 1, by omega, by go_num, HW4, HB4.out⟩
   case measure => simp [intOf]; omega
  ·obtain rfl : k = ks.length := by omega
   have p2 : ¬ ((ks.length : Nat) : Int) < (ks.length : Int) := by omega
   have hw := HW.out;rw [List.take_length, show ks.length = (ks.map drop2).length from (List.length_map ..).symm] at hw;obtain ⟨ao, co, hvo, _⟩ := reads_of_owns encS_len hw;subst hvo;have hend : MNames p base v1 v2 v3 m1 (ks.map drop2) w (.returned (.slice ao (ks.map drop2).length co)) wr := ⟨u1, u2, u3, ao, co, rfl, J1.out.below HB.out, ownsRow_base hw J1.out.gr.size⟩;rw [List.length_map] at hend;have HEND := hid9 hend;clear hend;clear hw HW;go_wp2;go_ret;exact HEND.out
theorem kidsP_eq (p : Int) : kidsP p = (underP rHead >>= fun ks => kidsL p ks []) := rfl
theorem kidsL_cons (p : Int) (k : ByteArray) (ks : List ByteArray) (out : List Int) : kidsL p (k :: ks) out = if kidKey k = true then (numP k >>= fun up => kidsL p ks (if up = p then out ++ [numOfV (k.extract 2 (k.size - 2))] else out)) else kidsL p ks out := rfl
theorem suf_iff {y : ByteArray} (h2 : 2 ≤ y.size) : (y.extract (y.size - 2) y.size).toList = [47, 112] ↔ Lib.hasSuffix y.data.toList [47, 112] = true := by
 have e : (y.extract (y.size - 2) y.size).toList = y.data.toList.drop (y.size - 2) := by
  rw [Lib.toList_data];have hl : y.data.toList.length = y.size := Array.length_toList;have : (y.extract (y.size - 2) y.size).data.toList = (y.data.toList.drop (y.size - 2)).take (y.size - (y.size - 2)) := by simp [ByteArray.data_extract]
  rw [this, List.take_of_length_le (by rw [List.length_drop, hl]; omega)]
 unfold Lib.hasSuffix;rw [e, List.isSuffixOf_iff_suffix, List.suffix_iff_eq_drop];have hl : y.data.toList.length = y.size := Array.length_toList;rw [hl];exact eq_comm
theorem suf_short {y : ByteArray} (h2 : y.size < 2) : Lib.hasSuffix y.data.toList [47, 112] = false := by
 cases h : Lib.hasSuffix y.data.toList [47, 112] with
 | false => rfl
 | true =>
  unfold Lib.hasSuffix at h;have h3 := (List.isSuffixOf_iff_suffix.1 h).length_le;have hl : y.data.toList.length = y.size := Array.length_toList;simp only [List.length_cons, List.length_nil] at h3;omega
def cutPV (s : ByteArray) : ByteArray := if Lib.hasSuffix s.data.toList [47, 112] = true then s.extract 0 (s.size - 2) else s
theorem cutSlashP_c (s : ByteArray) (w : World) (hs : s.size ≤ maxLen) :
 Calls prog 170 #[.string s, .string ⟨#[47, 112]⟩] w fun e w' => e = .returned (.tuple #[.string (cutPV s), .bool (Lib.hasSuffix s.data.toList [47, 112])]) ∧ w = w' := by
 unfold maxLen at hs;by_cases h0 : s.size < 2
 ·have HS := hid9 (suf_short h0);have HO := hid9 (show cutPV s = s from by unfold cutPV; rw [suf_short h0]; rfl);have hz : (s.size : Int) < 2 := by omega
  have hd : decide ((2 : Int) ≤ (s.size : Int)) = false := by simp; omega
  clear h0;go_enter func170, ntmps170;go_wp2;go_ret2;exact ⟨by rw [HS.out, HO.out]; rfl, rfl⟩
 ·have hp : (2 : Int) ≤ (s.size : Int) := by omega
  have hp' : 2 ≤ s.size := by omega
  cases hst : Lib.hasSuffix s.data.toList [47, 112]
  ·have hx : ((s.extract (s.size - 2) s.size).toList == [47, 112]) = false := beq_eq_false_iff_ne.2 (fun e => by rw [(suf_iff hp').1 e] at hst; cases hst);have HO := hid9 (show cutPV s = s from by unfold cutPV; rw [hst]; rfl);clear h0 hst;go_enter func170, ntmps170;go_wp2;go_ret2;exact ⟨by rw [HO.out]; rfl, rfl⟩
  ·have hx : ((s.extract (s.size - 2) s.size).toList == [47, 112]) = true := by rw [(suf_iff hp').2 hst]; rfl
   have HO := hid9 (show cutPV s = s.extract 0 (s.size - 2) from by unfold cutPV; rw [hst]; rfl);clear h0 hst;go_enter func170, ntmps170;go_wp2;go_ret2;exact ⟨by rw [HO.out]; rfl, rfl⟩
theorem cut_mid {y : ByteArray} (h : Lib.hasSuffix y.data.toList [47, 112] = true) (h5 : 5 ≤ y.size) : (cutPV y).size = y.size - 2 ∧ (cutPV y).extract 2 (cutPV y).size = y.extract 2 (y.size - 2) := by
 have e : cutPV y = y.extract 0 (y.size - 2) := by unfold cutPV; rw [h]; rfl
 have hs : (y.extract 0 (y.size - 2)).size = y.size - 2 := by rw [ByteArray.size_extract]; omega
 rw [e, hs];refine ⟨rfl, ?_⟩;apply ByteArray.ext;apply Array.toList_inj.1;simp only [ByteArray.data_extract, Array.toList_extract];simp [List.drop_take, List.take_take]
set_option maxRecDepth 100000 in
theorem pKids_c (p base : Nat) (v1 v2 v3 : Value) (m m' : Mch) (x : List Int) (parent : Int) (w : World) (h : MAt w p base v1 v2 v3 m) (ho : MOk 800000000000 m) (HT : ∀ W, Below base w W → Tabs W) (E : (kidsP parent).run m = (m', x)) :
 Calls prog 111 #[.pointer (some ⟨p, 0, none⟩), .int .i64 parent] w (MInts p base v1 v2 v3 m' x w) := by
 obtain ⟨i0, hi0, hzz⟩ := Option.map_eq_some_iff.1 infoInt;simp only [Prod.mk.injEq] at hzz;have HI := hid9 hi0;have HZ := hid9 hzz;clear hi0 hzz;obtain ⟨m1, ks, E1⟩ : ∃ aa bb, (underP rHead).run m = (aa, bb) := ⟨_, _, rfl⟩;have HE2 := hid9 (show (kidsL parent ks []).run m1 = (m', x) from by rw [kidsP_eq, Pg.run_bind, E1] at E; exact E);obtain ⟨hsz, hkn⟩ := under_sz ho E1;have HSZ := hid9 hsz;have HPRE := hid9 (under_pre E1);have J0 := hid9 (JAt.first h);have O1 := hid9 ((underP_cost _).okE ho E1);have HTT := hid9 (fun W u1 u2 u3 k (d : JAt p base v1 v2 v3 w W u1 u2 u3 k) W' (hW : Below base W W') => HT W' ((d.bel h).trans hW));have KU := hid9 (pUnder_c p base v1 v2 v3 m m1 ks rHead w h (ho.mono (by omega)) (by decide) E1);clear h ho E E1 hsz HT;go_enter func111, ntmps111;go_wp2_with fail;refine KU.out.mono ?_;rintro e w1 ⟨u1, u2, u3, a, c, rfl, hm, hg, q1, q2, q3, hk⟩;have K0 := hid9 (show KidAt p base v1 v2 v3 w a ks w1 u1 u2 u3 m1 (.slice none 0 0) [] from ⟨RAt.first (J0.out.next hm hg q1 q2 q3), hk, by simp [Value.ownBlock]⟩);clear hm hg q1 q2 q3 hk KU J0;go_wp2;go_loopw [5, 13] (fun v i wr => ∃ k : Nat, k ≤ ks.length ∧ i = .int .i64 k ∧ Hid (∃ y1 y2 y3 mk ol, KidAt p base v1 v2 v3 w a ks wr y1 y2 y3 mk v ol ∧ MOk (800000000001 + 1 * k) mk ∧ ol.length ≤ k ∧ (kidsL parent (ks.drop k) ol).run mk = (m', x))) (fun _ i _ => ks.length - (intOf i).toNat)
 case atStart => exact ⟨0, Nat.zero_le _, rfl, hid9 ⟨_, _, _, _, _, K0.out, O1.out.mono (by omega), Nat.le_refl _, HE2.out⟩⟩
 case round =>
  obtain ⟨k, hk, rfl, HI0⟩ := hrel;obtain ⟨y1, y2, y3, mk, ol, hl, ho, hol, hr⟩ := HI0.out;have HL := hid9 hl;have HO := hid9 ho;have HR := hid9 hr;clear hl ho hr HI0 K0;by_cases hlt : k < ks.length
  ·obtain ⟨y, hy⟩ := some_of_lt hlt;obtain ⟨b, off, hab, c0⟩ := readFS HL.out.ks.rd (Below.refl _ _) hy;subst hab;have p1 : (0 : Int) ≤ (k : Int) := by omega
   have p2 : (k : Int) < (ks.length : Int) := by omega
   have hys := HSZ.out y (List.mem_of_getElem? hy);have HY := hid9 hy;have KC := hid9 (fun W => cutSlashP_c y W (by unfold maxLen; omega));obtain ⟨cv, hcv⟩ : ∃ cv, cutPV y = cv := ⟨_, rfl⟩;rw [hcv] at KC;clear hy hlt;by_cases h5 : 5 ≤ y.size
   ·have g5 : (5 : Int) ≤ (y.size : Int) := by omega
    cases hsf : Lib.hasSuffix y.data.toList [47, 112] with
    | false =>
     have hkk : kidKey y = false := by unfold kidKey; rw [hsf, Bool.and_false]
     have HR2 := hid9 (show (kidsL parent (ks.drop (k + 1)) ol).run mk = (m', x) from by
      have h := HR.out;rw [drop_cons HY.out, kidsL_cons, hkk] at h;exact h)
     rw [hsf] at KC;clear HR hsf hkk hcv;go_wp2_with fail;refine (KC.out _).mono ?_;rintro e wc ⟨rfl, rfl⟩;go_wp2;go_roundw
     case rel => exact ⟨k + 1, by omega, by go_num, hid9 ⟨_, _, _, _, _, HL.out, HO.out.mono (by omega), by omega, HR2.out⟩⟩
     case measure => simp [intOf]; omega
    | true =>
     have hkk : kidKey y = true := by unfold kidKey; rw [hsf, decide_eq_true h5]; rfl
     obtain ⟨hcs, hcm⟩ := cut_mid hsf h5;rw [hcv] at hcs hcm;rw [hsf] at KC;obtain ⟨n1, up, F1⟩ : ∃ aa bb, (numP y).run mk = (aa, bb) := ⟨_, _, rfl⟩;have P1 := hid9 ((numP_cost _).okE HO.out F1);have KN := hid9 (fun W (d : KidAt p base v1 v2 v3 w (some ⟨b, off, none⟩) ks W y1 y2 y3 mk u5 ol) => pNum_c p base y1 y2 y3 mk n1 up y W d.r.j.at_ (HO.out.mono (by omega)) (fun X hX => HTT.out _ _ _ _ _ d.r.j X hX) F1);have hr := HR.out;rw [drop_cons HY.out, kidsL_cons, hkk, if_pos rfl, Pg.run_bind, F1] at hr;have HR1 := hid9 hr;clear HR hsf hkk hr F1 hcv;go_wp2_with fail;refine (KC.out _).mono ?_;rintro e wc ⟨rfl, rfl⟩;go_wp2_with fail;refine (KN.out _ HL.out).mono ?_;rintro e wn ⟨r1, r2, r3, rfl, hm, hg, q1, q2, q3⟩;have KA := hid9 (HL.out.next hm hg q1 q2 q3);clear hm hg q1 q2 q3 HL KN HO c0;by_cases hup : up = parent
     ·subst hup;rw [if_pos rfl] at HR1;obtain ⟨dv, hdv⟩ : ∃ dv, numOfV (y.extract 2 (y.size - 2)) = dv := ⟨_, rfl⟩;have hv : numOfV (cv.extract 2 cv.size) = dv := by rw [hcm]; exact hdv
      have KNU := hid9 (fun W (h : Tabs W) => implNumOf_c (cv.extract 2 cv.size) W (by rw [ByteArray.size_extract]; omega) h.1 h.2.1);rw [hv] at KNU;rw [hdv] at HR1;have g9 : (2 : Int) ≤ (cv.size : Int) := by omega
      clear hv hdv hcm hcs g5 h5;go_wp2_with fail;refine (KNU.out _ (HTT.out _ _ _ _ _ KA.out.r.j _ (Below.refl _ _))).mono ?_;rintro e wk ⟨rfl, hbk⟩;have KB := hid9 (KA.out.below hbk);have hszk := KB.out.r.j.gr.size;clear KA KNU hbk;go_wp2_with (at_builtin; refine wpList_append_own2 _ rfl _ _ 24 rfl w.heap.size 3 i0 _ 1 8 underlying24 HI.out HZ.out.1 HZ.out.2.1 HZ.out.2.2 rfl (by decide) _ _ _ rfl (KB.out.r.o.alloc _) ⟨wk.heap.size, 0, none⟩ 1 1 [.int .i64 dv] rfl rfl (box_news (Box.new _ _ _)) (by intro u hu; simp at hu; subst hu; rfl) (by unfold maxLen; omega) (by omega) (by simp; omega) ?_);intro v' w' o2 g2 or2;have HL := hid9 (KidAt.app (ol2 := ol ++ [dv]) (KB.out.below (show Below wk.heap.size wk (wk.alloc (.cells #[.int .i64 dv] 3)) from bel9)) g2 or2 (by rw [List.length_append, List.flatMap_append]; exact o2));clear o2 g2 or2 KB;go_wp2;go_roundw
      case rel => exact ⟨k + 1, by omega, by go_num, hid9 ⟨_, _, _, _, _, HL.out, P1.out.mono (by omega), by rw [List.length_append]; simp; omega, HR1.out⟩⟩
      case measure => simp [intOf]; omega
     ·rw [if_neg hup] at HR1;go_wp2;go_roundw
      case rel => exact ⟨k + 1, by omega, by go_num, hid9 ⟨_, _, _, _, _, KA.out, P1.out.mono (by omega), by omega, HR1.out⟩⟩
      case measure => simp [intOf]; omega
   ·have g5 : ¬ (5 : Int) ≤ (y.size : Int) := by omega
    have hkk : kidKey y = false := by unfold kidKey; rw [decide_eq_false h5]; rfl
    have HR2 := hid9 (show (kidsL parent (ks.drop (k + 1)) ol).run mk = (m', x) from by
     have h := HR.out;rw [drop_cons HY.out, kidsL_cons, hkk] at h;exact h)
    generalize Lib.hasSuffix y.data.toList [47, 112] = hsf at KC;clear HR hkk hcv;go_wp2_with fail;refine (KC.out _).mono ?_;rintro e wc ⟨rfl, rfl⟩;go_wp2;go_roundw
    case rel => exact ⟨k + 1, by omega, by go_num, hid9 ⟨_, _, _, _, _, HL.out, HO.out.mono (by omega), by omega, HR2.out⟩⟩
    case measure => simp [intOf]; omega
  ·obtain rfl : k = ks.length := by omega
   have p2 : ¬ ((ks.length : Nat) : Int) < (ks.length : Int) := by omega
   have hr := HR.out;rw [List.drop_length] at hr;obtain ⟨e1, e2⟩ := Prod.mk.inj (show (m', x) = (mk, ol) from hr.symm);subst e1 e2;obtain ⟨ao, co, hvo, _⟩ := reads_of_owns (enc := encI) (K := 1) encI_len HL.out.r.o;subst hvo;have HEND := hid9 (show MInts p base v1 v2 v3 m' x w (.returned (.slice ao x.length co)) wr from ⟨_, _, _, ao, co, rfl, HL.out.r.j, HL.out.r.o⟩);clear HR hr HL HO;go_wp2;go_ret;exact HEND.out
end
section
open Go.ChangeShapes Go.WideShapes Go.ChangeAt Go.RowKit
structure PQ (p base : Nat) (v1 v2 v3 : Value) (w : World) (bs : List (Nat × List Value)) (W : World) (u1 u2 u3 : Value) (k : Mch) : Prop where
 j : JAt p base v1 v2 v3 w W u1 u2 u3 k
 bx : ∀ (i : Nat) (x : Nat × List Value), bs[i]? = some x → Box W x.1 x.2 ∧ w.heap.size ≤ x.1 ∧ x.1 ≠ p ∧ u1.ownBlock ≠ some x.1 ∧ u2.ownBlock ≠ some x.1 ∧ u3.ownBlock ≠ some x.1
 nd : ∀ (i j : Nat) (x y : Nat × List Value), bs[i]? = some x → bs[j]? = some y → x.1 = y.1 → i = j
section
variable {p base : Nat} {v1 v2 v3 u1 u2 u3 x1 x2 x3 : Value} {w W W' : World} {m k k' : Mch} {bs : List (Nat × List Value)}
theorem PQ.box (q : PQ p base v1 v2 v3 w bs W u1 u2 u3 k) (i : Nat) (x : Nat × List Value) (hx : bs[i]? = some x) : Box W x.1 x.2 := (q.bx i x hx).1
theorem PQ.first (h : MAt w p base v1 v2 v3 m) : PQ p base v1 v2 v3 w [] w v1 v2 v3 m := ⟨JAt.first h, fun i x hx => by simp at hx, fun i j x y hx => by simp at hx⟩
theorem PQ.next (q : PQ p base v1 v2 v3 w bs W u1 u2 u3 k) (hm : MAt W' p base x1 x2 x3 k') (hg : Grow3 W W' p u1 u2 u3) (r1 : OwnOr W u1 x1) (r2 : OwnOr W u2 x2) (r3 : OwnOr W u3 x3) : PQ p base v1 v2 v3 w bs W' x1 x2 x3 k' := by
 refine ⟨q.j.next hm hg r1 r2 r3, fun i x hx => ?_, q.nd⟩;obtain ⟨h1, h2, h3, f1, f2, f3⟩ := q.bx i x hx;exact ⟨⟨Nat.lt_of_lt_of_le h1.1 hg.size, h1.2.elim fun T hT => ⟨T, (hg.block x.1 h1.1 h3 f1 f2 f3).trans hT⟩⟩, h2, h3, r1.ne h1.1 f1, r2.ne h1.1 f2, r3.ne h1.1 f3⟩
theorem PQ.below (q : PQ p base v1 v2 v3 w bs W u1 u2 u3 k) (hb : Below W.heap.size W W') : PQ p base v1 v2 v3 w bs W' u1 u2 u3 k := q.next (q.j.at_.below hb) (Grow3.of_below hb) (.inl rfl) (.inl rfl) (.inl rfl)
theorem PQ.new (q : PQ p base v1 v2 v3 w bs W u1 u2 u3 k) (n : Nat) (hn : W.heap.size = n) (vs : List Value) (T : TypeId) : PQ p base v1 v2 v3 w ((n, vs) :: bs) (W.alloc (.cells vs.toArray T)) u1 u2 u3 k := by
 have hb : Below W.heap.size W (W.alloc (.cells vs.toArray T)) := bel9;have hs := q.j.gr.size;have hp := q.j.at_.box.1;have q2 := q.below hb;have ne : ∀ {T K n' : Nat} {v : Value} {xs : List Value}, W.ownsRow base T K v n' xs → v.ownBlock ≠ some n := fun h e => by have := (h.lt _ e).2; omega
 refine ⟨q2.j, fun i x hx => ?_, fun i j x y hx hy e => ?_⟩
 ·cases i with
  | zero =>
   simp only [List.getElem?_cons_zero, Option.some.injEq] at hx;subst hx;exact ⟨by have h := Box.new W vs T; rw [hn] at h; exact h, by simp only; omega, by simp only; omega, ne q.j.at_.o1, ne q.j.at_.o2, ne q.j.at_.o3⟩
  | succ i =>
   rw [List.getElem?_cons_succ] at hx;exact q2.bx i x hx
 ·cases i with
  | zero =>
   simp only [List.getElem?_cons_zero, Option.some.injEq] at hx;subst hx;cases j with
   | zero => rfl
   | succ j =>
    rw [List.getElem?_cons_succ] at hy;have := (q.bx j y hy).1.1;simp only at e;omega
  | succ i =>
   rw [List.getElem?_cons_succ] at hx;cases j with
   | zero =>
    simp only [List.getElem?_cons_zero, Option.some.injEq] at hy;subst hy;have := (q.bx i x hx).1.1;simp only at e;omega
   | succ j =>
    rw [List.getElem?_cons_succ] at hy;rw [q.nd i j x y hx hy e]
theorem PQ.set (q : PQ p base v1 v2 v3 w bs W u1 u2 u3 k) (i : Nat) (x : Nat × List Value) (hx : bs[i]? = some x) (j : Nat) (v : Value) : PQ p base v1 v2 v3 w (bs.set i (x.1, x.2.set j v)) (W.setCell ⟨x.1, j, none⟩ v) u1 u2 u3 k := by
 obtain ⟨h1, h2, h3, f1, f2, f3⟩ := q.bx i x hx;refine ⟨⟨q.j.at_.setCell (fun e => h3 e.symm) f1 f2 f3 j v, grow_set q.j.gr h2 j v, q.j.q1, q.j.q2, q.j.q3⟩, fun l y hy => ?_, fun a b y z hy hz e => ?_⟩
 ·rw [List.getElem?_set] at hy;split at hy
  ·split at hy
   ·cases hy;exact ⟨box_put h1 j v, h2, h3, f1, f2, f3⟩
   ·cases hy
  ·rename_i hne;obtain ⟨g1, g2⟩ := q.bx l y hy;exact ⟨box_far2 g1 (fun e => hne (q.nd i l x y hx hy e.symm)) j v, g2⟩
 ·have key : ∀ (c : Nat) (y : Nat × List Value), (bs.set i (x.1, x.2.set j v))[c]? = some y → ∃ y', bs[c]? = some y' ∧ y'.1 = y.1 := fun c y hy => by
   rw [List.getElem?_set] at hy;split at hy
   ·rename_i hc;subst hc;split at hy
    ·cases hy; exact ⟨x, hx, rfl⟩
    ·cases hy
   ·exact ⟨y, hy, rfl⟩
  obtain ⟨y', e1, e2⟩ := key a y hy;obtain ⟨z', e3, e4⟩ := key b z hz;exact q.nd a b y' z' e1 e3 (by rw [e2, e4, e])
end
end
@[irreducible] def fuelN : Nat := 200
@[irreducible] def fuelW : Nat := 20
theorem fuelN_is : fuelN = 200 := by unfold fuelN; rfl
theorem fuelW_is : fuelW = 20 := by unfold fuelW; rfl
theorem cutP_eq (id n : Int) : cutP id n = (numP (sizeK id) >>= fun size => if inB n 0 size = true then (if 0 < n % 8 then (blockP id (n / 8) >>= fun b => layP (blockK id (n / 8)) (hexV (b.extract 0 (min (n % 8) b.size).toNat)) >>= fun _ => cutL id size fuelN (n / 8 + 1) >>= fun _ => setP (sizeK id) n >>= fun _ => pure 0) else (cutL id size fuelN (n / 8) >>= fun _ => setP (sizeK id) n >>= fun _ => pure 0)) else pure 4) := by
 rw [fuelN_is];rfl
theorem readP_eq (id at_ n : Int) : readP id at_ n = (numP (sizeK id) >>= fun size => if at_ < 0 ∨ n < 1 ∨ size ≤ at_ then pure noB else readL id at_ (at_ + min n (size - at_)) fuelN (at_ / 8) noB) := by
 rw [fuelN_is];rfl
theorem writeP_eq (id at_ : Int) (text : ByteArray) : writeP id at_ text = (numP (sizeK id) >>= fun size => if (inB at_ 0 size && decide (0 < text.size)) = true then (if 64 < at_ + text.size then pure 3 else writeL id at_ (at_ + text.size) text fuelW (at_ / 8) >>= fun _ => if size < at_ + text.size then (setP (sizeK id) (at_ + text.size) >>= fun _ => pure 0) else pure 0) else pure 4) := by
 rw [fuelW_is];rfl
theorem cutL_end {id s p : Int} {f : Nat} (h : ¬ p * 8 < s) : cutL id s f p = pure () := by
 cases f with
 | zero => rfl
 | succ f => unfold cutL; rw [if_neg h]; rfl
theorem cutL_yes {id s p : Int} {f : Nat} (h : p * 8 < s) : cutL id s (f + 1) p = (layP (blockK id p) noB >>= fun _ => cutL id s f (p + 1)) := by
 rw [cutL, if_pos h]; rfl
theorem readL_end {id a e p : Int} {f : Nat} {s : ByteArray} (h : ¬ p * 8 < e) : readL id a e f p s = pure s := by
 cases f with
 | zero => rfl
 | succ f => unfold readL; rw [if_neg h]; rfl
theorem readL_yes {id a e p : Int} {f : Nat} {s : ByteArray} (h : p * 8 < e) : readL id a e (f + 1) p s = (blockP id p >>= fun b => readL id a e f (p + 1) (s ++ pieceOf b p a e)) := by
 rw [readL, if_pos h]
theorem writeL_end {id a e p : Int} {t : ByteArray} {f : Nat} (h : ¬ p * 8 < e) : writeL id a e t f p = pure () := by
 cases f with
 | zero => rfl
 | succ f => unfold writeL; rw [if_neg h]; rfl
theorem writeL_yes {id a e p : Int} {t : ByteArray} {f : Nat} (h : p * 8 < e) : writeL id a e t (f + 1) p = (blockP id p >>= fun b => layP (blockK id p) (hexV (newBlock b t p a e)) >>= fun _ => writeL id a e t f (p + 1)) := by
 rw [writeL, if_pos h]
theorem block_sz {i j : Int} {n : Nat} {m m' : Mch} {x : ByteArray} (ho : MOk n m) (E : (blockP i j).run m = (m', x)) : x.size ≤ 1048576 := by
 obtain ⟨e1, e2⟩ := Prod.mk.inj (show (lookM m (blockK i j), unhexV (getKeyS m.st (blockK i j))) = (m', x) from E);subst e1 e2;exact Nat.le_trans (unhexV_size _) (get_sz ho.sz _)
end Go.Proofs.YtihghflppegnmaaGreatDoor
