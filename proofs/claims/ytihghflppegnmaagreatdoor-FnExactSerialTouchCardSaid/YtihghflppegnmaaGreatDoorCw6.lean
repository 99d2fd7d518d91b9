/- Lemmas and contracts that the last text leans on, joined: KM4, KM5, DoAt, Kinds, KTick, Bytes, Places, KJ, PQ, Fuel. Conditions: as each theorem says. -/
import Derived.Test.YtihghflppegnmaaGreatDoorCw5
import Derived.Test.YtihghflppegnmaaGreatDoorCw4
import Derived.Deep.RegionHeld3
import Derived.Test.YtihghflppegnmaaGreatDoorCw1
import Derived.Laws.Bits128
import Derived.BigQuiet
import Derived.Test.YtihghflppegnmaaGreatDoorCw3
set_option linter.unusedSimpArgs false
set_option linter.unusedVariables false
namespace Go.Proofs.YtihghflppegnmaaGreatDoor
open Go.ChangeShapes Go.WideShapes Go.ChangeAt Go.RowKit
attribute [local go_sem ↓] Go.wp_at_zero Go.wp_at_succ
set_option maxRecDepth 100000 in
set_option maxHeartbeats 8000000 in
theorem pLoad_c (p base : Nat) (v1 v2 v3 : Value) (m m' : Mch) (x : ByteArray) (y : Int) (id : Int) (page : Int) (w : World) (h : MAt w p base v1 v2 v3 m) (ho : MOk 1700000000000 m) (hn : I64 id) (HT : ∀ W, Below base w W → Tabs W) (E : (loadP id page).run m = (m', (x, y))) :
 Calls Tryz.prog 118 #[.pointer (some ⟨p, 0, none⟩), .int .i64 id, .int .i64 page] w (MStep p base v1 v2 v3 m' (.tuple #[.string x, .int .i64 y]) w) := by
 have H := Lib.hid h;have HTT := Lib.hid HT;have O0 := Lib.hid ho;have HE := Lib.hid E;clear h ho HT E;have G0 := Lib.hid (GB.start (p := p) (base := base) (v1 := v1) (v2 := v2) (v3 := v3) (w := w));have M0 := Lib.hid H.out;have B0 := Lib.hid (Below.refl base w);go_enter Tryz.func118, Tryz.ntmps118;by_cases c1 : inB page 0 3 = true
 ·have C1 := Lib.hid c1;clear c1;have hb := inB_iff.1 C1.out;have hpg : I64 page := ⟨by omega, by omega⟩;have KW := Lib.hid (fun W => within_c page 0 3 W); rw [C1.out] at KW;go_wp2_with (first | (go_at_call 152; refine (KW.out _).mono ?_; rintro e w' ⟨rfl, rfl⟩) | fail);refine (pagesKey_c id w hn (HTT.out _ B0.out)).mono ?_;rintro e w1 ⟨rfl, hb⟩;have G1 := Lib.hid (G0.out.below hb);have B1 := Lib.hid (B0.out.trans (hb.mono M0.out.hb));have M1 := Lib.hid (M0.out.below hb);clear hb G0 M0 B0;go_wp2_with (first | (go_at_call 152; refine (KW.out _).mono ?_; rintro e w' ⟨rfl, rfl⟩) | fail);refine (implKeyNum2_c (pagesK id) page ⟨#[]⟩ w1 hpg (Nat.le_trans (pagesK_size hn) (by decide)) (by decide) (HTT.out _ B1.out)).mono ?_;rintro e w2 ⟨rfl, hb⟩;have G2 := Lib.hid (G1.out.below hb);have B2 := Lib.hid (B1.out.trans (hb.mono M1.out.hb));have M2 := Lib.hid (M1.out.below hb);clear hb G1 M1 B1;obtain ⟨m1, x1, HE1, O1⟩ := Pg.Cost.hop (msgP (pageK id page)) (msgP_cost _) O0;go_wp2_with (first | (go_at_call 152; refine (KW.out _).mono ?_; rintro e w' ⟨rfl, rfl⟩) | fail);refine (pMsg_c p base _ _ _ _ _ _ (pageK id page) _ M2.out (O0.out.mono (by omega)) (fun W hW => HTT.out W (B2.out.trans hW)) HE1.out).mono ?_;rintro e w3 ⟨x31, x32, x33, rfl, hm, hg, q1, q2, q3⟩;have G3 := Lib.hid (G2.out.next hg q1 q2 q3);have B3 := Lib.hid (B2.out.trans (M2.out.grow hg));have M3 := Lib.hid hm;clear hm hg q1 q2 q3 G2 M2 B2;obtain ⟨e1, e2⟩ := Prod.mk.inj ((show (m1, (x1, 0)) = (loadP id page).run m from by
   unfold loadP;simp only [Pg.run_bind, Pg.run_pure, Pg.run_ret, ↓reduceIte, bz, decide_true, decide_false, ne_eq, eq_self_iff_true, C1.out, HE1.out]).trans HE.out)
  obtain ⟨e2, e3⟩ := Prod.mk.inj e2;subst e1 e2 e3;clear HE;have HEND := Lib.hid (G3.out _ _ _ _ (M3.out.step (Below.refl _ _) (.tuple #[.string x1, .int .i64 0])));clear G3 M3 B3;go_wp2_with (first | (go_at_call 152; refine (KW.out _).mono ?_; rintro e w' ⟨rfl, rfl⟩) | fail);go_ret2;exact HEND.out
 ·have C1 := Lib.hid (Bool.eq_false_iff.2 c1);clear c1;have KW := Lib.hid (fun W => within_c page 0 3 W); rw [C1.out] at KW;obtain ⟨e1, e2⟩ := Prod.mk.inj ((show (m, (noB, 4)) = (loadP id page).run m from by
   unfold loadP;simp only [Pg.run_bind, Pg.run_pure, Pg.run_ret, ↓reduceIte, bz, decide_true, decide_false, ne_eq, eq_self_iff_true, C1.out]).trans HE.out)
  obtain ⟨e2, e3⟩ := Prod.mk.inj e2;subst e1 e2 e3;clear HE;have HEND := Lib.hid (G0.out _ _ _ _ (M0.out.step (Below.refl _ _) (.tuple #[.string ⟨#[]⟩, .int .i64 4])));clear G0 M0 B0;go_wp2_with (first | (go_at_call 152; refine (KW.out _).mono ?_; rintro e w' ⟨rfl, rfl⟩) | fail);go_ret2;exact HEND.out
set_option maxRecDepth 100000 in
set_option maxHeartbeats 8000000 in
theorem pStore_c (p base : Nat) (v1 v2 v3 : Value) (m m' : Mch) (x : Int) (id : Int) (page : Int) (text : ByteArray) (w : World) (h : MAt w p base v1 v2 v3 m) (ho : MOk 1700000000000 m) (hn : I64 id) (HT : ∀ W, Below base w W → Tabs W) (E : (storeP id page text).run m = (m', x)) :
 Calls Tryz.prog 117 #[.pointer (some ⟨p, 0, none⟩), .int .i64 id, .int .i64 page, .string text] w (MStep p base v1 v2 v3 m' (.int .i64 x) w) := by
 have H := Lib.hid h;have HTT := Lib.hid HT;have O0 := Lib.hid ho;have HE := Lib.hid E;clear h ho HT E;have G0 := Lib.hid (GB.start (p := p) (base := base) (v1 := v1) (v2 := v2) (v3 := v3) (w := w));have M0 := Lib.hid H.out;have B0 := Lib.hid (Below.refl base w);go_enter Tryz.func117, Tryz.ntmps117;by_cases c1 : inB page 0 3 = true
 ·have C1 := Lib.hid c1;clear c1;have hb := inB_iff.1 C1.out;have hpg : I64 page := ⟨by omega, by omega⟩;have KW := Lib.hid (fun W => within_c page 0 3 W); rw [C1.out] at KW;by_cases c2 : text.size ≤ 20
  ·have p1 : ¬ (20 : Int) < (text.size : Int) := by omega
   by_cases c3 : text.size = 0
   ·have C3 := Lib.hid c3;clear c3;have hne := fun t => eq_empty (t := t) C3.out;go_wp2_with (first | (go_at_call 152; refine (KW.out _).mono ?_; rintro e w' ⟨rfl, rfl⟩) | fail);refine (pagesKey_c id w hn (HTT.out _ B0.out)).mono ?_;rintro e w1 ⟨rfl, hb⟩;have G1 := Lib.hid (G0.out.below hb);have B1 := Lib.hid (B0.out.trans (hb.mono M0.out.hb));have M1 := Lib.hid (M0.out.below hb);clear hb G0 M0 B0;go_wp2_with (first | (go_at_call 152; refine (KW.out _).mono ?_; rintro e w' ⟨rfl, rfl⟩) | fail);refine (implKeyNum2_c (pagesK id) page ⟨#[]⟩ w1 hpg (Nat.le_trans (pagesK_size hn) (by decide)) (by decide) (HTT.out _ B1.out)).mono ?_;rintro e w2 ⟨rfl, hb⟩;have G2 := Lib.hid (G1.out.below hb);have B2 := Lib.hid (B1.out.trans (hb.mono M1.out.hb));have M2 := Lib.hid (M1.out.below hb);clear hb G1 M1 B1;obtain ⟨m1, u1, HE1, O1⟩ := Pg.Cost.hop (layP (pageK id page) (noB)) (layP_cost _ _) O0;go_wp2_with (first | (go_at_call 152; refine (KW.out _).mono ?_; rintro e w' ⟨rfl, rfl⟩) | fail);refine (pLay_c p base _ _ _ _ _ _ (pageK id page) (noB) _ M2.out (O0.out.mono (by omega)) (kle (pageK_size hn hpg)) (by decide) HE1.out).mono ?_;rintro e w3 ⟨x31, x32, x33, rfl, hm, hg, q1, q2, q3⟩;have G3 := Lib.hid (G2.out.next hg q1 q2 q3);have B3 := Lib.hid (B2.out.trans (M2.out.grow hg));have M3 := Lib.hid hm;clear hm hg q1 q2 q3 G2 M2 B2;obtain ⟨e1, e2⟩ := Prod.mk.inj ((show (m1, 0) = (storeP id page text).run m from by
     unfold storeP;simp only [Pg.run_bind, Pg.run_pure, Pg.run_ret, ↓reduceIte, bz, decide_true, decide_false, ne_eq, eq_self_iff_true, Nat.zero_le, C1.out, (show text.size ≤ 20 from by first | exact c2 | omega | simpa using c2), C3.out, HE1.out]).trans HE.out)
    subst e1 e2;clear HE;have HEND := Lib.hid (G3.out _ _ _ _ (M3.out.step (Below.refl _ _) (.int .i64 0)));clear G3 M3 B3;go_wp2_with (first | (go_at_call 152; refine (KW.out _).mono ?_; rintro e w' ⟨rfl, rfl⟩) | fail);go_ret;exact HEND.out
   ·have C3 := Lib.hid c3;clear c3;have hne := fun t => neq_empty (t := t) (Nat.pos_of_ne_zero C3.out);have hz := hexV_size text;have KHX := Lib.hid (fun W => hexOf_c text W);have hhy : (hyphenS (hexV text)).size ≤ 40001 := by rw [hyphenS_size]; omega
    have HHY := Lib.hid hhy;clear hhy;go_wp2_with (first | (go_at_call 152; refine (KW.out _).mono ?_; rintro e w' ⟨rfl, rfl⟩) | fail);refine (KHX.out _).mono ?_;rintro e w1 ⟨rfl, hb⟩;have G1 := Lib.hid (G0.out.below hb);have B1 := Lib.hid (B0.out.trans (hb.mono M0.out.hb));have M1 := Lib.hid (M0.out.below hb);clear hb G0 M0 B0;go_wp2_with (first | (go_at_call 152; refine (KW.out _).mono ?_; rintro e w' ⟨rfl, rfl⟩) | fail);refine (pagesKey_c id w1 hn (HTT.out _ B1.out)).mono ?_;rintro e w2 ⟨rfl, hb⟩;have G2 := Lib.hid (G1.out.below hb);have B2 := Lib.hid (B1.out.trans (hb.mono M1.out.hb));have M2 := Lib.hid (M1.out.below hb);clear hb G1 M1 B1;go_wp2_with (first | (go_at_call 152; refine (KW.out _).mono ?_; rintro e w' ⟨rfl, rfl⟩) | fail);refine (implKeyNum2_c (pagesK id) page ⟨#[]⟩ w2 hpg (Nat.le_trans (pagesK_size hn) (by decide)) (by decide) (HTT.out _ B2.out)).mono ?_;rintro e w3 ⟨rfl, hb⟩;have G3 := Lib.hid (G2.out.below hb);have B3 := Lib.hid (B2.out.trans (hb.mono M2.out.hb));have M3 := Lib.hid (M2.out.below hb);clear hb G2 M2 B2;obtain ⟨m1, u1, HE1, O1⟩ := Pg.Cost.hop (layP (pageK id page) (hyphenS (hexV text))) (layP_cost _ _) O0;go_wp2_with (first | (go_at_call 152; refine (KW.out _).mono ?_; rintro e w' ⟨rfl, rfl⟩) | fail);refine (pLay_c p base _ _ _ _ _ _ (pageK id page) (hyphenS (hexV text)) _ M3.out (O0.out.mono (by omega)) (kle (pageK_size hn hpg)) ((Nat.le_trans HHY.out (by decide))) HE1.out).mono ?_;rintro e w4 ⟨x41, x42, x43, rfl, hm, hg, q1, q2, q3⟩;have G4 := Lib.hid (G3.out.next hg q1 q2 q3);have B4 := Lib.hid (B3.out.trans (M3.out.grow hg));have M4 := Lib.hid hm;clear hm hg q1 q2 q3 G3 M3 B3;obtain ⟨e1, e2⟩ := Prod.mk.inj ((show (m1, 0) = (storeP id page text).run m from by
     unfold storeP;simp only [Pg.run_bind, Pg.run_pure, Pg.run_ret, ↓reduceIte, bz, decide_true, decide_false, ne_eq, eq_self_iff_true, Nat.zero_le, C1.out, (show text.size ≤ 20 from by first | exact c2 | omega | simpa using c2), C3.out, HE1.out]).trans HE.out)
    subst e1 e2;clear HE;have HEND := Lib.hid (G4.out _ _ _ _ (M4.out.step (Below.refl _ _) (.int .i64 0)));clear G4 M4 B4;go_wp2_with (first | (go_at_call 152; refine (KW.out _).mono ?_; rintro e w' ⟨rfl, rfl⟩) | fail);go_ret;exact HEND.out
  ·have p1 : (20 : Int) < (text.size : Int) := by omega
   obtain ⟨e1, e2⟩ := Prod.mk.inj ((show (m, 4) = (storeP id page text).run m from by
    unfold storeP;simp only [Pg.run_bind, Pg.run_pure, Pg.run_ret, ↓reduceIte, bz, decide_true, decide_false, ne_eq, eq_self_iff_true, Nat.zero_le, C1.out, (show ¬ (text.size ≤ 20) from by first | exact c2 | omega | simpa using c2)]).trans HE.out)
   subst e1 e2;clear HE;have HEND := Lib.hid (G0.out _ _ _ _ (M0.out.step (Below.refl _ _) (.int .i64 4)));clear G0 M0 B0;go_wp2_with (first | (go_at_call 152; refine (KW.out _).mono ?_; rintro e w' ⟨rfl, rfl⟩) | fail);go_ret;exact HEND.out
 ·have C1 := Lib.hid (Bool.eq_false_iff.2 c1);clear c1;have KW := Lib.hid (fun W => within_c page 0 3 W); rw [C1.out] at KW;obtain ⟨e1, e2⟩ := Prod.mk.inj ((show (m, 4) = (storeP id page text).run m from by
   unfold storeP;simp only [Pg.run_bind, Pg.run_pure, Pg.run_ret, ↓reduceIte, bz, decide_true, decide_false, ne_eq, eq_self_iff_true, Nat.zero_le, C1.out]).trans HE.out)
  subst e1 e2;clear HE;have HEND := Lib.hid (G0.out _ _ _ _ (M0.out.step (Below.refl _ _) (.int .i64 4)));clear G0 M0 B0;go_wp2_with (first | (go_at_call 152; refine (KW.out _).mono ?_; rintro e w' ⟨rfl, rfl⟩) | fail);go_ret;exact HEND.out
set_option maxRecDepth 100000 in
set_option maxHeartbeats 8000000 in
theorem pPutOut_c (p base : Nat) (v1 v2 v3 : Value) (m m' : Mch) (x : Int) (text : ByteArray) (w : World) (h : MAt w p base v1 v2 v3 m) (ho : MOk 1700000000000 m) (hs : text.size ≤ 4000000) (HT : ∀ W, Below base w W → Tabs W) (E : (putOutP text).run m = (m', x)) :
 Calls Tryz.prog 119 #[.pointer (some ⟨p, 0, none⟩), .string text] w (MStep p base v1 v2 v3 m' (.int .i64 x) w) := by
 have H := Lib.hid h;have HTT := Lib.hid HT;have O0 := Lib.hid ho;have HE := Lib.hid E;clear h ho HT E;have G0 := Lib.hid (GB.start (p := p) (base := base) (v1 := v1) (v2 := v2) (v3 := v3) (w := w));have M0 := Lib.hid H.out;have B0 := Lib.hid (Below.refl base w);go_enter Tryz.func119, Tryz.ntmps119;by_cases c1 : inB text.size 1 20 = true
 ·have C1 := Lib.hid c1;clear c1;have hb := inB_iff.1 C1.out;have KW := Lib.hid (fun W => within_c (text.size : Int) 1 20 W); rw [C1.out] at KW;obtain ⟨m1, x1, HE1, O1⟩ := Pg.Cost.hop (numP (dnK)) (numP_cost _) O0;have bx1 := numP_bounds HE1.out;go_wp2_with (first | (go_at_call 152; refine (KW.out _).mono ?_; rintro e w' ⟨rfl, rfl⟩) | fail);refine (pNum_c p base _ _ _ _ _ _ (dnK) _ M0.out (O0.out.mono (by omega)) (fun W hW => HTT.out W (B0.out.trans hW)) HE1.out).mono ?_;rintro e w1 ⟨x11, x12, x13, rfl, hm, hg, q1, q2, q3⟩;have G1 := Lib.hid (G0.out.next hg q1 q2 q3);have B1 := Lib.hid (B0.out.trans (M0.out.grow hg));have M1 := Lib.hid hm;clear hm hg q1 q2 q3 G0 M0 B0;by_cases c2 : 40 ≤ x1
  ·obtain ⟨e1, e2⟩ := Prod.mk.inj ((show (m1, 3) = (putOutP text).run m from by
    unfold putOutP;simp only [Pg.run_bind, Pg.run_pure, Pg.run_ret, ↓reduceIte, bz, decide_true, decide_false, ne_eq, eq_self_iff_true, C1.out, HE1.out, (show 40 ≤ x1 from by first | exact c2 | omega | simpa using c2)]).trans HE.out)
   subst e1 e2;clear HE;have HEND := Lib.hid (G1.out _ _ _ _ (M1.out.step (Below.refl _ _) (.int .i64 3)));clear G1 M1 B1;go_wp2_with (first | (go_at_call 152; refine (KW.out _).mono ?_; rintro e w' ⟨rfl, rfl⟩) | fail);go_ret;exact HEND.out
  ·have hwx1 : IntKind.i64.wrap (x1 + 1) = x1 + 1 := by rw [IntKind.wrap_i64]; omega
   have hz := hexV_size text;have KHX := Lib.hid (fun W => hexOf_c text W);have hhy : (hyphenS (hexV text)).size ≤ 40001 := by rw [hyphenS_size]; omega
   have HHY := Lib.hid hhy;clear hhy;obtain ⟨m2, u2, HE2, O2⟩ := Pg.Cost.hop (setP (dnK) (x1 + 1)) (setP_cost _ _) O1;go_wp2_with (first | (go_at_call 152; refine (KW.out _).mono ?_; rintro e w' ⟨rfl, rfl⟩) | fail);refine (pSet_c p base _ _ _ _ _ _ (dnK) (x1 + 1) _ M1.out (O1.out.mono (by omega)) (kle ((by decide))) (fun W hW => HTT.out W (B1.out.trans hW)) HE2.out).mono ?_;rintro e w2 ⟨x21, x22, x23, rfl, hm, hg, q1, q2, q3⟩;have G2 := Lib.hid (G1.out.next hg q1 q2 q3);have B2 := Lib.hid (B1.out.trans (M1.out.grow hg));have M2 := Lib.hid hm;clear hm hg q1 q2 q3 G1 M1 B1;go_wp2_with (first | (go_at_call 152; refine (KW.out _).mono ?_; rintro e w' ⟨rfl, rfl⟩) | fail);refine (implKeyNum2_c dK (x1 + 1) ⟨#[]⟩ w2 (i64_succ bx1) (by decide) (by decide) (HTT.out _ B2.out)).mono ?_;rintro e w3 ⟨rfl, hb⟩;have G3 := Lib.hid (G2.out.below hb);have B3 := Lib.hid (B2.out.trans (hb.mono M2.out.hb));have M3 := Lib.hid (M2.out.below hb);clear hb G2 M2 B2;go_wp2_with (first | (go_at_call 152; refine (KW.out _).mono ?_; rintro e w' ⟨rfl, rfl⟩) | fail);refine (KHX.out _).mono ?_;rintro e w4 ⟨rfl, hb⟩;have G4 := Lib.hid (G3.out.below hb);have B4 := Lib.hid (B3.out.trans (hb.mono M3.out.hb));have M4 := Lib.hid (M3.out.below hb);clear hb G3 M3 B3;obtain ⟨m3, u3, HE3, O3⟩ := Pg.Cost.hop (layP (outK1 (x1 + 1)) (hyphenS (hexV text))) (layP_cost _ _) O2;go_wp2_with (first | (go_at_call 152; refine (KW.out _).mono ?_; rintro e w' ⟨rfl, rfl⟩) | fail);refine (pLay_c p base _ _ _ _ _ _ (outK1 (x1 + 1)) (hyphenS (hexV text)) _ M4.out (O2.out.mono (by omega)) (kle (outK1_size (i64_succ bx1))) ((Nat.le_trans HHY.out (by decide))) HE3.out).mono ?_;rintro e w5 ⟨x51, x52, x53, rfl, hm, hg, q1, q2, q3⟩;have G5 := Lib.hid (G4.out.next hg q1 q2 q3);have B5 := Lib.hid (B4.out.trans (M4.out.grow hg));have M5 := Lib.hid hm;clear hm hg q1 q2 q3 G4 M4 B4;obtain ⟨e1, e2⟩ := Prod.mk.inj ((show (m3, 0) = (putOutP text).run m from by
    unfold putOutP;simp only [Pg.run_bind, Pg.run_pure, Pg.run_ret, ↓reduceIte, bz, decide_true, decide_false, ne_eq, eq_self_iff_true, C1.out, HE1.out, (show ¬ (40 ≤ x1) from by first | exact c2 | omega | simpa using c2), HE2.out, HE3.out]).trans HE.out)
   subst e1 e2;clear HE;have HEND := Lib.hid (G5.out _ _ _ _ (M5.out.step (Below.refl _ _) (.int .i64 0)));clear G5 M5 B5;go_wp2_with (first | (go_at_call 152; refine (KW.out _).mono ?_; rintro e w' ⟨rfl, rfl⟩) | fail);go_ret;exact HEND.out
 ·have C1 := Lib.hid (Bool.eq_false_iff.2 c1);clear c1;have KW := Lib.hid (fun W => within_c (text.size : Int) 1 20 W); rw [C1.out] at KW;obtain ⟨e1, e2⟩ := Prod.mk.inj ((show (m, 4) = (putOutP text).run m from by
   unfold putOutP;simp only [Pg.run_bind, Pg.run_pure, Pg.run_ret, ↓reduceIte, bz, decide_true, decide_false, ne_eq, eq_self_iff_true, C1.out]).trans HE.out)
  subst e1 e2;clear HE;have HEND := Lib.hid (G0.out _ _ _ _ (M0.out.step (Below.refl _ _) (.int .i64 4)));clear G0 M0 B0;go_wp2_with (first | (go_at_call 152; refine (KW.out _).mono ?_; rintro e w' ⟨rfl, rfl⟩) | fail);go_ret;exact HEND.out
set_option maxRecDepth 100000 in
set_option maxHeartbeats 8000000 in
theorem pUnlink_c (p base : Nat) (v1 v2 v3 : Value) (m m' : Mch) (x : Int) (name : ByteArray) (w : World) (h : MAt w p base v1 v2 v3 m) (ho : MOk 800000000000 m) (hs : name.size ≤ 900) (HT : ∀ W, Below base w W → Tabs W) (E : (unlinkP name).run m = (m', x)) :
 Calls Tryz.prog 100 #[.pointer (some ⟨p, 0, none⟩), .string name] w (MStep p base v1 v2 v3 m' (.int .i64 x) w) := by
 have H := Lib.hid h;have HTT := Lib.hid HT;have O0 := Lib.hid ho;have HE := Lib.hid E;clear h ho HT E;have G0 := Lib.hid (GB.start (p := p) (base := base) (v1 := v1) (v2 := v2) (v3 := v3) (w := w));have M0 := Lib.hid H.out;have B0 := Lib.hid (Below.refl base w);go_enter Tryz.func100, Tryz.ntmps100;by_cases c1 : nameOkB name = true
 ·have C1 := Lib.hid c1;clear c1;have KNname := Lib.hid (fun W => implNameOk_c name W (kle (Nat.le_trans hs (by decide))));rw [C1.out] at KNname;obtain ⟨m1, x1, HE1, O1⟩ := Pg.Cost.hop (fileOfP name) (fileOfP_cost _) O0;have bx1 := fileOfP_bounds HE1.out;go_wp2_with (first | (go_at_call 153; with_reducible refine (KNname.out _).mono ?_; rintro e w' ⟨rfl, rfl⟩) | fail);refine (pFileOf_c p base _ _ _ _ _ _ name _ M0.out (O0.out.mono (by omega)) (Nat.le_trans hs (by decide)) (fun W hW => HTT.out W (B0.out.trans hW)) HE1.out).mono ?_;rintro e w1 ⟨x11, x12, x13, rfl, hm, hg, q1, q2, q3⟩;have G1 := Lib.hid (G0.out.next hg q1 q2 q3);have B1 := Lib.hid (B0.out.trans (M0.out.grow hg));have M1 := Lib.hid hm;clear hm hg q1 q2 q3 G0 M0 B0;by_cases c2 : x1 = 0
  ·subst c2;obtain ⟨e1, e2⟩ := Prod.mk.inj ((show (m1, 2) = (unlinkP name).run m from by
    unfold unlinkP;simp only [Pg.run_bind, Pg.run_pure, Pg.run_ret, ↓reduceIte, bz, decide_true, decide_false, ne_eq, eq_self_iff_true, C1.out, HE1.out]).trans HE.out)
   subst e1 e2;clear HE;have HEND := Lib.hid (G1.out _ _ _ _ (M1.out.step (Below.refl _ _) (.int .i64 2)));clear G1 M1 B1;go_wp2_with (first | (go_at_call 153; with_reducible refine (KNname.out _).mono ?_; rintro e w' ⟨rfl, rfl⟩) | fail);go_ret;exact HEND.out
  ·go_wp2_with (first | (go_at_call 153; with_reducible refine (KNname.out _).mono ?_; rintro e w' ⟨rfl, rfl⟩) | fail);refine (nameKey_c name w1 (by omega)).mono ?_;rintro e w2 ⟨rfl, hb⟩;have G2 := Lib.hid (G1.out.below hb);have B2 := Lib.hid (B1.out.trans (hb.mono M1.out.hb));have M2 := Lib.hid (M1.out.below hb);clear hb G1 M1 B1;obtain ⟨m2, u2, HE2, O2⟩ := Pg.Cost.hop (layP (nK name) (noB)) (layP_cost _ _) O1;go_wp2_with (first | (go_at_call 153; with_reducible refine (KNname.out _).mono ?_; rintro e w' ⟨rfl, rfl⟩) | fail);refine (pLay_c p base _ _ _ _ _ _ (nK name) (noB) _ M2.out (O1.out.mono (by omega)) (kle (show (nK name).size ≤ 1000 by have := @nK_size name; omega)) (by decide) HE2.out).mono ?_;rintro e w3 ⟨x31, x32, x33, rfl, hm, hg, q1, q2, q3⟩;have G3 := Lib.hid (G2.out.next hg q1 q2 q3);have B3 := Lib.hid (B2.out.trans (M2.out.grow hg));have M3 := Lib.hid hm;clear hm hg q1 q2 q3 G2 M2 B2;go_wp2_with (first | (go_at_call 153; with_reducible refine (KNname.out _).mono ?_; rintro e w' ⟨rfl, rfl⟩) | fail);refine (linksKey_c x1 w3 (i64_of bx1) (HTT.out _ B3.out)).mono ?_;rintro e w4 ⟨rfl, hb⟩;have G4 := Lib.hid (G3.out.below hb);have B4 := Lib.hid (B3.out.trans (hb.mono M3.out.hb));have M4 := Lib.hid (M3.out.below hb);clear hb G3 M3 B3;obtain ⟨m3, x2, HE3, O3⟩ := Pg.Cost.hop (numP (linksK x1)) (numP_cost _) O2;have bx2 := numP_bounds HE3.out;go_wp2_with (first | (go_at_call 153; with_reducible refine (KNname.out _).mono ?_; rintro e w' ⟨rfl, rfl⟩) | fail);refine (pNum_c p base _ _ _ _ _ _ (linksK x1) _ M4.out (O2.out.mono (by omega)) (fun W hW => HTT.out W (B4.out.trans hW)) HE3.out).mono ?_;rintro e w5 ⟨x51, x52, x53, rfl, hm, hg, q1, q2, q3⟩;have G5 := Lib.hid (G4.out.next hg q1 q2 q3);have B5 := Lib.hid (B4.out.trans (M4.out.grow hg));have M5 := Lib.hid hm;clear hm hg q1 q2 q3 G4 M4 B4;by_cases c3 : 1 < x2
   ·have hwx2 : IntKind.i64.wrap (x2 - 1) = x2 - 1 := by rw [IntKind.wrap_i64]; omega
    go_wp2_with (first | (go_at_call 153; with_reducible refine (KNname.out _).mono ?_; rintro e w' ⟨rfl, rfl⟩) | fail);refine (linksKey_c x1 w5 (i64_of bx1) (HTT.out _ B5.out)).mono ?_;rintro e w6 ⟨rfl, hb⟩;have G6 := Lib.hid (G5.out.below hb);have B6 := Lib.hid (B5.out.trans (hb.mono M5.out.hb));have M6 := Lib.hid (M5.out.below hb);clear hb G5 M5 B5;obtain ⟨m4, u4, HE4, O4⟩ := Pg.Cost.hop (setP (linksK x1) (x2 - 1)) (setP_cost _ _) O3;go_wp2_with (first | (go_at_call 153; with_reducible refine (KNname.out _).mono ?_; rintro e w' ⟨rfl, rfl⟩) | fail);refine (pSet_c p base _ _ _ _ _ _ (linksK x1) (x2 - 1) _ M6.out (O3.out.mono (by omega)) (kle (linksK_size (i64_of bx1))) (fun W hW => HTT.out W (B6.out.trans hW)) HE4.out).mono ?_;rintro e w7 ⟨x71, x72, x73, rfl, hm, hg, q1, q2, q3⟩;have G7 := Lib.hid (G6.out.next hg q1 q2 q3);have B7 := Lib.hid (B6.out.trans (M6.out.grow hg));have M7 := Lib.hid hm;clear hm hg q1 q2 q3 G6 M6 B6;obtain ⟨e1, e2⟩ := Prod.mk.inj ((show (m4, 0) = (unlinkP name).run m from by
     unfold unlinkP;simp only [Pg.run_bind, Pg.run_pure, Pg.run_ret, ↓reduceIte, bz, decide_true, decide_false, ne_eq, eq_self_iff_true, C1.out, HE1.out, (show ¬ ((x1 : Int) = 0) from by first | exact c2 | omega | simpa using c2), HE2.out, HE3.out, (show 1 < x2 from by first | exact c3 | omega | simpa using c3), HE4.out]).trans HE.out)
    subst e1 e2;clear HE;have HEND := Lib.hid (G7.out _ _ _ _ (M7.out.step (Below.refl _ _) (.int .i64 0)));clear G7 M7 B7;go_wp2_with (first | (go_at_call 153; with_reducible refine (KNname.out _).mono ?_; rintro e w' ⟨rfl, rfl⟩) | fail);go_ret;exact HEND.out
   ·go_wp2_with (first | (go_at_call 153; with_reducible refine (KNname.out _).mono ?_; rintro e w' ⟨rfl, rfl⟩) | fail);refine (implKeyNum2_c ⟨#[105, 47]⟩ x1 ⟨#[47]⟩ w5 (i64_of bx1) (by decide) (by decide) (HTT.out _ B5.out)).mono ?_;rintro e w6 ⟨rfl, hb⟩;have G6 := Lib.hid (G5.out.below hb);have B6 := Lib.hid (B5.out.trans (hb.mono M5.out.hb));have M6 := Lib.hid (M5.out.below hb);clear hb G5 M5 B5;obtain ⟨m4, u4, HE4, O4⟩ := Pg.Cost.hop (wipeP (fileK x1)) (wipeP_cost _) O3;go_wp2_with (first | (go_at_call 153; with_reducible refine (KNname.out _).mono ?_; rintro e w' ⟨rfl, rfl⟩) | fail);refine (pWipe_c p base _ _ _ _ _ _ (fileK x1) _ M6.out (O3.out.mono (by omega)) (fileK_size (i64_of bx1)) HE4.out).mono ?_;rintro e w7 ⟨x71, x72, x73, rfl, hm, hg, q1, q2, q3⟩;have G7 := Lib.hid (G6.out.next hg q1 q2 q3);have B7 := Lib.hid (B6.out.trans (M6.out.grow hg));have M7 := Lib.hid hm;clear hm hg q1 q2 q3 G6 M6 B6;obtain ⟨e1, e2⟩ := Prod.mk.inj ((show (m4, 0) = (unlinkP name).run m from by
     unfold unlinkP;simp only [Pg.run_bind, Pg.run_pure, Pg.run_ret, ↓reduceIte, bz, decide_true, decide_false, ne_eq, eq_self_iff_true, C1.out, HE1.out, (show ¬ ((x1 : Int) = 0) from by first | exact c2 | omega | simpa using c2), HE2.out, HE3.out, (show ¬ (1 < x2) from by first | exact c3 | omega | simpa using c3), HE4.out]).trans HE.out)
    subst e1 e2;clear HE;have HEND := Lib.hid (G7.out _ _ _ _ (M7.out.step (Below.refl _ _) (.int .i64 0)));clear G7 M7 B7;go_wp2_with (first | (go_at_call 153; with_reducible refine (KNname.out _).mono ?_; rintro e w' ⟨rfl, rfl⟩) | fail);go_ret;exact HEND.out
 ·have C1 := Lib.hid (Bool.eq_false_iff.2 c1);clear c1;have KNname := Lib.hid (fun W => implNameOk_c name W (kle (Nat.le_trans hs (by decide))));rw [C1.out] at KNname;obtain ⟨e1, e2⟩ := Prod.mk.inj ((show (m, 4) = (unlinkP name).run m from by
   unfold unlinkP;simp only [Pg.run_bind, Pg.run_pure, Pg.run_ret, ↓reduceIte, bz, decide_true, decide_false, ne_eq, eq_self_iff_true, C1.out]).trans HE.out)
  subst e1 e2;clear HE;have HEND := Lib.hid (G0.out _ _ _ _ (M0.out.step (Below.refl _ _) (.int .i64 4)));clear G0 M0 B0;go_wp2_with (first | (go_at_call 153; with_reducible refine (KNname.out _).mono ?_; rintro e w' ⟨rfl, rfl⟩) | fail);go_ret;exact HEND.out
set_option maxRecDepth 100000 in
set_option maxHeartbeats 8000000 in
theorem pRename_c (p base : Nat) (v1 v2 v3 : Value) (m m' : Mch) (x : Int) (a : ByteArray) (b : ByteArray) (w : World) (h : MAt w p base v1 v2 v3 m) (ho : MOk 700000000000 m) (hs : a.size ≤ 900) (hs2 : b.size ≤ 900) (HT : ∀ W, Below base w W → Tabs W) (E : (renameP a b).run m = (m', x)) :
 Calls Tryz.prog 101 #[.pointer (some ⟨p, 0, none⟩), .string a, .string b] w (MStep p base v1 v2 v3 m' (.int .i64 x) w) := by
 have H := Lib.hid h;have HTT := Lib.hid HT;have O0 := Lib.hid ho;have HE := Lib.hid E;clear h ho HT E;have G0 := Lib.hid (GB.start (p := p) (base := base) (v1 := v1) (v2 := v2) (v3 := v3) (w := w));have M0 := Lib.hid H.out;have B0 := Lib.hid (Below.refl base w);go_enter Tryz.func101, Tryz.ntmps101;by_cases c1 : nameOkB a = true
 ·have C1 := Lib.hid c1;clear c1;have KNa := Lib.hid (fun W => implNameOk_c a W (kle (Nat.le_trans hs (by decide))));rw [C1.out] at KNa;by_cases c2 : nameOkB b = true
  ·have C2 := Lib.hid c2;clear c2;have KNb := Lib.hid (fun W => implNameOk_c b W (kle (Nat.le_trans hs2 (by decide))));rw [C2.out] at KNb;obtain ⟨m1, x1, HE1, O1⟩ := Pg.Cost.hop (fileOfP a) (fileOfP_cost _) O0;have bx1 := fileOfP_bounds HE1.out;go_wp2_with (first | (go_at_call 153; with_reducible refine (KNa.out _).mono ?_; rintro e w' ⟨rfl, rfl⟩) | (go_at_call 153; with_reducible refine (KNb.out _).mono ?_; rintro e w' ⟨rfl, rfl⟩) | fail);refine (pFileOf_c p base _ _ _ _ _ _ a _ M0.out (O0.out.mono (by omega)) (Nat.le_trans hs (by decide)) (fun W hW => HTT.out W (B0.out.trans hW)) HE1.out).mono ?_;rintro e w1 ⟨x11, x12, x13, rfl, hm, hg, q1, q2, q3⟩;have G1 := Lib.hid (G0.out.next hg q1 q2 q3);have B1 := Lib.hid (B0.out.trans (M0.out.grow hg));have M1 := Lib.hid hm;clear hm hg q1 q2 q3 G0 M0 B0;by_cases c3 : x1 = 0
   ·subst c3;obtain ⟨e1, e2⟩ := Prod.mk.inj ((show (m1, 2) = (renameP a b).run m from by
     unfold renameP;simp only [Pg.run_bind, Pg.run_pure, Pg.run_ret, ↓reduceIte, bz, decide_true, decide_false, ne_eq, eq_self_iff_true, C1.out, C2.out, HE1.out]).trans HE.out)
    subst e1 e2;clear HE;have HEND := Lib.hid (G1.out _ _ _ _ (M1.out.step (Below.refl _ _) (.int .i64 2)));clear G1 M1 B1;go_wp2_with (first | (go_at_call 153; with_reducible refine (KNa.out _).mono ?_; rintro e w' ⟨rfl, rfl⟩) | (go_at_call 153; with_reducible refine (KNb.out _).mono ?_; rintro e w' ⟨rfl, rfl⟩) | fail);go_ret;exact HEND.out
   ·obtain ⟨m2, x2, HE2, O2⟩ := Pg.Cost.hop (fileOfP b) (fileOfP_cost _) O1;have bx2 := fileOfP_bounds HE2.out;go_wp2_with (first | (go_at_call 153; with_reducible refine (KNa.out _).mono ?_; rintro e w' ⟨rfl, rfl⟩) | (go_at_call 153; with_reducible refine (KNb.out _).mono ?_; rintro e w' ⟨rfl, rfl⟩) | fail);refine (pFileOf_c p base _ _ _ _ _ _ b _ M1.out (O1.out.mono (by omega)) (Nat.le_trans hs2 (by decide)) (fun W hW => HTT.out W (B1.out.trans hW)) HE2.out).mono ?_;rintro e w2 ⟨x21, x22, x23, rfl, hm, hg, q1, q2, q3⟩;have G2 := Lib.hid (G1.out.next hg q1 q2 q3);have B2 := Lib.hid (B1.out.trans (M1.out.grow hg));have M2 := Lib.hid hm;clear hm hg q1 q2 q3 G1 M1 B1;by_cases c4 : x2 = x1
    ·subst c4;obtain ⟨e1, e2⟩ := Prod.mk.inj ((show (m2, 0) = (renameP a b).run m from by
      unfold renameP;simp only [Pg.run_bind, Pg.run_pure, Pg.run_ret, ↓reduceIte, bz, decide_true, decide_false, ne_eq, eq_self_iff_true, C1.out, C2.out, HE1.out, (show ¬ ((x2 : Int) = 0) from by first | exact c3 | omega | simpa using c3), HE2.out]).trans HE.out)
     subst e1 e2;clear HE;have HEND := Lib.hid (G2.out _ _ _ _ (M2.out.step (Below.refl _ _) (.int .i64 0)));clear G2 M2 B2;go_wp2_with (first | (go_at_call 153; with_reducible refine (KNa.out _).mono ?_; rintro e w' ⟨rfl, rfl⟩) | (go_at_call 153; with_reducible refine (KNb.out _).mono ?_; rintro e w' ⟨rfl, rfl⟩) | fail);go_ret;exact HEND.out
    ·by_cases c5 : x2 = 0
     ·subst c5;go_wp2_with (first | (go_at_call 153; with_reducible refine (KNa.out _).mono ?_; rintro e w' ⟨rfl, rfl⟩) | (go_at_call 153; with_reducible refine (KNb.out _).mono ?_; rintro e w' ⟨rfl, rfl⟩) | fail);refine (nameKey_c b w2 (by omega)).mono ?_;rintro e w3 ⟨rfl, hb⟩;have G3 := Lib.hid (G2.out.below hb);have B3 := Lib.hid (B2.out.trans (hb.mono M2.out.hb));have M3 := Lib.hid (M2.out.below hb);clear hb G2 M2 B2;obtain ⟨m3, u3, HE3, O3⟩ := Pg.Cost.hop (setP (nK b) (x1)) (setP_cost _ _) O2;go_wp2_with (first | (go_at_call 153; with_reducible refine (KNa.out _).mono ?_; rintro e w' ⟨rfl, rfl⟩) | (go_at_call 153; with_reducible refine (KNb.out _).mono ?_; rintro e w' ⟨rfl, rfl⟩) | fail);refine (pSet_c p base _ _ _ _ _ _ (nK b) (x1) _ M3.out (O2.out.mono (by omega)) (kle (show (nK b).size ≤ 1000 by have := @nK_size b; omega)) (fun W hW => HTT.out W (B3.out.trans hW)) HE3.out).mono ?_;rintro e w4 ⟨x41, x42, x43, rfl, hm, hg, q1, q2, q3⟩;have G4 := Lib.hid (G3.out.next hg q1 q2 q3);have B4 := Lib.hid (B3.out.trans (M3.out.grow hg));have M4 := Lib.hid hm;clear hm hg q1 q2 q3 G3 M3 B3;go_wp2_with (first | (go_at_call 153; with_reducible refine (KNa.out _).mono ?_; rintro e w' ⟨rfl, rfl⟩) | (go_at_call 153; with_reducible refine (KNb.out _).mono ?_; rintro e w' ⟨rfl, rfl⟩) | fail);refine (nameKey_c a w4 (by omega)).mono ?_;rintro e w5 ⟨rfl, hb⟩;have G5 := Lib.hid (G4.out.below hb);have B5 := Lib.hid (B4.out.trans (hb.mono M4.out.hb));have M5 := Lib.hid (M4.out.below hb);clear hb G4 M4 B4;obtain ⟨m4, u4, HE4, O4⟩ := Pg.Cost.hop (layP (nK a) (noB)) (layP_cost _ _) O3;go_wp2_with (first | (go_at_call 153; with_reducible refine (KNa.out _).mono ?_; rintro e w' ⟨rfl, rfl⟩) | (go_at_call 153; with_reducible refine (KNb.out _).mono ?_; rintro e w' ⟨rfl, rfl⟩) | fail);refine (pLay_c p base _ _ _ _ _ _ (nK a) (noB) _ M5.out (O3.out.mono (by omega)) (kle (show (nK a).size ≤ 1000 by have := @nK_size a; omega)) (by decide) HE4.out).mono ?_;rintro e w6 ⟨x61, x62, x63, rfl, hm, hg, q1, q2, q3⟩;have G6 := Lib.hid (G5.out.next hg q1 q2 q3);have B6 := Lib.hid (B5.out.trans (M5.out.grow hg));have M6 := Lib.hid hm;clear hm hg q1 q2 q3 G5 M5 B5;obtain ⟨e1, e2⟩ := Prod.mk.inj ((show (m4, 0) = (renameP a b).run m from by
       unfold renameP;simp only [Pg.run_bind, Pg.run_pure, Pg.run_ret, ↓reduceIte, bz, decide_true, decide_false, ne_eq, eq_self_iff_true, C1.out, C2.out, HE1.out, (show ¬ ((x1 : Int) = 0) from by first | exact c3 | omega | simpa using c3), HE2.out, (show ¬ ((0) = x1) from by first | exact c4 | omega | simpa using c4), HE3.out, HE4.out]).trans HE.out)
      subst e1 e2;clear HE;have HEND := Lib.hid (G6.out _ _ _ _ (M6.out.step (Below.refl _ _) (.int .i64 0)));clear G6 M6 B6;go_wp2_with (first | (go_at_call 153; with_reducible refine (KNa.out _).mono ?_; rintro e w' ⟨rfl, rfl⟩) | (go_at_call 153; with_reducible refine (KNb.out _).mono ?_; rintro e w' ⟨rfl, rfl⟩) | fail);go_ret;exact HEND.out
     ·obtain ⟨m3, xu, HE3, O3⟩ := Pg.Cost.hop (unlinkP b) (unlinkP_cost _) O2;go_wp2_with (first | (go_at_call 153; with_reducible refine (KNa.out _).mono ?_; rintro e w' ⟨rfl, rfl⟩) | (go_at_call 153; with_reducible refine (KNb.out _).mono ?_; rintro e w' ⟨rfl, rfl⟩) | fail);refine (pUnlink_c p base _ _ _ _ _ _ b _ M2.out (O2.out.mono (by omega)) hs2 (fun W hW => HTT.out W (B2.out.trans hW)) HE3.out).mono ?_;rintro e w3 ⟨x31, x32, x33, rfl, hm, hg, q1, q2, q3⟩;have G3 := Lib.hid (G2.out.next hg q1 q2 q3);have B3 := Lib.hid (B2.out.trans (M2.out.grow hg));have M3 := Lib.hid hm;clear hm hg q1 q2 q3 G2 M2 B2;go_wp2_with (first | (go_at_call 153; with_reducible refine (KNa.out _).mono ?_; rintro e w' ⟨rfl, rfl⟩) | (go_at_call 153; with_reducible refine (KNb.out _).mono ?_; rintro e w' ⟨rfl, rfl⟩) | fail);refine (nameKey_c b w3 (by omega)).mono ?_;rintro e w4 ⟨rfl, hb⟩;have G4 := Lib.hid (G3.out.below hb);have B4 := Lib.hid (B3.out.trans (hb.mono M3.out.hb));have M4 := Lib.hid (M3.out.below hb);clear hb G3 M3 B3;obtain ⟨m4, u4, HE4, O4⟩ := Pg.Cost.hop (setP (nK b) (x1)) (setP_cost _ _) O3;go_wp2_with (first | (go_at_call 153; with_reducible refine (KNa.out _).mono ?_; rintro e w' ⟨rfl, rfl⟩) | (go_at_call 153; with_reducible refine (KNb.out _).mono ?_; rintro e w' ⟨rfl, rfl⟩) | fail);refine (pSet_c p base _ _ _ _ _ _ (nK b) (x1) _ M4.out (O3.out.mono (by omega)) (kle (show (nK b).size ≤ 1000 by have := @nK_size b; omega)) (fun W hW => HTT.out W (B4.out.trans hW)) HE4.out).mono ?_;rintro e w5 ⟨x51, x52, x53, rfl, hm, hg, q1, q2, q3⟩;have G5 := Lib.hid (G4.out.next hg q1 q2 q3);have B5 := Lib.hid (B4.out.trans (M4.out.grow hg));have M5 := Lib.hid hm;clear hm hg q1 q2 q3 G4 M4 B4;go_wp2_with (first | (go_at_call 153; with_reducible refine (KNa.out _).mono ?_; rintro e w' ⟨rfl, rfl⟩) | (go_at_call 153; with_reducible refine (KNb.out _).mono ?_; rintro e w' ⟨rfl, rfl⟩) | fail);refine (nameKey_c a w5 (by omega)).mono ?_;rintro e w6 ⟨rfl, hb⟩;have G6 := Lib.hid (G5.out.below hb);have B6 := Lib.hid (B5.out.trans (hb.mono M5.out.hb));have M6 := Lib.hid (M5.out.below hb);clear hb G5 M5 B5;obtain ⟨m5, u5, HE5, O5⟩ := Pg.Cost.hop (layP (nK a) (noB)) (layP_cost _ _) O4;go_wp2_with (first | (go_at_call 153; with_reducible refine (KNa.out _).mono ?_; rintro e w' ⟨rfl, rfl⟩) | (go_at_call 153; with_reducible refine (KNb.out _).mono ?_; rintro e w' ⟨rfl, rfl⟩) | fail);refine (pLay_c p base _ _ _ _ _ _ (nK a) (noB) _ M6.out (O4.out.mono (by omega)) (kle (show (nK a).size ≤ 1000 by have := @nK_size a; omega)) (by decide) HE5.out).mono ?_;rintro e w7 ⟨x71, x72, x73, rfl, hm, hg, q1, q2, q3⟩;have G7 := Lib.hid (G6.out.next hg q1 q2 q3);have B7 := Lib.hid (B6.out.trans (M6.out.grow hg));have M7 := Lib.hid hm;clear hm hg q1 q2 q3 G6 M6 B6;obtain ⟨e1, e2⟩ := Prod.mk.inj ((show (m5, 0) = (renameP a b).run m from by
       unfold renameP;simp only [Pg.run_bind, Pg.run_pure, Pg.run_ret, ↓reduceIte, bz, decide_true, decide_false, ne_eq, eq_self_iff_true, C1.out, C2.out, HE1.out, (show ¬ ((x1 : Int) = 0) from by first | exact c3 | omega | simpa using c3), HE2.out, (show ¬ (x2 = x1) from by first | exact c4 | omega | simpa using c4), (show ¬ ((x2 : Int) = 0) from by first | exact c5 | omega | simpa using c5), HE3.out, HE4.out, HE5.out]).trans HE.out)
      subst e1 e2;clear HE;have HEND := Lib.hid (G7.out _ _ _ _ (M7.out.step (Below.refl _ _) (.int .i64 0)));clear G7 M7 B7;go_wp2_with (first | (go_at_call 153; with_reducible refine (KNa.out _).mono ?_; rintro e w' ⟨rfl, rfl⟩) | (go_at_call 153; with_reducible refine (KNb.out _).mono ?_; rintro e w' ⟨rfl, rfl⟩) | fail);go_ret;exact HEND.out
  ·have C2 := Lib.hid (Bool.eq_false_iff.2 c2);clear c2;have KNb := Lib.hid (fun W => implNameOk_c b W (kle (Nat.le_trans hs2 (by decide))));rw [C2.out] at KNb;obtain ⟨e1, e2⟩ := Prod.mk.inj ((show (m, 4) = (renameP a b).run m from by
    unfold renameP;simp only [Pg.run_bind, Pg.run_pure, Pg.run_ret, ↓reduceIte, bz, decide_true, decide_false, ne_eq, eq_self_iff_true, C1.out, C2.out]).trans HE.out)
   subst e1 e2;clear HE;have HEND := Lib.hid (G0.out _ _ _ _ (M0.out.step (Below.refl _ _) (.int .i64 4)));clear G0 M0 B0;go_wp2_with (first | (go_at_call 153; with_reducible refine (KNa.out _).mono ?_; rintro e w' ⟨rfl, rfl⟩) | (go_at_call 153; with_reducible refine (KNb.out _).mono ?_; rintro e w' ⟨rfl, rfl⟩) | fail);go_ret;exact HEND.out
 ·have C1 := Lib.hid (Bool.eq_false_iff.2 c1);clear c1;have KNa := Lib.hid (fun W => implNameOk_c a W (kle (Nat.le_trans hs (by decide))));rw [C1.out] at KNa;obtain ⟨e1, e2⟩ := Prod.mk.inj ((show (m, 4) = (renameP a b).run m from by
   unfold renameP;simp only [Pg.run_bind, Pg.run_pure, Pg.run_ret, ↓reduceIte, bz, decide_true, decide_false, ne_eq, eq_self_iff_true, C1.out]).trans HE.out)
  subst e1 e2;clear HE;have HEND := Lib.hid (G0.out _ _ _ _ (M0.out.step (Below.refl _ _) (.int .i64 4)));clear G0 M0 B0;go_wp2_with (first | (go_at_call 153; with_reducible refine (KNa.out _).mono ?_; rintro e w' ⟨rfl, rfl⟩) | (go_at_call 153; with_reducible refine (KNb.out _).mono ?_; rintro e w' ⟨rfl, rfl⟩) | fail);go_ret;exact HEND.out
set_option maxRecDepth 100000 in
set_option maxHeartbeats 8000000 in
theorem pReap_c (p base : Nat) (v1 v2 v3 : Value) (m m' : Mch) (x y : Int) (parent : Int) (id : Int) (w : World) (h : MAt w p base v1 v2 v3 m) (ho : MOk 800000000000 m) (hn : I64 id) (HT : ∀ W, Below base w W → Tabs W) (E : (reapP parent id).run m = (m', (x, y))) :
 Calls Tryz.prog 110 #[.pointer (some ⟨p, 0, none⟩), .int .i64 parent, .int .i64 id] w (MStep p base v1 v2 v3 m' (.tuple #[.int .i64 x, .int .i64 y]) w) := by
 have H := Lib.hid h;have HTT := Lib.hid HT;have O0 := Lib.hid ho;have HE := Lib.hid E;clear h ho HT E;have G0 := Lib.hid (GB.start (p := p) (base := base) (v1 := v1) (v2 := v2) (v3 := v3) (w := w));have M0 := Lib.hid H.out;have B0 := Lib.hid (Below.refl base w);go_enter Tryz.func110, Tryz.ntmps110;go_wp2_with fail;refine (procKey2_c id tP w hn (by decide) (HTT.out _ B0.out)).mono ?_;rintro e w1 ⟨rfl, hb⟩;have G1 := Lib.hid (G0.out.below hb);have B1 := Lib.hid (B0.out.trans (hb.mono M0.out.hb));have M1 := Lib.hid (M0.out.below hb);clear hb G0 M0 B0;obtain ⟨m1, x1, HE1, O1⟩ := Pg.Cost.hop (numP (procK id tP)) (numP_cost _) O0;have bx1 := numP_bounds HE1.out;go_wp2_with fail;refine (pNum_c p base _ _ _ _ _ _ (procK id tP) _ M1.out (O0.out.mono (by omega)) (fun W hW => HTT.out W (B1.out.trans hW)) HE1.out).mono ?_;rintro e w2 ⟨x21, x22, x23, rfl, hm, hg, q1, q2, q3⟩;have G2 := Lib.hid (G1.out.next hg q1 q2 q3);have B2 := Lib.hid (B1.out.trans (M1.out.grow hg));have M2 := Lib.hid hm;clear hm hg q1 q2 q3 G1 M1 B1;by_cases c1 : x1 = 0
 ·subst c1;obtain ⟨e1, e2⟩ := Prod.mk.inj ((show (m1, (0, 2)) = (reapP parent id).run m from by
   unfold reapP;simp only [Pg.run_bind, Pg.run_pure, Pg.run_ret, ↓reduceIte, bz, decide_true, decide_false, ne_eq, eq_self_iff_true, HE1.out]).trans HE.out)
  obtain ⟨e2, e3⟩ := Prod.mk.inj e2;subst e1 e2 e3;clear HE;have HEND := Lib.hid (G2.out _ _ _ _ (M2.out.step (Below.refl _ _) (.tuple #[.int .i64 0, .int .i64 2])));clear G2 M2 B2;go_wp2;go_ret2;exact HEND.out
 ·by_cases c2 : x1 = parent
  ·subst c2;obtain ⟨m2, x2, HE2, O2⟩ := Pg.Cost.hop (stateP id) (stateP_cost _) O1;have bx2 := numP_bounds HE2.out;go_wp2_with fail;refine (pState_c p base _ _ _ _ _ _ id _ M2.out (O1.out.mono (by omega)) hn (fun W hW => HTT.out W (B2.out.trans hW)) HE2.out).mono ?_;rintro e w3 ⟨x31, x32, x33, rfl, hm, hg, q1, q2, q3⟩;have G3 := Lib.hid (G2.out.next hg q1 q2 q3);have B3 := Lib.hid (B2.out.trans (M2.out.grow hg));have M3 := Lib.hid hm;clear hm hg q1 q2 q3 G2 M2 B2;by_cases c3 : x2 = 1
   ·subst c3;obtain ⟨e1, e2⟩ := Prod.mk.inj ((show (m2, (0, 5)) = (reapP x1 id).run m from by
     unfold reapP;simp only [Pg.run_bind, Pg.run_pure, Pg.run_ret, ↓reduceIte, bz, decide_true, decide_false, ne_eq, eq_self_iff_true, HE1.out, (show ¬ ((x1 : Int) = 0) from by first | exact c1 | omega | simpa using c1), HE2.out]).trans HE.out)
    obtain ⟨e2, e3⟩ := Prod.mk.inj e2;subst e1 e2 e3;clear HE;have HEND := Lib.hid (G3.out _ _ _ _ (M3.out.step (Below.refl _ _) (.tuple #[.int .i64 0, .int .i64 5])));clear G3 M3 B3;go_wp2;go_ret2;exact HEND.out
   ·by_cases c4 : x2 = 2
    ·subst c4;go_wp2_with fail;refine (procKey2_c id tX w3 hn (by decide) (HTT.out _ B3.out)).mono ?_;rintro e w4 ⟨rfl, hb⟩;have G4 := Lib.hid (G3.out.below hb);have B4 := Lib.hid (B3.out.trans (hb.mono M3.out.hb));have M4 := Lib.hid (M3.out.below hb);clear hb G3 M3 B3;obtain ⟨m3, x3, HE3, O3⟩ := Pg.Cost.hop (numP (procK id tX)) (numP_cost _) O2;have bx3 := numP_bounds HE3.out;go_wp2_with fail;refine (pNum_c p base _ _ _ _ _ _ (procK id tX) _ M4.out (O2.out.mono (by omega)) (fun W hW => HTT.out W (B4.out.trans hW)) HE3.out).mono ?_;rintro e w5 ⟨x51, x52, x53, rfl, hm, hg, q1, q2, q3⟩;have G5 := Lib.hid (G4.out.next hg q1 q2 q3);have B5 := Lib.hid (B4.out.trans (M4.out.grow hg));have M5 := Lib.hid hm;clear hm hg q1 q2 q3 G4 M4 B4;have hwx3 : IntKind.i64.wrap (x3 - 1) = x3 - 1 := by rw [IntKind.wrap_i64]; omega
     go_wp2_with fail;refine (procKey2_c id tSl w5 hn (by decide) (HTT.out _ B5.out)).mono ?_;rintro e w6 ⟨rfl, hb⟩;have G6 := Lib.hid (G5.out.below hb);have B6 := Lib.hid (B5.out.trans (hb.mono M5.out.hb));have M6 := Lib.hid (M5.out.below hb);clear hb G5 M5 B5;obtain ⟨m4, u4, HE4, O4⟩ := Pg.Cost.hop (wipeP (procK id tSl)) (wipeP_cost _) O3;go_wp2_with fail;refine (pWipe_c p base _ _ _ _ _ _ (procK id tSl) _ M6.out (O3.out.mono (by omega)) (procK_size2 hn (by decide)) HE4.out).mono ?_;rintro e w7 ⟨x71, x72, x73, rfl, hm, hg, q1, q2, q3⟩;have G7 := Lib.hid (G6.out.next hg q1 q2 q3);have B7 := Lib.hid (B6.out.trans (M6.out.grow hg));have M7 := Lib.hid hm;clear hm hg q1 q2 q3 G6 M6 B6;obtain ⟨e1, e2⟩ := Prod.mk.inj ((show (m4, (x3 - 1, 0)) = (reapP x1 id).run m from by
      unfold reapP;simp only [Pg.run_bind, Pg.run_pure, Pg.run_ret, ↓reduceIte, bz, decide_true, decide_false, ne_eq, eq_self_iff_true, HE1.out, (show ¬ ((x1 : Int) = 0) from by first | exact c1 | omega | simpa using c1), HE2.out, (show ¬ (((2) : Int) = 1) from by first | exact c3 | omega | simpa using c3), HE3.out, HE4.out]).trans HE.out)
     obtain ⟨e2, e3⟩ := Prod.mk.inj e2;subst e1 e2 e3;clear HE;have HEND := Lib.hid (G7.out _ _ _ _ (M7.out.step (Below.refl _ _) (.tuple #[.int .i64 (x3 - 1), .int .i64 0])));clear G7 M7 B7;go_wp2;go_ret2;exact HEND.out
    ·obtain ⟨e1, e2⟩ := Prod.mk.inj ((show (m2, (0, 2)) = (reapP x1 id).run m from by
      unfold reapP;simp only [Pg.run_bind, Pg.run_pure, Pg.run_ret, ↓reduceIte, bz, decide_true, decide_false, ne_eq, eq_self_iff_true, HE1.out, (show ¬ ((x1 : Int) = 0) from by first | exact c1 | omega | simpa using c1), HE2.out, (show ¬ ((x2 : Int) = 1) from by first | exact c3 | omega | simpa using c3), (show ¬ ((x2 : Int) = 2) from by first | exact c4 | omega | simpa using c4)]).trans HE.out)
     obtain ⟨e2, e3⟩ := Prod.mk.inj e2;subst e1 e2 e3;clear HE;have HEND := Lib.hid (G3.out _ _ _ _ (M3.out.step (Below.refl _ _) (.tuple #[.int .i64 0, .int .i64 2])));clear G3 M3 B3;go_wp2;go_ret2;exact HEND.out
  ·have d2 : (x1 == parent) = false := beq_eq_false_iff_ne.2 c2;have d3 : (x1 != parent) = true := bne_iff_ne.2 c2;obtain ⟨e1, e2⟩ := Prod.mk.inj ((show (m1, (0, 2)) = (reapP parent id).run m from by
    unfold reapP;simp only [Pg.run_bind, Pg.run_pure, Pg.run_ret, ↓reduceIte, bz, decide_true, decide_false, ne_eq, eq_self_iff_true, HE1.out, (show ¬ ((x1 : Int) = 0) from by first | exact c1 | omega | simpa using c1), (show ¬ (x1 = parent) from by first | exact c2 | omega | simpa using c2)]).trans HE.out)
   obtain ⟨e2, e3⟩ := Prod.mk.inj e2;subst e1 e2 e3;clear HE;have HEND := Lib.hid (G2.out _ _ _ _ (M2.out.step (Below.refl _ _) (.tuple #[.int .i64 0, .int .i64 2])));clear G2 M2 B2;go_wp2;go_ret2;exact HEND.out
set_option maxRecDepth 100000 in
set_option maxHeartbeats 8000000 in
theorem pDrop_c (p base : Nat) (v1 v2 v3 : Value) (m m' : Mch) (x : Unit) (id : Int) (w : World) (h : MAt w p base v1 v2 v3 m) (ho : MOk 800000000000 m) (hn : I64 id) (HT : ∀ W, Below base w W → Tabs W) (E : (dropPagesP id).run m = (m', x)) :
 Calls Tryz.prog 109 #[.pointer (some ⟨p, 0, none⟩), .int .i64 id] w (MStep p base v1 v2 v3 m' (.tuple #[]) w) := by
 have H := Lib.hid h;have HTT := Lib.hid HT;have O0 := Lib.hid ho;have HE := Lib.hid E;clear h ho HT E;have G0 := Lib.hid (GB.start (p := p) (base := base) (v1 := v1) (v2 := v2) (v3 := v3) (w := w));have M0 := Lib.hid H.out;have B0 := Lib.hid (Below.refl base w);go_enter Tryz.func109, Tryz.ntmps109;go_wp2_with fail;refine (pagesKey_c id w hn (HTT.out _ B0.out)).mono ?_;rintro e w1 ⟨rfl, hb⟩;have G1 := Lib.hid (G0.out.below hb);have B1 := Lib.hid (B0.out.trans (hb.mono M0.out.hb));have M1 := Lib.hid (M0.out.below hb);clear hb G0 M0 B0;obtain ⟨m1, u1, HE1, O1⟩ := Pg.Cost.hop (wipeP (pagesK id)) (wipeP_cost _) O0;go_wp2_with fail;refine (pWipe_c p base _ _ _ _ _ _ (pagesK id) _ M1.out (O0.out.mono (by omega)) (pagesK_size hn) HE1.out).mono ?_;rintro e w2 ⟨x21, x22, x23, rfl, hm, hg, q1, q2, q3⟩;have G2 := Lib.hid (G1.out.next hg q1 q2 q3);have B2 := Lib.hid (B1.out.trans (M1.out.grow hg));have M2 := Lib.hid hm;clear hm hg q1 q2 q3 G1 M1 B1;obtain ⟨e1, e2⟩ := Prod.mk.inj ((show (m1, u1) = (dropPagesP id).run m from by
  unfold dropPagesP;simp only [Pg.run_bind, Pg.run_pure, Pg.run_ret, ↓reduceIte, bz, decide_true, decide_false, ne_eq, eq_self_iff_true, HE1.out]).trans HE.out)
 subst e1;clear HE;have HEND := Lib.hid (G2.out _ _ _ _ (M2.out.step (Below.refl _ _) (.tuple #[])));clear G2 M2 B2;go_wp2;exact bodyPost_ret (v := .tuple #[]) (by simp [results, Tryz.results109, go_sem]) rfl HEND.out
theorem MAt.setCell {W : World} {p base : Nat} {v1 v2 v3 : Value} {m : Mch} (h : MAt W p base v1 v2 v3 m) {b : Nat} (hp : p ≠ b) (n1 : v1.ownBlock ≠ some b) (n2 : v2.ownBlock ≠ some b) (n3 : v3.ownBlock ≠ some b) (i : Nat) (v : Value) : MAt (W.setCell ⟨b, i, none⟩ v) p base v1 v2 v3 m := by
 have gs := grownBy_setCell W b i v;exact ⟨⟨Nat.lt_of_lt_of_le h.box.1 gs.size, h.box.2.elim fun T hT => ⟨T, (gs.block p h.box.1 (fun e => hp (Option.some.inj e))).trans hT⟩⟩, h.o1.kept gs (.inr n1), h.o2.kept gs (.inr n2), h.o3.kept gs (.inr n3), h.n1, h.n2, h.n3, h.d12, h.d13, h.d23, h.hp, Nat.le_trans h.hb gs.size⟩
theorem box_far2 {w : World} {b b' : Nat} {xs : List Value} (h : Box w b xs) (hne : b ≠ b') (i : Nat) (v : Value) : Box (w.setCell ⟨b', i, none⟩ v) b xs := by
 obtain ⟨h1, T, h2⟩ := h;exact ⟨by simpa [World.setCell] using h1, T, (heap_setCell_other w ⟨b', i, none⟩ b v hne).trans h2⟩
structure DAt (p base : Nat) (v1 v2 v3 : Value) (w : World) (cs xs : List Value) (W : World) (u1 u2 u3 : Value) (k : Mch) : Prop where
 at_ : MAt W p base u1 u2 u3 k
 bc : Box W w.heap.size cs
 br : ∃ ys, ys.length = 3 ∧ Box W (w.heap.size + 1) ys
 ba : Box W (w.heap.size + 2) xs
 pl : p < w.heap.size
 far : ∀ i, w.heap.size ≤ i → i < w.heap.size + 3 → u1.ownBlock ≠ some i ∧ u2.ownBlock ≠ some i ∧ u3.ownBlock ≠ some i
 gr : Grow3 w W p v1 v2 v3
 q1 : OwnOr w v1 u1
 q2 : OwnOr w v2 u2
 q3 : OwnOr w v3 u3
section
variable {p base : Nat} {v1 v2 v3 u1 u2 u3 x1 x2 x3 : Value} {w W W' : World} {cs xs : List Value} {m k k' : Mch}
theorem DAt.first (h : MAt w p base v1 v2 v3 m) (cs : List Value) (T T2 T3 : TypeId) : DAt p base v1 v2 v3 w cs [.int .i64 0, .int .i64 0, .string ⟨#[]⟩] (((w.alloc (.cells cs.toArray T)).alloc (.cells #[.int .i64 0, .int .i64 0, .string ⟨#[]⟩] T2)).alloc (.cells #[.int .i64 0, .int .i64 0, .string ⟨#[]⟩] T3)) v1 v2 v3 m := by
 have hb : Below w.heap.size w (((w.alloc (.cells cs.toArray T)).alloc (.cells #[.int .i64 0, .int .i64 0, .string ⟨#[]⟩] T2)).alloc (.cells #[.int .i64 0, .int .i64 0, .string ⟨#[]⟩] T3)) := (by repeat (first | exact Below.refl _ _ | refine Below.drew ?_ | refine below_drewN ?_ _ | refine Below.allocC ?_ _ | refine Below.setCell ?_ (by first | (simp; done) | (simp; omega)) _ | refine Below.chain ?_ (by assumption)));have e1 : (w.alloc (.cells cs.toArray T)).heap.size = w.heap.size + 1 := by simp
 have e2 : ((w.alloc (.cells cs.toArray T)).alloc (.cells #[.int .i64 0, .int .i64 0, .string ⟨#[]⟩] T2)).heap.size = w.heap.size + 2 := by simp
 have h2 := Box.new (w.alloc (.cells cs.toArray T)) [.int .i64 0, .int .i64 0, .string ⟨#[]⟩] T2;have h3 := Box.new ((w.alloc (.cells cs.toArray T)).alloc (.cells #[.int .i64 0, .int .i64 0, .string ⟨#[]⟩] T2)) [.int .i64 0, .int .i64 0, .string ⟨#[]⟩] T3;rw [e1] at h2;rw [e2] at h3;refine ⟨h.below hb, ((Box.new w cs T).alloc _).alloc _, ⟨_, rfl, h2.alloc _⟩, h3, h.box.1, fun i h1 _ => ⟨fun e => ?_, fun e => ?_, fun e => ?_⟩, Grow3.of_below hb, .inl rfl, .inl rfl, .inl rfl⟩
 ·have := (h.o1.lt i e).2; omega
 ·have := (h.o2.lt i e).2; omega
 ·have := (h.o3.lt i e).2; omega
theorem DAt.next (d : DAt p base v1 v2 v3 w cs xs W u1 u2 u3 k) (hm : MAt W' p base x1 x2 x3 k') (hg : Grow3 W W' p u1 u2 u3) (r1 : OwnOr W u1 x1) (r2 : OwnOr W u2 x2) (r3 : OwnOr W u3 x3) : DAt p base v1 v2 v3 w cs xs W' x1 x2 x3 k' := by
 have hs : w.heap.size + 3 ≤ W.heap.size := by have := d.ba.1; omega
 have hp := d.pl;have keep : ∀ (i : Nat) (ys : List Value), w.heap.size ≤ i → i < w.heap.size + 3 → Box W i ys → Box W' i ys := fun i ys h1 h2 hb => by
  obtain ⟨f1, f2, f3⟩ := d.far i h1 h2;exact ⟨Nat.lt_of_lt_of_le hb.1 hg.size, hb.2.elim fun T hT => ⟨T, (hg.block i hb.1 (by omega) f1 f2 f3).trans hT⟩⟩
 refine ⟨hm, keep _ _ (Nat.le_refl _) (by omega) d.bc, d.br.elim fun ys hy => ⟨ys, hy.1, keep _ _ (by omega) (by omega) hy.2⟩, keep _ _ (by omega) (by omega) d.ba, hp, fun i h1 h2 => ?_, d.gr.trans d.q1 d.q2 d.q3 hg, d.q1.trans r1 d.gr.size, d.q2.trans r2 d.gr.size, d.q3.trans r3 d.gr.size⟩;obtain ⟨f1, f2, f3⟩ := d.far i h1 h2;exact ⟨r1.ne (by omega) f1, r2.ne (by omega) f2, r3.ne (by omega) f3⟩
theorem DAt.below (d : DAt p base v1 v2 v3 w cs xs W u1 u2 u3 k) (hb : Below W.heap.size W W') : DAt p base v1 v2 v3 w cs xs W' u1 u2 u3 k := d.next (d.at_.below hb) (Grow3.of_below hb) (.inl rfl) (.inl rfl) (.inl rfl)
theorem grow_set (h : Grow3 w W p v1 v2 v3) {b : Nat} (hb : w.heap.size ≤ b) (i : Nat) (v : Value) : Grow3 w (W.setCell ⟨b, i, none⟩ v) p v1 v2 v3 := by
 have gs := grownBy_setCell W b i v;exact ⟨gs.os.trans h.os, gs.tape.trans h.tape, gs.output.trans h.output, Nat.le_trans h.size gs.size, fun k hk h0 h1 h2 h3 => (gs.block k (Nat.lt_of_lt_of_le hk h.size) (fun e => by have := Option.some.inj e; omega)).trans (h.block k hk h0 h1 h2 h3)⟩
theorem DAt.seta (d : DAt p base v1 v2 v3 w cs xs W u1 u2 u3 k) (i : Nat) (v : Value) : DAt p base v1 v2 v3 w cs (xs.set i v) (W.setCell ⟨w.heap.size + 2, i, none⟩ v) u1 u2 u3 k := by
 have hp := d.pl;obtain ⟨f1, f2, f3⟩ := d.far (w.heap.size + 2) (by omega) (by omega);exact ⟨d.at_.setCell (by omega) f1 f2 f3 i v, box_far2 d.bc (by omega) i v, d.br.elim fun ys hy => ⟨ys, hy.1, box_far2 hy.2 (by omega) i v⟩, box_put d.ba i v, hp, d.far, grow_set d.gr (by omega) i v, d.q1, d.q2, d.q3⟩
theorem DAt.done (d : DAt p base v1 v2 v3 w cs xs W u1 u2 u3 k) (r : Value) (a b c : Value) : MStep p base v1 v2 v3 k r w (.returned r) (((W.setCell ⟨w.heap.size + 1, 0, none⟩ a).setCell ⟨w.heap.size + 1, 1, none⟩ b).setCell ⟨w.heap.size + 1, 2, none⟩ c) := by
 have hp := d.pl;obtain ⟨f1, f2, f3⟩ := d.far (w.heap.size + 1) (by omega) (by omega);have h : ∀ (X : World), MAt X p base u1 u2 u3 k → ∀ i v, MAt (X.setCell ⟨w.heap.size + 1, i, none⟩ v) p base u1 u2 u3 k := fun X hX i v => hX.setCell (by omega) f1 f2 f3 i v;exact ⟨u1, u2, u3, rfl, h _ (h _ (h _ d.at_ 0 a) 1 b) 2 c, grow_set (grow_set (grow_set d.gr (by omega) 0 a) (by omega) 1 b) (by omega) 2 c, d.q1, d.q2, d.q3⟩
theorem DAt.bel (d : DAt p base v1 v2 v3 w cs xs W u1 u2 u3 k) (h : MAt w p base v1 v2 v3 m) : Below base w W := h.grow d.gr
end
structure COk (c : Cal) : Prop where
 a : I64 c.a
 b : I64 c.b
 n : c.name.size ≤ maxLen
 d : c.dest.size ≤ maxLen
 t : c.text.size ≤ maxLen
theorem ok_sizes {c : Cal} (h : callOkB c = true) : c.name.size ≤ 20 ∧ c.dest.size ≤ 20 ∧ c.text.size ≤ 64 := by
 unfold callOkB at h;simp only [Bool.and_eq_true, decide_eq_true_eq] at h;omega
end Go.Proofs.YtihghflppegnmaaGreatDoor
namespace Go.Proofs.YtihghflppegnmaaGreatDoor
theorem kind1 {p : Int} {c : Cal} (h : c.kind = 1) : kindP p c = (do let x ← makeP c.name; pure (ansN x)) := by unfold kindP; simp [h]
theorem kind2 {p : Int} {c : Cal} (h : c.kind = 2) : kindP p c = (do let x ← linkP c.name c.dest; pure (ansC x)) := by unfold kindP; simp [h]
theorem kind3 {p : Int} {c : Cal} (h : c.kind = 3) : kindP p c = (do let x ← unlinkP c.name; pure (ansC x)) := by unfold kindP; simp [h]
theorem kind4 {p : Int} {c : Cal} (h : c.kind = 4) : kindP p c = (do let x ← renameP c.name c.dest; pure (ansC x)) := by unfold kindP; simp [h]
theorem kind5 {p : Int} {c : Cal} (h : c.kind = 5) : kindP p c = (do let x ← namesP; pure ⟨0, 0, wordsS x⟩) := by unfold kindP; simp [h]
theorem kind6 {p : Int} {c : Cal} (h : c.kind = 6) : kindP p c = fileP c := by unfold kindP; simp [h]
theorem kind7 {p : Int} {c : Cal} (h : c.kind = 7) : kindP p c = fileP c := by unfold kindP; simp [h]
theorem kind8 {p : Int} {c : Cal} (h : c.kind = 8) : kindP p c = fileP c := by unfold kindP; simp [h]
theorem kind9 {p : Int} {c : Cal} (h : c.kind = 9) : kindP p c = (do let x ← mkPipeP; pure (ansN x)) := by unfold kindP; simp [h]
theorem kind10 {p : Int} {c : Cal} (h : c.kind = 10) : kindP p c = (do let x ← putPipeP c.a c.text; pure (ansC x)) := by unfold kindP; simp [h]
theorem kind11 {p : Int} {c : Cal} (h : c.kind = 11) : kindP p c = (do let x ← takePipeP c.a; pure (ansT x)) := by unfold kindP; simp [h]
theorem kind12 {p : Int} {c : Cal} (h : c.kind = 12) : kindP p c = spawnAllP p := by unfold kindP; simp [h]
theorem kind13 {p : Int} {c : Cal} (h : c.kind = 13) : kindP p c = endAllP p c.a := by unfold kindP; simp [h]
theorem kind14 {p : Int} {c : Cal} (h : c.kind = 14) : kindP p c = (do let x ← reapP p c.a; pure (ansN x)) := by unfold kindP; simp [h]
theorem kind15 {p : Int} {c : Cal} (h : c.kind = 15) : kindP p c = (do let x ← kidsP p; pure ⟨0, 0, wordsS (x.map decS)⟩) := by unfold kindP; simp [h]
theorem kind16 {p : Int} {c : Cal} (h : c.kind = 16) : kindP p c = (do let x ← sendP c.a c.b; pure (ansC x)) := by unfold kindP; simp [h]
theorem kind17 {p : Int} {c : Cal} (h : c.kind = 17) : kindP p c = (do let x ← takeSigP p; pure (ansN x)) := by unfold kindP; simp [h]
theorem kind18 {p : Int} {c : Cal} (h : c.kind = 18) : kindP p c = (do let x ← timerP p c.a; pure (ansC x)) := by unfold kindP; simp [h]
theorem kind19 {p : Int} {c : Cal} (h : c.kind = 19) : kindP p c = (do let x ← tickP c.a; pure (ansN x)) := by unfold kindP; simp [h]
theorem kind20 {p : Int} {c : Cal} (h : c.kind = 20) : kindP p c = (do let x ← storeP p c.a c.text; pure (ansC x)) := by unfold kindP; simp [h]
theorem kind21 {p : Int} {c : Cal} (h : c.kind = 21) : kindP p c = (do let x ← loadP p c.a; pure (ansT x)) := by unfold kindP; simp [h]
theorem kind22 {p : Int} {c : Cal} (h : c.kind = 22) : kindP p c = (do let x ← putOutP c.text; pure (ansC x)) := by unfold kindP; simp [h]
theorem spawn_bounds {m m' : Mch} {p x y : Int} (E : (spawnP p).run m = (m', (x, y))) : 0 ≤ x ∧ x ≤ 999 := by
 unfold spawnP at E;rw [Pg.run_bind] at E;split at E
 ·obtain ⟨_, e2⟩ := Prod.mk.inj E;obtain ⟨e2, _⟩ := Prod.mk.inj e2;omega
 ·simp only [Pg.run_bind, Pg.run_pure] at E;obtain ⟨_, e2⟩ := Prod.mk.inj E;obtain ⟨e2, _⟩ := Prod.mk.inj e2;have h := bumpP_bounds (m := ((numP cProc).run m).1) (m' := ((bumpP cProc).run ((numP cProc).run m).1).1) (k := cProc) (x := ((bumpP cProc).run ((numP cProc).run m).1).2) rfl;rw [e2] at h;exact h
end Go.Proofs.YtihghflppegnmaaGreatDoor
namespace Go.Proofs.YtihghflppegnmaaGreatDoor
open Go.ChangeShapes Go.WideShapes Go.ChangeAt Go.RowKit
attribute [local go_sem ↓] Go.wp_at_zero Go.wp_at_succ
set_option maxRecDepth 100000 in
set_option maxHeartbeats 16000000 in
theorem pTick_c (p base : Nat) (v1 v2 v3 : Value) (m m' : Mch) (x y : Int) (n : Int) (w : World) (h : MAt w p base v1 v2 v3 m) (ho : MOk 200000000000 m) (hn : I64 n) (HT : ∀ W, Below base w W → Tabs W) (E : (tickP n).run m = (m', (x, y))) :
 Calls Tryz.prog 116 #[.pointer (some ⟨p, 0, none⟩), .int .i64 n] w (MStep p base v1 v2 v3 m' (.tuple #[.int .i64 x, .int .i64 y]) w) := by
 have H := Lib.hid h;have HTT := Lib.hid HT;have O0 := Lib.hid ho;have hnl := hn.lo;have hnh := hn.hi;clear h ho HT hn;unfold tickP at E;by_cases c1 : n < 1
 ·rw [if_pos c1] at E;obtain ⟨e1, e2⟩ := Prod.mk.inj E;obtain ⟨e2, e3⟩ := Prod.mk.inj e2;subst e1 e2 e3;have HEND := Lib.hid (H.out.step (Below.refl _ _) (.tuple #[.int .i64 0, .int .i64 4]));go_enter Tryz.func116, Tryz.ntmps116;go_wp2;go_ret2;exact HEND.out
 rw [if_neg c1, Pg.run_bind] at E;obtain ⟨m1, x1, E1⟩ : ∃ aa bb, (numP cClock).run m = (aa, bb) := ⟨_, _, rfl⟩;have bx1 := numP_bounds E1;have O1 := Lib.hid ((numP_cost _).okE O0.out E1);rw [E1] at E;simp only at E;have hws : IntKind.i64.wrap (999 - x1) = 999 - x1 := by rw [IntKind.wrap_i64]; omega
 have K1 := Lib.hid (pNum_c p base v1 v2 v3 m m1 x1 cClock w H.out (O0.out.mono (by omega)) HTT.out E1);by_cases c2 : 999 - x1 < n
 ·rw [if_pos c2] at E;obtain ⟨e1, e2⟩ := Prod.mk.inj E;obtain ⟨e2, e3⟩ := Prod.mk.inj e2;subst e1 e2 e3;clear E1 O1;go_enter Tryz.func116, Tryz.ntmps116;go_wp2_with fail;refine K1.out.mono ?_;rintro e w1 ⟨u1, u2, u3, rfl, hm, hg, q1, q2, q3⟩;have HEND := Lib.hid (MStep.next hg q1 q2 q3 (hm.step (Below.refl _ _) (.tuple #[.int .i64 0, .int .i64 3])));clear hm hg q1 q2 q3 K1;go_wp2;go_ret2;exact HEND.out
 rw [if_neg c2, Pg.run_bind] at E;obtain ⟨cl, hcl⟩ : ∃ cl, x1 + n = cl := ⟨_, rfl⟩;have hcb : 1 ≤ cl ∧ cl ≤ 999 := by omega
 rw [hcl] at E;have hwc : IntKind.i64.wrap (x1 + n) = cl := by rw [IntKind.wrap_i64]; omega
 obtain ⟨m2, u, E2⟩ : ∃ aa bb, (setP cClock cl).run m1 = (aa, bb) := ⟨_, _, rfl⟩;have O2 := Lib.hid ((setP_cost _ _).okE O1.out E2);rw [E2] at E;simp only at E;rw [Pg.run_bind] at E;obtain ⟨m3, ks, E3⟩ : ∃ aa bb, (underP tHead).run m2 = (aa, bb) := ⟨_, _, rfl⟩;have O3 := Lib.hid ((underP_cost _).okE O2.out E3);obtain ⟨hsz, hkn⟩ := under_sz O2.out E3;have hpre := under_pre E3;rw [E3] at E;simp only at E;rw [Pg.run_bind] at E;obtain ⟨m4, x4, E4⟩ : ∃ aa bb, (tickL cl ks 0).run m3 = (aa, bb) := ⟨_, _, rfl⟩;rw [E4] at E;obtain ⟨e1, e2⟩ := Prod.mk.inj E;obtain ⟨e2, e3⟩ := Prod.mk.inj e2;subst e1 e2 e3;have HE4 := Lib.hid E4;have HE3 := Lib.hid E3;have HE2 := Lib.hid E2;have HSZ := Lib.hid hsz;have HPRE := Lib.hid hpre;have HWC := Lib.hid hwc;clear E E1 E2 E3 E4 hsz hpre hcl hwc;have hwc2 := HWC.out;go_enter Tryz.func116, Tryz.ntmps116;go_wp2_with fail;refine K1.out.mono ?_;rintro e w1 ⟨u1, u2, u3, rfl, hm, hg, q1, q2, q3⟩;have G1 := Lib.hid (show ∀ m' r e w', MStep p base u1 u2 u3 m' r w1 e w' → MStep p base v1 v2 v3 m' r w e w' from fun _ _ _ _ h => MStep.next hg q1 q2 q3 h);have B1 := Lib.hid (H.out.grow hg);have M1 := Lib.hid hm;have K2 := Lib.hid (pSet_c p base u1 u2 u3 m1 m2 u cClock cl w1 hm (O1.out.mono (by omega)) (by decide) (fun W hW => HTT.out W (B1.out.trans hW)) HE2.out);clear hm hg q1 q2 q3 K1 O1;go_wp2_with fail;refine K2.out.mono ?_;rintro e w2 ⟨s1, s2, s3, rfl, hm, hg, q1, q2, q3⟩;have G2 := Lib.hid (show ∀ m' r e w', MStep p base s1 s2 s3 m' r w2 e w' → MStep p base v1 v2 v3 m' r w e w' from fun _ _ _ _ h => G1.out _ _ _ _ (MStep.next hg q1 q2 q3 h));have B2 := Lib.hid (B1.out.trans (M1.out.grow hg));have M2 := Lib.hid hm;have K3 := Lib.hid (pUnder_c p base s1 s2 s3 m2 m3 ks tHead w2 hm (O2.out.mono (by omega)) (by decide) HE3.out);clear hm hg q1 q2 q3 K2 G1 M1 B1;go_wp2_with fail;refine K3.out.mono ?_;rintro e w3 ⟨t1, t2, t3, a, c, rfl, hm, hg, q1, q2, q3, hk⟩;have L1 := Lib.hid (show LAt p base v1 v2 v3 w a ks w3 t1 t2 t3 m3 (200000000000 + 1 + 1 + 1) from ⟨hm, O3.out, hk, fun _ _ _ _ hs => G2.out _ _ _ _ (MStep.next hg q1 q2 q3 hs), B2.out.trans (M2.out.grow hg)⟩);clear hm hg q1 q2 q3 hk K3 G2 M2 B2 O3 O2 HE2 HE3 H O0;go_wp2;go_loopw [7, 27] (fun xv i wr => ∃ k : Nat, k ≤ ks.length ∧ i = .int .i64 k ∧ ∃ xn : Int, xv = .int .i64 xn ∧ 0 ≤ xn ∧ xn ≤ k ∧ Hid (∃ y1 y2 y3 mk, LAt p base v1 v2 v3 w a ks wr y1 y2 y3 mk (200000000003 + 7 * k) ∧ (tickL cl (ks.drop k) xn).run mk = (m4, x4))) (fun _ i _ => ks.length - (intOf i).toNat)
 case atStart => exact ⟨0, Nat.zero_le _, rfl, 0, rfl, by omega, by omega, Lib.hid ⟨_, _, _, _, L1.out, HE4.out⟩⟩
 case round =>
  obtain ⟨k, hk, rfl, xn, rfl, hx0, hxk, HI⟩ := hrel;obtain ⟨y1, y2, y3, mk, hl, hr⟩ := HI.out;have HL := Lib.hid hl;have HR := Lib.hid hr;clear HI hl hr L1 HE4;by_cases hlt : k < ks.length
  ·obtain ⟨y, hy⟩ := some_of_lt hlt;obtain ⟨b, off, hab, c0⟩ := readFS HL.out.keys.rd (Below.refl _ _) hy;subst hab;have p1 : (0 : Int) ≤ (k : Int) := by omega
   have p2 : (k : Int) < (ks.length : Int) := by omega
   have hys := HSZ.out y (List.mem_of_getElem? hy);have hyp : 2 ≤ y.size := begins_size (HPRE.out y (List.mem_of_getElem? hy));have hr := HR.out;rw [drop_cons hy] at hr;unfold tickL at hr;rw [Pg.run_bind] at hr;obtain ⟨n1, z1, F1⟩ : ∃ aa bb, (numP y).run mk = (aa, bb) := ⟨_, _, rfl⟩;have bz1 := numP_bounds F1;have P1 := Lib.hid ((numP_cost _).okE HL.out.ok F1);have Q1 := Lib.hid (pNum_c p base y1 y2 y3 mk n1 z1 y wr HL.out.at_ (HL.out.ok.mono (by omega)) (fun W hW => HTT.out W (HL.out.bel.trans hW)) F1);rw [F1] at hr;simp only at hr;clear HR hy F1;by_cases d1 : cl < z1
   ·rw [if_pos d1] at hr;have HR2 := Lib.hid hr;clear hr;go_wp2_with fail;refine Q1.out.mono ?_;rintro e w4 ⟨r1, r2, r3, rfl, hm, hg, q1, q2, q3⟩;have L2 := Lib.hid (HL.out.next hm hg q1 q2 q3 P1.out);clear hm hg q1 q2 q3 Q1 P1 HL;go_wp2;go_roundw
    case rel => exact ⟨k + 1, by omega, by go_num, xn, rfl, hx0, by omega, Lib.hid ⟨_, _, _, _, L2.out.mono (by omega), HR2.out⟩⟩
    case measure => simp [intOf]; omega
   ·rw [if_neg d1, Pg.run_bind] at hr;obtain ⟨n2, z2, F2⟩ : ∃ aa bb, (layP y noB).run n1 = (aa, bb) := ⟨_, _, rfl⟩;have P2 := Lib.hid ((layP_cost _ _).okE P1.out F2);rw [F2] at hr;simp only at hr;rw [Pg.run_bind] at hr;have hdn := numOf_bounds (drop2 y);have hdz : (drop2 y).size ≤ 1048576 := by unfold drop2; rw [ByteArray.size_extract]; omega
    have KN := Lib.hid (fun W (h : Tabs W) => implNumOf_c (drop2 y) W (by omega) h.1 h.2.1);have HD2 := Lib.hid (show y.extract 2 y.size = drop2 y from rfl);obtain ⟨dv, hdv⟩ : ∃ dv, numOfV (drop2 y) = dv := ⟨_, rfl⟩;rw [hdv] at hr KN hdn;obtain ⟨n3, z3, F3⟩ : ∃ aa bb, (sendP dv 14).run n2 = (aa, bb) := ⟨_, _, rfl⟩;have P3 := Lib.hid ((sendP_cost _ _).okE P2.out F3);rw [F3] at hr;have HR2 := Lib.hid hr;have HF2 := Lib.hid F2;have HF3 := Lib.hid F3;have hi : I64 dv := i64_of hdn;have hwx : IntKind.i64.wrap (xn + 1) = xn + 1 := by rw [IntKind.wrap_i64]; omega
    clear hr F2 F3 hdv hdz hdn;go_wp2_with fail;refine Q1.out.mono ?_;rintro e w4 ⟨r1, r2, r3, rfl, hm, hg, q1, q2, q3⟩;have L2 := Lib.hid (HL.out.next hm hg q1 q2 q3 P1.out);have Q2 := Lib.hid (pLay_c p base r1 r2 r3 n1 n2 z2 y noB w4 hm (P1.out.mono (by omega)) (by unfold maxLen; omega) (by decide) HF2.out);clear hm hg q1 q2 q3 Q1 P1 HL;go_wp2_with fail;refine Q2.out.mono ?_;rintro e w5 ⟨j1, j2, j3, rfl, hm, hg, q1, q2, q3⟩;have L3 := Lib.hid (L2.out.next hm hg q1 q2 q3 P2.out);clear hm hg q1 q2 q3 Q2 L2;go_wp2_with fail;refine (KN.out _ (HTT.out _ L3.out.bel)).mono ?_;rintro e w6 ⟨rfl, hb6⟩;have L4 := Lib.hid (L3.out.below hb6);have Q3 := Lib.hid (pSend_c p base j1 j2 j3 n2 n3 z3 dv 14 w6 L4.out.at_ (P2.out.mono (by omega)) hi (fun W hW => HTT.out W (L4.out.bel.trans hW)) HF3.out);clear hb6 L3 KN P2;go_wp2_with fail;refine Q3.out.mono ?_;rintro e w7 ⟨i1, i2, i3, rfl, hm, hg, q1, q2, q3⟩;have L5 := Lib.hid (L4.out.next hm hg q1 q2 q3 P3.out);clear hm hg q1 q2 q3 Q3 L4 P3;go_wp2;go_roundw
    case rel => exact ⟨k + 1, by omega, by go_num, xn + 1, rfl, by omega, by omega, Lib.hid ⟨_, _, _, _, L5.out.mono (by omega), HR2.out⟩⟩
    case measure => simp [intOf]; omega
  ·obtain rfl : k = ks.length := by omega
   have p2 : ¬ ((ks.length : Nat) : Int) < (ks.length : Int) := by omega
   have HEND := Lib.hid (show MStep p base v1 v2 v3 m4 (.tuple #[.int .i64 x4, .int .i64 0]) w (.returned (.tuple #[.int .i64 xn, .int .i64 0])) wr from by
    have h := HR.out;rw [List.drop_length] at h;obtain ⟨e1, e2⟩ := Prod.mk.inj (show (mk, xn) = (m4, x4) from h);subst e1 e2;exact HL.out.back _ _ _ _ (HL.out.at_.step (Below.refl _ _) _))
   clear HR HL;go_wp2;go_ret2;exact HEND.out
end Go.Proofs.YtihghflppegnmaaGreatDoor
namespace Go.Proofs.YtihghflppegnmaaGreatDoor
open Go.ChangeShapes Go.WideShapes Go.ChangeAt Go.RowKit Go.Deep
attribute [local go_sem ↓] Go.wp_at_zero Go.wp_at_succ
def encU (x : Int) : List Value := [.int .u8 x]
def okU (x : Int) : Prop := 0 ≤ x ∧ x ≤ 255
def IsRow (k : IntKind) (w : World) (a : Option Addr) (len cap : Nat) (z : List Int) : Prop := k = .u8 ∧ z.length = len ∧ len ≤ maxLen ∧ Reads w a 1 encU z ∧ ∀ x ∈ z, okU x
def Cur (w0 w : World) (c : Nat) : Prop :=
 ∃ a len cap z i h, IsRow .u8 w0 a len cap z ∧ w0.heap.size ≤ c ∧ Below w0.heap.size w0 w ∧ i ≤ len ∧ w.heap[c]? = some (.cells #[.slice a len cap, .int .i64 ((i : Nat) : Int), .int .i64 h] 127 (0, 0))
def Drawn (w0 : World) (c : Nat) (P : Value → World → Prop) (w : World) (e : Ending) (w' : World) : Prop :=
 ∃ v, e = .returned v ∧ P v w' ∧ Cur w0 w' c ∧ w.grownBy w' (some c)
theorem Drawn.from {w0 w W w' : World} {c : Nat} {P : Value → World → Prop} {e : Ending} (hg : w.grownBy W (some c)) (h : Drawn w0 c P W e w') : Drawn w0 c P w e w' := by
 obtain ⟨v, rfl, h1, h2, h3⟩ := h;exact ⟨v, rfl, h1, h2, grownBy_trans hg h3⟩
end Go.Proofs.YtihghflppegnmaaGreatDoor
namespace Go.Proofs.YtihghflppegnmaaGreatDoor
open Go.ChangeShapes Go.WideShapes Go.ChangeAt Go.RowKit
attribute [local go_sem ↓] Go.wp_at_zero Go.wp_at_succ
def encI (x : Int) : List Value := [.int .i64 x]
theorem encI_len (x : Int) : (encI x).length = 1 := rfl
theorem infoInt : (Tryz.prog.info? 3).map (fun i => (i.zero, i.size, i.bytes)) = some (some (.int .i64 0), 1, 8) := by kernel_rfl
structure JAt (p base : Nat) (v1 v2 v3 : Value) (w W : World) (u1 u2 u3 : Value) (k : Mch) : Prop where
 at_ : MAt W p base u1 u2 u3 k
 gr : Grow3 w W p v1 v2 v3
 q1 : OwnOr w v1 u1
 q2 : OwnOr w v2 u2
 q3 : OwnOr w v3 u3
section
variable {p base : Nat} {v1 v2 v3 u1 u2 u3 x1 x2 x3 vo vo' : Value} {w W W' : World} {m k k' : Mch} {a : Option Addr} {ks : List ByteArray} {ol ol2 : List Int}
theorem JAt.first (h : MAt w p base v1 v2 v3 m) : JAt p base v1 v2 v3 w w v1 v2 v3 m := ⟨h, Grow3.of_below (Below.refl _ _), .inl rfl, .inl rfl, .inl rfl⟩
theorem JAt.next (d : JAt p base v1 v2 v3 w W u1 u2 u3 k) (hm : MAt W' p base x1 x2 x3 k') (hg : Grow3 W W' p u1 u2 u3) (r1 : OwnOr W u1 x1) (r2 : OwnOr W u2 x2) (r3 : OwnOr W u3 x3) : JAt p base v1 v2 v3 w W' x1 x2 x3 k' :=
 ⟨hm, d.gr.trans d.q1 d.q2 d.q3 hg, d.q1.trans r1 d.gr.size, d.q2.trans r2 d.gr.size, d.q3.trans r3 d.gr.size⟩
theorem JAt.below (d : JAt p base v1 v2 v3 w W u1 u2 u3 k) (hb : Below W.heap.size W W') : JAt p base v1 v2 v3 w W' u1 u2 u3 k := d.next (d.at_.below hb) (Grow3.of_below hb) (.inl rfl) (.inl rfl) (.inl rfl)
theorem JAt.bel (d : JAt p base v1 v2 v3 w W u1 u2 u3 k) (h : MAt w p base v1 v2 v3 m) : Below base w W := h.grow d.gr
theorem JAt.done (d : JAt p base v1 v2 v3 w W u1 u2 u3 k) (r : Value) : MStep p base v1 v2 v3 k r w (.returned r) W := ⟨u1, u2, u3, rfl, d.at_, d.gr, d.q1, d.q2, d.q3⟩
theorem ownsRow_block {B e size n : Nat} {v : Value} {xs : List Value} (h : W.ownsRow B e size v n xs) (hb : ∀ b, v.ownBlock = some b → W'.heap[b]? = W.heap[b]?) : W'.ownsRow B e size v n xs := by
 refine ⟨h.1, ?_⟩;rcases h.2 with hn | ⟨g, cap, cur, rfl, h1, h2, rest⟩
 ·exact .inl hn
 ·exact .inr ⟨g, cap, cur, rfl, h1, (hb g rfl).trans h2, rest⟩
theorem ownsRow_grow3 {B e size n : Nat} {v : Value} {xs : List Value} (h : W.ownsRow B e size v n xs) (hg : Grow3 W W' p u1 u2 u3) (np : v.ownBlock ≠ some p) (n1 : ∀ b, v.ownBlock = some b → u1.ownBlock ≠ some b) (n2 : ∀ b, v.ownBlock = some b → u2.ownBlock ≠ some b) (n3 : ∀ b, v.ownBlock = some b → u3.ownBlock ≠ some b) : W'.ownsRow B e size v n xs :=
 ownsRow_block h (fun b e => hg.block b (h.lt b e).2 (fun e2 => np (e2 ▸ e)) (n1 b e) (n2 b e) (n3 b e))
theorem MAt.grown (h : MAt W p base u1 u2 u3 k) (hg : W.grownBy W' vo.ownBlock) (np : vo.ownBlock ≠ some p) (n1 : ∀ b, vo.ownBlock = some b → u1.ownBlock ≠ some b) (n2 : ∀ b, vo.ownBlock = some b → u2.ownBlock ≠ some b) (n3 : ∀ b, vo.ownBlock = some b → u3.ownBlock ≠ some b) : MAt W' p base u1 u2 u3 k := by
 have f : ∀ u : Value, (∀ b, vo.ownBlock = some b → u.ownBlock ≠ some b) → u.ownBlock = none ∨ u.ownBlock ≠ vo.ownBlock := fun u hu => by
  cases hv : u.ownBlock with
  | none => exact .inl rfl
  | some b => exact .inr (fun e => hu b e.symm hv)
 exact ⟨⟨Nat.lt_of_lt_of_le h.box.1 hg.size, h.box.2.elim fun T hT => ⟨T, (hg.block p h.box.1 (fun e => np e.symm)).trans hT⟩⟩, h.o1.kept hg (f _ n1), h.o2.kept hg (f _ n2), h.o3.kept hg (f _ n3), h.n1, h.n2, h.n3, h.d12, h.d13, h.d23, h.hp, Nat.le_trans h.hb hg.size⟩
theorem grow_row (h : Grow3 w W p v1 v2 v3) (hg : W.grownBy W' vo.ownBlock) (hge : ∀ b, vo.ownBlock = some b → w.heap.size ≤ b) : Grow3 w W' p v1 v2 v3 :=
 ⟨hg.os.trans h.os, hg.tape.trans h.tape, hg.output.trans h.output, Nat.le_trans h.size hg.size, fun b hb h0 h1 h2 h3 => (hg.block b (Nat.lt_of_lt_of_le hb h.size) (fun e => by have := hge b e.symm; omega)).trans (h.block b hb h0 h1 h2 h3)⟩
structure RAt {α : Type} (T K : Nat) (enc : α → List Value) (p base : Nat) (v1 v2 v3 : Value) (w W : World) (u1 u2 u3 : Value) (k : Mch) (vo : Value) (ol : List α) : Prop where
 j : JAt p base v1 v2 v3 w W u1 u2 u3 k
 o : W.ownsRow w.heap.size T K vo ol.length (ol.flatMap enc)
 np : vo.ownBlock ≠ some p
 n1 : ∀ b, vo.ownBlock = some b → u1.ownBlock ≠ some b
 n2 : ∀ b, vo.ownBlock = some b → u2.ownBlock ≠ some b
 n3 : ∀ b, vo.ownBlock = some b → u3.ownBlock ≠ some b
theorem RAt.first {α : Type} {T K : Nat} {enc : α → List Value} (d : JAt p base v1 v2 v3 w W u1 u2 u3 k) : RAt T K enc p base v1 v2 v3 w W u1 u2 u3 k (.slice none 0 0) [] :=
 ⟨d, World.ownsRow_nil _ _ _ _, by simp [Value.ownBlock], by simp [Value.ownBlock], by simp [Value.ownBlock], by simp [Value.ownBlock]⟩
theorem RAt.next {α : Type} {T K : Nat} {enc : α → List Value} {ol : List α} (h : RAt T K enc p base v1 v2 v3 w W u1 u2 u3 k vo ol) (hm : MAt W' p base x1 x2 x3 k') (hg : Grow3 W W' p u1 u2 u3) (r1 : OwnOr W u1 x1) (r2 : OwnOr W u2 x2) (r3 : OwnOr W u3 x3) : RAt T K enc p base v1 v2 v3 w W' x1 x2 x3 k' vo ol :=
 ⟨h.j.next hm hg r1 r2 r3, ownsRow_grow3 h.o hg h.np h.n1 h.n2 h.n3, h.np, fun b e => r1.ne (h.o.lt b e).2 (h.n1 b e), fun b e => r2.ne (h.o.lt b e).2 (h.n2 b e), fun b e => r3.ne (h.o.lt b e).2 (h.n3 b e)⟩
theorem RAt.below {α : Type} {T K : Nat} {enc : α → List Value} {ol : List α} (h : RAt T K enc p base v1 v2 v3 w W u1 u2 u3 k vo ol) (hb : Below W.heap.size W W') : RAt T K enc p base v1 v2 v3 w W' u1 u2 u3 k vo ol :=
 h.next (h.j.at_.below hb) (Grow3.of_below hb) (.inl rfl) (.inl rfl) (.inl rfl)
theorem RAt.app {α : Type} {T K : Nat} {enc : α → List Value} {ol ol2 : List α} (h : RAt T K enc p base v1 v2 v3 w W u1 u2 u3 k vo ol) (hg : W.grownBy W' vo.ownBlock) (hor : OwnOr W vo vo') (ho : W'.ownsRow w.heap.size T K vo' ol2.length (ol2.flatMap enc)) : RAt T K enc p base v1 v2 v3 w W' u1 u2 u3 k vo' ol2 := by
 have hge : ∀ b, vo.ownBlock = some b → w.heap.size ≤ b := fun b e => (h.o.lt b e).1;have hm := h.j.at_.grown hg h.np h.n1 h.n2 h.n3;have new : ∀ u : Value, (∀ b, u.ownBlock = some b → b < W.heap.size) → (∀ b, vo.ownBlock = some b → u.ownBlock ≠ some b) → ∀ b, vo'.ownBlock = some b → u.ownBlock ≠ some b := fun u hu hn b e e2 => by
  rcases hor with h2 | h2
  ·exact hn b (h2 ▸ e) e2
  ·have := h2 b e; have := hu b e2; omega
 refine ⟨⟨hm, grow_row h.j.gr hg hge, h.j.q1, h.j.q2, h.j.q3⟩, ho, ?_, new _ (fun b e => (h.j.at_.o1.lt b e).2) h.n1, new _ (fun b e => (h.j.at_.o2.lt b e).2) h.n2, new _ (fun b e => (h.j.at_.o3.lt b e).2) h.n3⟩;intro e;rcases hor with h2 | h2
 ·exact h.np (h2 ▸ e)
 ·have := h2 _ e; have := h.j.at_.box.1; omega
structure KidAt (p base : Nat) (v1 v2 v3 : Value) (w : World) (a : Option Addr) (ks : List ByteArray) (W : World) (u1 u2 u3 : Value) (k : Mch) (vo : Value) (ol : List Int) : Prop where
 r : RAt 3 1 encI p base v1 v2 v3 w W u1 u2 u3 k vo ol
 ks : KAt W p u1 u2 u3 a ks
 nk : ∀ b o, a = some ⟨b, o, none⟩ → vo.ownBlock ≠ some b
theorem KidAt.next (h : KidAt p base v1 v2 v3 w a ks W u1 u2 u3 k vo ol) (hm : MAt W' p base x1 x2 x3 k') (hg : Grow3 W W' p u1 u2 u3) (r1 : OwnOr W u1 x1) (r2 : OwnOr W u2 x2) (r3 : OwnOr W u3 x3) : KidAt p base v1 v2 v3 w a ks W' x1 x2 x3 k' vo ol :=
 ⟨h.r.next hm hg r1 r2 r3, h.ks.grow hg r1 r2 r3, h.nk⟩
theorem KidAt.below (h : KidAt p base v1 v2 v3 w a ks W u1 u2 u3 k vo ol) (hb : Below W.heap.size W W') : KidAt p base v1 v2 v3 w a ks W' u1 u2 u3 k vo ol :=
 h.next (h.r.j.at_.below hb) (Grow3.of_below hb) (.inl rfl) (.inl rfl) (.inl rfl)
theorem KidAt.app (h : KidAt p base v1 v2 v3 w a ks W u1 u2 u3 k vo ol) (hg : W.grownBy W' vo.ownBlock) (hor : OwnOr W vo vo') (ho : W'.ownsRow w.heap.size 3 1 vo' ol2.length (ol2.flatMap encI)) : KidAt p base v1 v2 v3 w a ks W' u1 u2 u3 k vo' ol2 := by
 refine ⟨h.r.app hg hor ho, ⟨h.ks.rd.grow hg.size (fun b o e => hg.block b (h.ks.far b o e).1 (fun e2 => h.nk b o e e2.symm)), fun b o e => by obtain ⟨h1, h2, h3, h4, h5⟩ := h.ks.far b o e; exact ⟨Nat.lt_of_lt_of_le h1 hg.size, h2, h3, h4, h5⟩⟩, ?_⟩;intro b o e e2;rcases hor with h2 | h2
 ·exact h.nk b o e (h2 ▸ e2)
 ·have := h2 _ e2; have := (h.ks.far b o e).1; omega
end
def MNames (p base : Nat) (v1 v2 v3 : Value) (m' : Mch) (ns : List ByteArray) (w : World) (e : Ending) (w' : World) : Prop :=
 ∃ u1 u2 u3 a c, e = .returned (.slice a ns.length c) ∧ JAt p base v1 v2 v3 w w' u1 u2 u3 m' ∧ w'.ownsRow w.heap.size 9 1 (.slice a ns.length c) ns.length (ns.flatMap encS)
def MInts (p base : Nat) (v1 v2 v3 : Value) (m' : Mch) (ns : List Int) (w : World) (e : Ending) (w' : World) : Prop :=
 ∃ u1 u2 u3 a c, e = .returned (.slice a ns.length c) ∧ JAt p base v1 v2 v3 w w' u1 u2 u3 m' ∧ w'.ownsRow w.heap.size 3 1 (.slice a ns.length c) ns.length (ns.flatMap encI)
theorem add_run {t : TypeId} {a b : ByteArray} (h : a.size + b.size ≤ 9223372036854775807) : binOp .add t (.string a) (.string b) = pure (.string (a ++ b)) := by
 rw [binOp_string_add];unfold Op.stringOp;simp only;rw [if_neg];show ¬ (((a.size + b.size : Nat) : Int) > 9223372036854775807);omega
theorem namesP_eq : namesP = (underP nHead >>= fun ks => pure (ks.map drop2)) := rfl
theorem map_up {ks : List ByteArray} {k : Nat} {y : ByteArray} (h : ks[k]? = some y) : (ks.take (k + 1)).map drop2 = (ks.take k).map drop2 ++ [drop2 y] := by
 rw [take_snoc_of h, List.map_append];rfl
set_option maxRecDepth 100000 in
set_option maxHeartbeats 8000000 in
theorem pNames_c (p base : Nat) (v1 v2 v3 : Value) (m m' : Mch) (x : List ByteArray) (w : World) (h : MAt w p base v1 v2 v3 m) (ho : MOk 1700000000000 m) (E : namesP.run m = (m', x)) :
 Calls Tryz.prog 102 #[.pointer (some ⟨p, 0, none⟩)] w (MNames p base v1 v2 v3 m' x w) := by
 obtain ⟨i0, hi0, hzz⟩ := Option.map_eq_some_iff.1 infoString;simp only [Prod.mk.injEq] at hzz;have HI := Lib.hid hi0;have HZ := Lib.hid hzz;clear hi0 hzz;obtain ⟨m1, ks, E1⟩ : ∃ aa bb, (underP nHead).run m = (aa, bb) := ⟨_, _, rfl⟩;obtain ⟨e1, e2⟩ := Prod.mk.inj ((show (m1, ks.map drop2) = namesP.run m from by rw [namesP_eq, Pg.run_bind, E1]; rfl).trans E);subst e1 e2;obtain ⟨hsz, hkn⟩ := under_sz ho E1;have HPRE := Lib.hid (under_pre E1);have J0 := Lib.hid (JAt.first h);have KU := Lib.hid (pUnder_c p base v1 v2 v3 m m1 ks nHead w h (ho.mono (by omega)) (by decide) E1);clear h ho E E1 hsz;go_enter Tryz.func102, Tryz.ntmps102;go_wp2_with fail;refine KU.out.mono ?_;rintro e w1 ⟨u1, u2, u3, a, c, rfl, hm, hg, q1, q2, q3, hk⟩;have J1 := Lib.hid (J0.out.next hm hg q1 q2 q3);have HK := Lib.hid hk.rd;clear hm hg q1 q2 q3 hk KU J0;go_wp2;go_loopw [3, 9] (fun v i wr => ∃ k : Nat, k ≤ ks.length ∧ i = .int .i64 k ∧ Hid (wr.ownsRow w1.heap.size 9 1 v k (((ks.take k).map drop2).flatMap encS)) ∧ Below w1.heap.size w1 wr) (fun _ i _ => ks.length - (intOf i).toNat)
 case atStart => exact ⟨0, Nat.zero_le _, rfl, Lib.hid (World.ownsRow_nil _ _ _ _), (by repeat (first | exact Below.refl _ _ | refine Below.drew ?_ | refine below_drewN ?_ _ | refine Below.allocC ?_ _ | refine Below.setCell ?_ (by first | (simp; done) | (simp; omega)) _ | refine Below.chain ?_ (by assumption)))⟩
 case round =>
  obtain ⟨k, hk, rfl, HW, hb⟩ := hrel;have HB := Lib.hid hb;clear hb;have hsz := HB.out.size;by_cases hlt : k < ks.length
  ·obtain ⟨y, hy⟩ := some_of_lt hlt;obtain ⟨b, off, hab, c0⟩ := readFS HK.out HB.out hy;subst hab;have p1 : (0 : Int) ≤ (k : Int) := by omega
   have p2 : (k : Int) < (ks.length : Int) := by omega
   have hyp : 2 ≤ y.size := begins_size (HPRE.out y (List.mem_of_getElem? hy));have hyi : (2 : Int) ≤ (y.size : Int) := by omega
   have HUP := Lib.hid (map_up hy);clear hy;go_wp2_with (at_builtin; refine wpList_append_own2 _ rfl _ _ 29 rfl w1.heap.size 9 i0 _ 1 16 Tryz.underlying29 HI.out HZ.out.1 HZ.out.2.1 HZ.out.2.2 rfl (by decide) _ _ _ rfl (HW.out.alloc _) ⟨wr.heap.size, 0, none⟩ 1 1 [.string (y.extract 2 y.size)] rfl rfl (box_news (Box.new _ _ _)) (by intro u hu; simp at hu; subst hu; rfl) (by unfold maxLen; omega) (by omega) (by simp; omega) ?_);intro v' w' o2 g2 or2;have HB4 := Lib.hid (below_of_own0 (show Below w1.heap.size w1 (wr.alloc (.cells #[.string (y.extract 2 y.size)] 9)) from (by repeat (first | exact Below.refl _ _ | refine Below.drew ?_ | refine below_drewN ?_ _ | refine Below.allocC ?_ _ | refine Below.setCell ?_ (by first | (simp; done) | (simp; omega)) _ | refine Below.chain ?_ (by assumption)))) (HW.out.alloc _) g2);have HW4 := Lib.hid (show w'.ownsRow w1.heap.size 9 1 v' (k + 1) (((ks.take (k + 1)).map drop2).flatMap encS) from by rw [HUP.out, List.flatMap_append]; simpa [encS, drop2] using o2);clear o2 g2 or2 HW c0;go_wp2;go_roundw
   case rel => exact ⟨k + 1, by omega, by go_num, HW4, HB4.out⟩
   case measure => simp [intOf]; omega
  ·obtain rfl : k = ks.length := by omega
   have p2 : ¬ ((ks.length : Nat) : Int) < (ks.length : Int) := by omega
   have hw := HW.out;rw [List.take_length, show ks.length = (ks.map drop2).length from (List.length_map ..).symm] at hw;obtain ⟨ao, co, hvo, _⟩ := reads_of_owns encS_len hw;subst hvo;have hend : MNames p base v1 v2 v3 m1 (ks.map drop2) w (.returned (.slice ao (ks.map drop2).length co)) wr := ⟨u1, u2, u3, ao, co, rfl, J1.out.below HB.out, ownsRow_base hw J1.out.gr.size⟩;rw [List.length_map] at hend;have HEND := Lib.hid hend;clear hend;clear hw HW;go_wp2;go_ret;exact HEND.out
theorem kidsP_eq (p : Int) : kidsP p = (underP rHead >>= fun ks => kidsL p ks []) := rfl
theorem kidsL_cons (p : Int) (k : ByteArray) (ks : List ByteArray) (out : List Int) : kidsL p (k :: ks) out = if kidKey k = true then (numP k >>= fun up => kidsL p ks (if up = p then out ++ [numOfV (k.extract 2 (k.size - 2))] else out)) else kidsL p ks out := rfl
theorem suf_iff {y : ByteArray} (h2 : 2 ≤ y.size) : (y.extract (y.size - 2) y.size).toList = [47, 112] ↔ Lib.hasSuffix y.data.toList [47, 112] = true := by
 have e : (y.extract (y.size - 2) y.size).toList = y.data.toList.drop (y.size - 2) := by
  rw [Lib.toList_data];have hl : y.data.toList.length = y.size := Array.length_toList;have : (y.extract (y.size - 2) y.size).data.toList = (y.data.toList.drop (y.size - 2)).take (y.size - (y.size - 2)) := by simp [ByteArray.data_extract]
  rw [this, List.take_of_length_le (by rw [List.length_drop, hl]; omega)]
 unfold Lib.hasSuffix;rw [e, List.isSuffixOf_iff_suffix, List.suffix_iff_eq_drop];have hl : y.data.toList.length = y.size := Array.length_toList;rw [hl];exact eq_comm
theorem suf_short {y : ByteArray} (h2 : y.size < 2) : Lib.hasSuffix y.data.toList [47, 112] = false := by
 cases h : Lib.hasSuffix y.data.toList [47, 112] with
 | false => rfl
 | true =>
  unfold Lib.hasSuffix at h;have h3 := (List.isSuffixOf_iff_suffix.1 h).length_le;have hl : y.data.toList.length = y.size := Array.length_toList;simp only [List.length_cons, List.length_nil] at h3;omega
def cutPV (s : ByteArray) : ByteArray := if Lib.hasSuffix s.data.toList [47, 112] = true then s.extract 0 (s.size - 2) else s
set_option maxHeartbeats 800000 in
theorem cutSlashP_c (s : ByteArray) (w : World) (hs : s.size ≤ maxLen) :
 Calls Tryz.prog 170 #[.string s, .string ⟨#[47, 112]⟩] w fun e w' => e = .returned (.tuple #[.string (cutPV s), .bool (Lib.hasSuffix s.data.toList [47, 112])]) ∧ w = w' := by
 unfold maxLen at hs;by_cases h0 : s.size < 2
 ·have HS := Lib.hid (suf_short h0);have HO := Lib.hid (show cutPV s = s from by unfold cutPV; rw [suf_short h0]; rfl);have hz : (s.size : Int) < 2 := by omega
  have hd : decide ((2 : Int) ≤ (s.size : Int)) = false := by simp; omega
  clear h0;go_enter Tryz.func170, Tryz.ntmps170;go_wp2;go_ret2;exact ⟨by rw [HS.out, HO.out]; rfl, rfl⟩
 ·have hp : (2 : Int) ≤ (s.size : Int) := by omega
  have hp' : 2 ≤ s.size := by omega
  cases hst : Lib.hasSuffix s.data.toList [47, 112]
  ·have hx : ((s.extract (s.size - 2) s.size).toList == [47, 112]) = false := beq_eq_false_iff_ne.2 (fun e => by rw [(suf_iff hp').1 e] at hst; cases hst);have HO := Lib.hid (show cutPV s = s from by unfold cutPV; rw [hst]; rfl);clear h0 hst;go_enter Tryz.func170, Tryz.ntmps170;go_wp2;go_ret2;exact ⟨by rw [HO.out]; rfl, rfl⟩
  ·have hx : ((s.extract (s.size - 2) s.size).toList == [47, 112]) = true := by rw [(suf_iff hp').2 hst]; rfl
   have HO := Lib.hid (show cutPV s = s.extract 0 (s.size - 2) from by unfold cutPV; rw [hst]; rfl);clear h0 hst;go_enter Tryz.func170, Tryz.ntmps170;go_wp2;go_ret2;exact ⟨by rw [HO.out]; rfl, rfl⟩
theorem cut_mid {y : ByteArray} (h : Lib.hasSuffix y.data.toList [47, 112] = true) (h5 : 5 ≤ y.size) : (cutPV y).size = y.size - 2 ∧ (cutPV y).extract 2 (cutPV y).size = y.extract 2 (y.size - 2) := by
 have e : cutPV y = y.extract 0 (y.size - 2) := by unfold cutPV; rw [h]; rfl
 have hs : (y.extract 0 (y.size - 2)).size = y.size - 2 := by rw [ByteArray.size_extract]; omega
 rw [e, hs];refine ⟨rfl, ?_⟩;apply ByteArray.ext;apply Array.toList_inj.1;simp only [ByteArray.data_extract, Array.toList_extract];simp [List.drop_take, List.take_take]
set_option maxRecDepth 100000 in
set_option maxHeartbeats 16000000 in
theorem pKids_c (p base : Nat) (v1 v2 v3 : Value) (m m' : Mch) (x : List Int) (parent : Int) (w : World) (h : MAt w p base v1 v2 v3 m) (ho : MOk 800000000000 m) (HT : ∀ W, Below base w W → Tabs W) (E : (kidsP parent).run m = (m', x)) :
 Calls Tryz.prog 111 #[.pointer (some ⟨p, 0, none⟩), .int .i64 parent] w (MInts p base v1 v2 v3 m' x w) := by
 obtain ⟨i0, hi0, hzz⟩ := Option.map_eq_some_iff.1 infoInt;simp only [Prod.mk.injEq] at hzz;have HI := Lib.hid hi0;have HZ := Lib.hid hzz;clear hi0 hzz;obtain ⟨m1, ks, E1⟩ : ∃ aa bb, (underP rHead).run m = (aa, bb) := ⟨_, _, rfl⟩;have HE2 := Lib.hid (show (kidsL parent ks []).run m1 = (m', x) from by rw [kidsP_eq, Pg.run_bind, E1] at E; exact E);obtain ⟨hsz, hkn⟩ := under_sz ho E1;have HSZ := Lib.hid hsz;have HPRE := Lib.hid (under_pre E1);have J0 := Lib.hid (JAt.first h);have O1 := Lib.hid ((underP_cost _).okE ho E1);have HTT := Lib.hid (fun W u1 u2 u3 k (d : JAt p base v1 v2 v3 w W u1 u2 u3 k) W' (hW : Below base W W') => HT W' ((d.bel h).trans hW));have KU := Lib.hid (pUnder_c p base v1 v2 v3 m m1 ks rHead w h (ho.mono (by omega)) (by decide) E1);clear h ho E E1 hsz HT;go_enter Tryz.func111, Tryz.ntmps111;go_wp2_with fail;refine KU.out.mono ?_;rintro e w1 ⟨u1, u2, u3, a, c, rfl, hm, hg, q1, q2, q3, hk⟩;have K0 := Lib.hid (show KidAt p base v1 v2 v3 w a ks w1 u1 u2 u3 m1 (.slice none 0 0) [] from ⟨RAt.first (J0.out.next hm hg q1 q2 q3), hk, by simp [Value.ownBlock]⟩);clear hm hg q1 q2 q3 hk KU J0;go_wp2;go_loopw [5, 13] (fun v i wr => ∃ k : Nat, k ≤ ks.length ∧ i = .int .i64 k ∧ Hid (∃ y1 y2 y3 mk ol, KidAt p base v1 v2 v3 w a ks wr y1 y2 y3 mk v ol ∧ MOk (800000000001 + 1 * k) mk ∧ ol.length ≤ k ∧ (kidsL parent (ks.drop k) ol).run mk = (m', x))) (fun _ i _ => ks.length - (intOf i).toNat)
 case atStart => exact ⟨0, Nat.zero_le _, rfl, Lib.hid ⟨_, _, _, _, _, K0.out, O1.out.mono (by omega), Nat.le_refl _, HE2.out⟩⟩
 case round =>
  obtain ⟨k, hk, rfl, HI0⟩ := hrel;obtain ⟨y1, y2, y3, mk, ol, hl, ho, hol, hr⟩ := HI0.out;have HL := Lib.hid hl;have HO := Lib.hid ho;have HR := Lib.hid hr;clear hl ho hr HI0 K0;by_cases hlt : k < ks.length
  ·obtain ⟨y, hy⟩ := some_of_lt hlt;obtain ⟨b, off, hab, c0⟩ := readFS HL.out.ks.rd (Below.refl _ _) hy;subst hab;have p1 : (0 : Int) ≤ (k : Int) := by omega
   have p2 : (k : Int) < (ks.length : Int) := by omega
   have hys := HSZ.out y (List.mem_of_getElem? hy);have HY := Lib.hid hy;have KC := Lib.hid (fun W => cutSlashP_c y W (by unfold maxLen; omega));obtain ⟨cv, hcv⟩ : ∃ cv, cutPV y = cv := ⟨_, rfl⟩;rw [hcv] at KC;clear hy hlt;by_cases h5 : 5 ≤ y.size
   ·have g5 : (5 : Int) ≤ (y.size : Int) := by omega
    cases hsf : Lib.hasSuffix y.data.toList [47, 112] with
    | false =>
     have hkk : kidKey y = false := by unfold kidKey; rw [hsf, Bool.and_false]
     have HR2 := Lib.hid (show (kidsL parent (ks.drop (k + 1)) ol).run mk = (m', x) from by
      have h := HR.out;rw [drop_cons HY.out, kidsL_cons, hkk] at h;exact h)
     rw [hsf] at KC;clear HR hsf hkk hcv;go_wp2_with fail;refine (KC.out _).mono ?_;rintro e wc ⟨rfl, rfl⟩;go_wp2;go_roundw
     case rel => exact ⟨k + 1, by omega, by go_num, Lib.hid ⟨_, _, _, _, _, HL.out, HO.out.mono (by omega), by omega, HR2.out⟩⟩
     case measure => simp [intOf]; omega
    | true =>
     have hkk : kidKey y = true := by unfold kidKey; rw [hsf, decide_eq_true h5]; rfl
     obtain ⟨hcs, hcm⟩ := cut_mid hsf h5;rw [hcv] at hcs hcm;rw [hsf] at KC;obtain ⟨n1, up, F1⟩ : ∃ aa bb, (numP y).run mk = (aa, bb) := ⟨_, _, rfl⟩;have P1 := Lib.hid ((numP_cost _).okE HO.out F1);have KN := Lib.hid (fun W (d : KidAt p base v1 v2 v3 w (some ⟨b, off, none⟩) ks W y1 y2 y3 mk u5 ol) => pNum_c p base y1 y2 y3 mk n1 up y W d.r.j.at_ (HO.out.mono (by omega)) (fun X hX => HTT.out _ _ _ _ _ d.r.j X hX) F1);have hr := HR.out;rw [drop_cons HY.out, kidsL_cons, hkk, if_pos rfl, Pg.run_bind, F1] at hr;have HR1 := Lib.hid hr;clear HR hsf hkk hr F1 hcv;go_wp2_with fail;refine (KC.out _).mono ?_;rintro e wc ⟨rfl, rfl⟩;go_wp2_with fail;refine (KN.out _ HL.out).mono ?_;rintro e wn ⟨r1, r2, r3, rfl, hm, hg, q1, q2, q3⟩;have KA := Lib.hid (HL.out.next hm hg q1 q2 q3);clear hm hg q1 q2 q3 HL KN HO c0;by_cases hup : up = parent
     ·subst hup;rw [if_pos rfl] at HR1;obtain ⟨dv, hdv⟩ : ∃ dv, numOfV (y.extract 2 (y.size - 2)) = dv := ⟨_, rfl⟩;have hv : numOfV (cv.extract 2 cv.size) = dv := by rw [hcm]; exact hdv
      have KNU := Lib.hid (fun W (h : Tabs W) => implNumOf_c (cv.extract 2 cv.size) W (by rw [ByteArray.size_extract]; omega) h.1 h.2.1);rw [hv] at KNU;rw [hdv] at HR1;have g9 : (2 : Int) ≤ (cv.size : Int) := by omega
      clear hv hdv hcm hcs g5 h5;go_wp2_with fail;refine (KNU.out _ (HTT.out _ _ _ _ _ KA.out.r.j _ (Below.refl _ _))).mono ?_;rintro e wk ⟨rfl, hbk⟩;have KB := Lib.hid (KA.out.below hbk);have hszk := KB.out.r.j.gr.size;clear KA KNU hbk;go_wp2_with (at_builtin; refine wpList_append_own2 _ rfl _ _ 24 rfl w.heap.size 3 i0 _ 1 8 Tryz.underlying24 HI.out HZ.out.1 HZ.out.2.1 HZ.out.2.2 rfl (by decide) _ _ _ rfl (KB.out.r.o.alloc _) ⟨wk.heap.size, 0, none⟩ 1 1 [.int .i64 dv] rfl rfl (box_news (Box.new _ _ _)) (by intro u hu; simp at hu; subst hu; rfl) (by unfold maxLen; omega) (by omega) (by simp; omega) ?_);intro v' w' o2 g2 or2;have HL := Lib.hid (KidAt.app (ol2 := ol ++ [dv]) (KB.out.below (show Below wk.heap.size wk (wk.alloc (.cells #[.int .i64 dv] 3)) from (by repeat (first | exact Below.refl _ _ | refine Below.drew ?_ | refine below_drewN ?_ _ | refine Below.allocC ?_ _ | refine Below.setCell ?_ (by first | (simp; done) | (simp; omega)) _ | refine Below.chain ?_ (by assumption))))) g2 or2 (by rw [List.length_append, List.flatMap_append]; exact o2));clear o2 g2 or2 KB;go_wp2;go_roundw
      case rel => exact ⟨k + 1, by omega, by go_num, Lib.hid ⟨_, _, _, _, _, HL.out, P1.out.mono (by omega), by rw [List.length_append]; simp; omega, HR1.out⟩⟩
      case measure => simp [intOf]; omega
     ·rw [if_neg hup] at HR1;go_wp2;go_roundw
      case rel => exact ⟨k + 1, by omega, by go_num, Lib.hid ⟨_, _, _, _, _, KA.out, P1.out.mono (by omega), by omega, HR1.out⟩⟩
      case measure => simp [intOf]; omega
   ·have g5 : ¬ (5 : Int) ≤ (y.size : Int) := by omega
    have hkk : kidKey y = false := by unfold kidKey; rw [decide_eq_false h5]; rfl
    have HR2 := Lib.hid (show (kidsL parent (ks.drop (k + 1)) ol).run mk = (m', x) from by
     have h := HR.out;rw [drop_cons HY.out, kidsL_cons, hkk] at h;exact h)
    generalize Lib.hasSuffix y.data.toList [47, 112] = hsf at KC;clear HR hkk hcv;go_wp2_with fail;refine (KC.out _).mono ?_;rintro e wc ⟨rfl, rfl⟩;go_wp2;go_roundw
    case rel => exact ⟨k + 1, by omega, by go_num, Lib.hid ⟨_, _, _, _, _, HL.out, HO.out.mono (by omega), by omega, HR2.out⟩⟩
    case measure => simp [intOf]; omega
  ·obtain rfl : k = ks.length := by omega
   have p2 : ¬ ((ks.length : Nat) : Int) < (ks.length : Int) := by omega
   have hr := HR.out;rw [List.drop_length] at hr;obtain ⟨e1, e2⟩ := Prod.mk.inj (show (m', x) = (mk, ol) from hr.symm);subst e1 e2;obtain ⟨ao, co, hvo, _⟩ := reads_of_owns (enc := encI) (K := 1) encI_len HL.out.r.o;subst hvo;have HEND := Lib.hid (show MInts p base v1 v2 v3 m' x w (.returned (.slice ao x.length co)) wr from ⟨_, _, _, ao, co, rfl, HL.out.r.j, HL.out.r.o⟩);clear HR hr HL HO;go_wp2;go_ret;exact HEND.out
end Go.Proofs.YtihghflppegnmaaGreatDoor
namespace Go.Proofs.YtihghflppegnmaaGreatDoor
open Go.ChangeShapes Go.WideShapes Go.ChangeAt Go.RowKit
structure PQ (p base : Nat) (v1 v2 v3 : Value) (w : World) (bs : List (Nat × List Value)) (W : World) (u1 u2 u3 : Value) (k : Mch) : Prop where
 j : JAt p base v1 v2 v3 w W u1 u2 u3 k
 bx : ∀ (i : Nat) (x : Nat × List Value), bs[i]? = some x → Box W x.1 x.2 ∧ w.heap.size ≤ x.1 ∧ x.1 ≠ p ∧ u1.ownBlock ≠ some x.1 ∧ u2.ownBlock ≠ some x.1 ∧ u3.ownBlock ≠ some x.1
 nd : ∀ (i j : Nat) (x y : Nat × List Value), bs[i]? = some x → bs[j]? = some y → x.1 = y.1 → i = j
section
variable {p base : Nat} {v1 v2 v3 u1 u2 u3 x1 x2 x3 : Value} {w W W' : World} {m k k' : Mch} {bs : List (Nat × List Value)}
theorem PQ.box (q : PQ p base v1 v2 v3 w bs W u1 u2 u3 k) (i : Nat) (x : Nat × List Value) (hx : bs[i]? = some x) : Box W x.1 x.2 := (q.bx i x hx).1
theorem PQ.first (h : MAt w p base v1 v2 v3 m) : PQ p base v1 v2 v3 w [] w v1 v2 v3 m := ⟨JAt.first h, fun i x hx => by simp at hx, fun i j x y hx => by simp at hx⟩
theorem PQ.next (q : PQ p base v1 v2 v3 w bs W u1 u2 u3 k) (hm : MAt W' p base x1 x2 x3 k') (hg : Grow3 W W' p u1 u2 u3) (r1 : OwnOr W u1 x1) (r2 : OwnOr W u2 x2) (r3 : OwnOr W u3 x3) : PQ p base v1 v2 v3 w bs W' x1 x2 x3 k' := by
 refine ⟨q.j.next hm hg r1 r2 r3, fun i x hx => ?_, q.nd⟩;obtain ⟨h1, h2, h3, f1, f2, f3⟩ := q.bx i x hx;exact ⟨⟨Nat.lt_of_lt_of_le h1.1 hg.size, h1.2.elim fun T hT => ⟨T, (hg.block x.1 h1.1 h3 f1 f2 f3).trans hT⟩⟩, h2, h3, r1.ne h1.1 f1, r2.ne h1.1 f2, r3.ne h1.1 f3⟩
theorem PQ.below (q : PQ p base v1 v2 v3 w bs W u1 u2 u3 k) (hb : Below W.heap.size W W') : PQ p base v1 v2 v3 w bs W' u1 u2 u3 k := q.next (q.j.at_.below hb) (Grow3.of_below hb) (.inl rfl) (.inl rfl) (.inl rfl)
theorem PQ.new (q : PQ p base v1 v2 v3 w bs W u1 u2 u3 k) (n : Nat) (hn : W.heap.size = n) (vs : List Value) (T : TypeId) : PQ p base v1 v2 v3 w ((n, vs) :: bs) (W.alloc (.cells vs.toArray T)) u1 u2 u3 k := by
 have hb : Below W.heap.size W (W.alloc (.cells vs.toArray T)) := (by repeat (first | exact Below.refl _ _ | refine Below.drew ?_ | refine below_drewN ?_ _ | refine Below.allocC ?_ _ | refine Below.setCell ?_ (by first | (simp; done) | (simp; omega)) _ | refine Below.chain ?_ (by assumption)));have hs := q.j.gr.size;have hp := q.j.at_.box.1;have q2 := q.below hb;have ne : ∀ {T K n' : Nat} {v : Value} {xs : List Value}, W.ownsRow base T K v n' xs → v.ownBlock ≠ some n := fun h e => by have := (h.lt _ e).2; omega
 refine ⟨q2.j, fun i x hx => ?_, fun i j x y hx hy e => ?_⟩
 ·cases i with
  | zero =>
   simp only [List.getElem?_cons_zero, Option.some.injEq] at hx;subst hx;exact ⟨by have h := Box.new W vs T; rw [hn] at h; exact h, by simp only; omega, by simp only; omega, ne q.j.at_.o1, ne q.j.at_.o2, ne q.j.at_.o3⟩
  | succ i =>
   rw [List.getElem?_cons_succ] at hx;exact q2.bx i x hx
 ·cases i with
  | zero =>
   simp only [List.getElem?_cons_zero, Option.some.injEq] at hx;subst hx;cases j with
   | zero => rfl
   | succ j =>
    rw [List.getElem?_cons_succ] at hy;have := (q.bx j y hy).1.1;simp only at e;omega
  | succ i =>
   rw [List.getElem?_cons_succ] at hx;cases j with
   | zero =>
    simp only [List.getElem?_cons_zero, Option.some.injEq] at hy;subst hy;have := (q.bx i x hx).1.1;simp only at e;omega
   | succ j =>
    rw [List.getElem?_cons_succ] at hy;rw [q.nd i j x y hx hy e]
theorem PQ.set (q : PQ p base v1 v2 v3 w bs W u1 u2 u3 k) (i : Nat) (x : Nat × List Value) (hx : bs[i]? = some x) (j : Nat) (v : Value) : PQ p base v1 v2 v3 w (bs.set i (x.1, x.2.set j v)) (W.setCell ⟨x.1, j, none⟩ v) u1 u2 u3 k := by
 obtain ⟨h1, h2, h3, f1, f2, f3⟩ := q.bx i x hx;refine ⟨⟨q.j.at_.setCell (fun e => h3 e.symm) f1 f2 f3 j v, grow_set q.j.gr h2 j v, q.j.q1, q.j.q2, q.j.q3⟩, fun l y hy => ?_, fun a b y z hy hz e => ?_⟩
 ·rw [List.getElem?_set] at hy;split at hy
  ·split at hy
   ·cases hy;exact ⟨box_put h1 j v, h2, h3, f1, f2, f3⟩
   ·cases hy
  ·rename_i hne;obtain ⟨g1, g2⟩ := q.bx l y hy;exact ⟨box_far2 g1 (fun e => hne (q.nd i l x y hx hy e.symm)) j v, g2⟩
 ·have key : ∀ (c : Nat) (y : Nat × List Value), (bs.set i (x.1, x.2.set j v))[c]? = some y → ∃ y', bs[c]? = some y' ∧ y'.1 = y.1 := fun c y hy => by
   rw [List.getElem?_set] at hy;split at hy
   ·rename_i hc;subst hc;split at hy
    ·cases hy; exact ⟨x, hx, rfl⟩
    ·cases hy
   ·exact ⟨y, hy, rfl⟩
  obtain ⟨y', e1, e2⟩ := key a y hy;obtain ⟨z', e3, e4⟩ := key b z hz;exact q.nd a b y' z' e1 e3 (by rw [e2, e4, e])
end
end Go.Proofs.YtihghflppegnmaaGreatDoor
namespace Go.Proofs.YtihghflppegnmaaGreatDoor
@[irreducible] def fuelN : Nat := 200
@[irreducible] def fuelW : Nat := 20
theorem fuelN_is : fuelN = 200 := by unfold fuelN; rfl
theorem fuelW_is : fuelW = 20 := by unfold fuelW; rfl
theorem cutP_eq (id n : Int) : cutP id n = (numP (sizeK id) >>= fun size => if inB n 0 size = true then (if 0 < n % 8 then (blockP id (n / 8) >>= fun b => layP (blockK id (n / 8)) (hexV (b.extract 0 (min (n % 8) b.size).toNat)) >>= fun _ => cutL id size fuelN (n / 8 + 1) >>= fun _ => setP (sizeK id) n >>= fun _ => pure 0) else (cutL id size fuelN (n / 8) >>= fun _ => setP (sizeK id) n >>= fun _ => pure 0)) else pure 4) := by
 rw [fuelN_is];rfl
theorem readP_eq (id at_ n : Int) : readP id at_ n = (numP (sizeK id) >>= fun size => if at_ < 0 ∨ n < 1 ∨ size ≤ at_ then pure noB else readL id at_ (at_ + min n (size - at_)) fuelN (at_ / 8) noB) := by
 rw [fuelN_is];rfl
theorem writeP_eq (id at_ : Int) (text : ByteArray) : writeP id at_ text = (numP (sizeK id) >>= fun size => if (inB at_ 0 size && decide (0 < text.size)) = true then (if 64 < at_ + text.size then pure 3 else writeL id at_ (at_ + text.size) text fuelW (at_ / 8) >>= fun _ => if size < at_ + text.size then (setP (sizeK id) (at_ + text.size) >>= fun _ => pure 0) else pure 0) else pure 4) := by
 rw [fuelW_is];rfl
theorem cutL_end {id s p : Int} {f : Nat} (h : ¬ p * 8 < s) : cutL id s f p = pure () := by
 cases f with
 | zero => rfl
 | succ f => unfold cutL; rw [if_neg h]; rfl
theorem cutL_yes {id s p : Int} {f : Nat} (h : p * 8 < s) : cutL id s (f + 1) p = (layP (blockK id p) noB >>= fun _ => cutL id s f (p + 1)) := by
 rw [cutL, if_pos h]; rfl
theorem readL_end {id a e p : Int} {f : Nat} {s : ByteArray} (h : ¬ p * 8 < e) : readL id a e f p s = pure s := by
 cases f with
 | zero => rfl
 | succ f => unfold readL; rw [if_neg h]; rfl
theorem readL_yes {id a e p : Int} {f : Nat} {s : ByteArray} (h : p * 8 < e) : readL id a e (f + 1) p s = (blockP id p >>= fun b => readL id a e f (p + 1) (s ++ pieceOf b p a e)) := by
 rw [readL, if_pos h]
theorem writeL_end {id a e p : Int} {t : ByteArray} {f : Nat} (h : ¬ p * 8 < e) : writeL id a e t f p = pure () := by
 cases f with
 | zero => rfl
 | succ f => unfold writeL; rw [if_neg h]; rfl
theorem writeL_yes {id a e p : Int} {t : ByteArray} {f : Nat} (h : p * 8 < e) : writeL id a e t (f + 1) p = (blockP id p >>= fun b => layP (blockK id p) (hexV (newBlock b t p a e)) >>= fun _ => writeL id a e t f (p + 1)) := by
 rw [writeL, if_pos h]
theorem block_sz {i j : Int} {n : Nat} {m m' : Mch} {x : ByteArray} (ho : MOk n m) (E : (blockP i j).run m = (m', x)) : x.size ≤ 1048576 := by
 obtain ⟨e1, e2⟩ := Prod.mk.inj (show (lookM m (blockK i j), unhexV (getKeyS m.st (blockK i j))) = (m', x) from E);subst e1 e2;exact Nat.le_trans (unhexV_size _) (get_sz ho.sz _)
end Go.Proofs.YtihghflppegnmaaGreatDoor
