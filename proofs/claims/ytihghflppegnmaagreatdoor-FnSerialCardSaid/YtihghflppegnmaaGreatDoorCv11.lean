/- Lemmas and contracts that the last text leans on, joined: KS3, KS9, SDAll, RegA, SCallOn, Told. Conditions: as each theorem says. -/
import Derived.Test.YtihghflppegnmaaGreatDoorCv0
import Derived.Test.YtihghflppegnmaaGreatDoorCv10
import Derived.Deep.CutRange
set_option linter.unusedSimpArgs false
set_option linter.unusedVariables false
set_option maxHeartbeats 40000000
namespace Go.Proofs.YtihghflppegnmaaGreatDoor
open Go.Proofs.Tryz
section
open Go.ChangeShapes Go.WideShapes Go.ChangeAt Go.RowKit
attribute [local go_sem ↓] Go.wp_at_zero Go.wp_at_succ
set_option maxRecDepth 100000 in
theorem tMkPipe_c (v1 v2 v3 : Value) (m m' : Mch) (x y : Int)  (w : World) (h : MRd w v1 v2 v3 m) (O0 : Hid (MOk 1700000000000 m)) (HE : Hid ((mkPipeP).run m = (m', (x, y)))) :
 Calls prog 134 #[.agg #[v1, v2, v3]] w (SRet3 v1 v2 v3 m m' (.int .i64 x) (.int .i64 y) w) := by
 obtain ⟨a1, q1, a2, q2, a3, q3, rfl, rfl, rfl, Q0⟩ := h.start;clear h;go_enter func134, ntmps134;obtain ⟨m1, x1, HE1, O1⟩ := Pg.Cost.hop (numP (cPipe)) (numP_cost _) O0;have bx1 := numP_bounds HE1.out;go_wp2_with fail;refine nx2 SQ.fr Q0 (tNum_c _ _ _ _ _ _ (cPipe) _ Q0.out.rd (O0.out.mono (by omega)) HE1.out) fun _ _ _ _ _ _ w1 Q1 F1 => ?_;clear Q0;by_cases c1 : 8 ≤ x1
 ·obtain ⟨rfl, rfl, rfl⟩ := leaf3 HE m1 (0) (3) (by unfold mkPipeP; simp only [pgz, ↓reduceIte, bz, HE1.out, (show 8 ≤ x1 from by first | exact c1 | omega | simpa using c1)]);go_wp2;exact rt3 SQ.fr Q1 (by simp [results, results134, go_sem, *])
 ·obtain ⟨m2, x2, HE2, O2⟩ := Pg.Cost.hop (bumpP (cPipe)) (bumpP_cost _) O1;have bx2 := bumpP_bounds HE2.out;go_wp2_with fail;refine nx2 SQ.fr Q1 (tBump_c _ _ _ _ _ _ (cPipe) _ Q1.out.rd (O1.out.mono (by omega)) (by decide) HE2.out) fun _ _ _ _ _ _ w2 Q2 F2 => ?_;clear F1 Q1;obtain ⟨m3, u3, HE3, O3⟩ := Pg.Cost.hop (setP (pipeK x2 tO) (1)) (setP_cost _ _) O2;go_wp2_with fail;refine Q2.out.region [5] fun hS cr0 cr1 cr2 => ?_;clear F2;refine pL 0 hS ?_;refine pU 1 hS ?_;refine pU 4 hS ?_;refine pV 2 hS (l08Key_c x2 tO _ (i64_of bx2) (by decide)) fun _ hS => ?_;refine pM1 SQ.fr 3 hS (tSet_c _ _ _ _ _ _ (pipeK x2 tO) (1) _ hS.rd (O2.out.mono (by omega)) (Nat.le_trans (pipeK_size (i64_of bx2) (by decide)) (by decide : (1000 : Nat) ≤ maxLen)) HE3.out) fun _ _ _ _ _ _ w3 hS hmo F3 => ?_;refine pS 5 ?_;refine pW 6 ?_;refine pW 7 ?_;refine wpAnyY_done (by kernel_rfl) ?_ _;have SE := hid9 (SQ.fr.finR hS hmo);clear hS hmo Q2 cr0 cr1 cr2;obtain ⟨rfl, rfl, rfl⟩ := leaf3 HE m3 (x2) (0) (by unfold mkPipeP; simp only [pgz, ↓reduceIte, bz, HE1.out, (show ¬ (8 ≤ x1) from by first | exact c1 | omega | simpa using c1), HE2.out, HE3.out]);go_wp2;exact re3 SE (by simp [results, results134, go_sem, *])
set_option maxRecDepth 100000 in
theorem tIsPipe_c (v1 v2 v3 : Value) (m m' : Mch) (x : Bool) (id : Int) (w : World) (h : MRd w v1 v2 v3 m) (O0 : Hid (MOk 1800000000000 m)) (hn : I64 id) (HE : Hid ((isPipeP id).run m = (m', x))) :
 Calls prog 184 #[.agg #[v1, v2, v3], .int .i64 id] w (SRet v1 v2 v3 m m' (.bool x) w) := by
 obtain ⟨a1, q1, a2, q2, a3, q3, rfl, rfl, rfl, Q0⟩ := h.start;clear h;go_enter func184, ntmps184;obtain ⟨m1, x1, HE1, O1⟩ := Pg.Cost.hop (numP (pipeK id tO)) (numP_cost _) O0;have bx1 := numP_bounds HE1.out;go_wp2_with fail;refine Q0.out.region [7] fun hS cr0 cr1 cr2 => ?_;refine pL 0 hS ?_;refine pU 1 hS ?_;refine pV 2 hS (l08Key_c id tO _ hn (by decide)) fun _ hS => ?_;refine pM2 SQ.fr 3 hS (tNum_c _ _ _ _ _ _ (pipeK id tO) _ hS.rd (O0.out.mono (by omega)) HE1.out) fun _ _ _ _ _ _ w1 hS hmo F1 => ?_;refine pU 4 hS ?_;refine pU 5 hS ?_;refine pU 6 hS ?_;refine pS 7 ?_;refine pW 8 ?_;refine wpAnyY_done (by kernel_rfl) ?_ _;have Q1 := hid9 (hS.put hmo);clear hS hmo Q0 cr0 cr1 cr2;obtain ⟨rfl, rfl⟩ := leaf HE m1 (decide (x1 = 1)) (by unfold isPipeP; simp only [pgz, ↓reduceIte, bz, HE1.out]);go_wp2;exact rt2 SQ.fr Q1 (by simp [results, results184, go_sem, *]; rfl)
set_option maxRecDepth 100000 in
theorem tPutPipe_c (v1 v2 v3 : Value) (m m' : Mch) (x : Int) (id : Int) (text : ByteArray) (w : World) (h : MRd w v1 v2 v3 m) (O0 : Hid (MOk 1700000000000 m)) (hn : I64 id) (HE : Hid ((putPipeP id text).run m = (m', x))) :
 Calls prog 135 #[.agg #[v1, v2, v3], .int .i64 id, .string text] w (SRet v1 v2 v3 m m' (.int .i64 x) w) := by
 obtain ⟨a1, q1, a2, q2, a3, q3, rfl, rfl, rfl, Q0⟩ := h.start;clear h;go_enter func135, ntmps135;obtain ⟨m1, x1, HE1, O1⟩ := Pg.Cost.hop (isPipeP id) (isPipeP_cost _) O0;go_wp2_with fail;refine nx2 SQ.fr Q0 (tIsPipe_c _ _ _ _ _ _ id _ Q0.out.rd (O0.out.mono (by omega)) hn HE1.out) fun _ _ _ _ _ _ w1 Q1 F1 => ?_;clear Q0;cases x1
 ·obtain ⟨rfl, rfl⟩ := leaf HE m1 (2) (by unfold putPipeP; simp only [pgz, ↓reduceIte, bz, HE1.out]);go_wp2;exact rt2 SQ.fr Q1 (by simp [results, results135, go_sem, *])
 ·by_cases c2 : 20 < text.size
  ·have p1 : (20 : Int) < (text.size : Int) := by omega
   obtain ⟨rfl, rfl⟩ := leaf HE m1 (4) (by unfold putPipeP; simp only [pgz, ↓reduceIte, bz, HE1.out, (show 20 < text.size from by first | exact c2 | omega | simpa using c2)]);go_wp2;exact rt2 SQ.fr Q1 (by simp [results, results135, go_sem, *])
  ·have p1 : ¬ (20 : Int) < (text.size : Int) := by omega
   have hst : text.size ≤ maxLen := by unfold maxLen; omega
   obtain ⟨m2, x2, HE2, O2⟩ := Pg.Cost.hop (numP (pipeK id tT)) (numP_cost _) O1;have bx2 := numP_bounds HE2.out;go_wp2_with fail;refine Q1.out.region [7] fun hS cr0 cr1 cr2 => ?_;clear F1;refine pL 0 hS ?_;refine pU 1 hS ?_;refine pV 2 hS (l08Key_c id tT _ hn (by decide)) fun _ hS => ?_;refine pM2 SQ.fr 3 hS (tNum_c _ _ _ _ _ _ (pipeK id tT) _ hS.rd (O1.out.mono (by omega)) HE2.out) fun _ _ _ _ _ _ w2 hS hmo F2 => ?_;refine pU 4 hS ?_;refine pU 5 hS ?_;refine pU 6 hS ?_;refine pS 7 ?_;refine pW 8 ?_;refine wpAnyY_done (by kernel_rfl) ?_ _;have Q2 := hid9 (hS.put hmo);clear hS hmo Q1 cr0 cr1 cr2;obtain ⟨m3, x3, HE3, O3⟩ := Pg.Cost.hop (numP (pipeK id tH)) (numP_cost _) O2;have bx3 := numP_bounds HE3.out;go_wp2_with fail;refine Q2.out.region [7] fun hS cr0 cr1 cr2 => ?_;clear F2;refine pL 0 hS ?_;refine pU 1 hS ?_;refine pV 2 hS (l08Key_c id tH _ hn (by decide)) fun _ hS => ?_;refine pM2 SQ.fr 3 hS (tNum_c _ _ _ _ _ _ (pipeK id tH) _ hS.rd (O2.out.mono (by omega)) HE3.out) fun _ _ _ _ _ _ w3 hS hmo F3 => ?_;refine pU 4 hS ?_;refine pU 5 hS ?_;refine pU 6 hS ?_;refine pS 7 ?_;refine pW 8 ?_;refine wpAnyY_done (by kernel_rfl) ?_ _;have Q3 := hid9 (hS.put hmo);clear hS hmo Q2 cr0 cr1 cr2;have hwx2x3 : IntKind.i64.wrap (x2 - x3) = x2 - x3 := by rw [IntKind.wrap_i64]; omega
   by_cases c3 : 4 ≤ x2 - x3
   ·obtain ⟨rfl, rfl⟩ := leaf HE m3 (5) (by unfold putPipeP; simp only [pgz, ↓reduceIte, bz, HE1.out, (show ¬ (20 < text.size) from by first | exact c2 | omega | simpa using c2), HE2.out, HE3.out, (show 4 ≤ x2 - x3 from by first | exact c3 | omega | simpa using c3)]);go_wp2;exact rt2 SQ.fr Q3 (by simp [results, results135, go_sem, *])
   ·by_cases c4 : 999 ≤ x2
    ·obtain ⟨rfl, rfl⟩ := leaf HE m3 (3) (by unfold putPipeP; simp only [pgz, ↓reduceIte, bz, HE1.out, (show ¬ (20 < text.size) from by first | exact c2 | omega | simpa using c2), HE2.out, HE3.out, (show ¬ (4 ≤ x2 - x3) from by first | exact c3 | omega | simpa using c3), (show 999 ≤ x2 from by first | exact c4 | omega | simpa using c4)]);go_wp2;exact rt2 SQ.fr Q3 (by simp [results, results135, go_sem, *])
    ·have hwx2 : IntKind.i64.wrap (x2 + 1) = x2 + 1 := by rw [IntKind.wrap_i64]; omega
     have hz := hexV_size text;have nh : ¬ 9223372036854775807 < 1 + (hexV text).size := by omega
     go_wp2_with fail;refine nxV SQ.fr Q3 (specHex_c text _ hst) fun w4 Q4 F4 => ?_;clear F3 Q3;obtain ⟨m4, u4, HE4, O4⟩ := Pg.Cost.hop (setP (pipeK id tT) (x2 + 1)) (setP_cost _ _) O3;go_wp2_with fail;refine Q4.out.region [6] fun hS cr0 cr1 cr2 => ?_;clear F4;refine pL 0 hS ?_;refine pU 1 hS ?_;refine pU 3 hS ?_;refine pU 4 hS ?_;refine pV 2 hS (l08Key_c id tT _ hn (by decide)) fun _ hS => ?_;refine pM1 SQ.fr 5 hS (tSet_c _ _ _ _ _ _ (pipeK id tT) (x2 + 1) _ hS.rd (O3.out.mono (by omega)) (Nat.le_trans (pipeK_size hn (by decide)) (by decide : (1000 : Nat) ≤ maxLen)) HE4.out) fun _ _ _ _ _ _ w5 hS hmo F5 => ?_;refine pS 6 ?_;refine wpAnyY_done (by kernel_rfl) ?_ _;have Q5 := hid9 (hS.put hmo);clear hS hmo Q4 cr0 cr1 cr2;obtain ⟨m5, u5, HE5, O5⟩ := Pg.Cost.hop (layP (pipeQ id (x2 + 1)) (hyphenS (hexV text))) (layP_cost _ _) O4;go_wp2_with fail;refine Q5.out.region [8] fun hS cr0 cr1 cr2 => ?_;clear F5;refine pL 0 hS ?_;refine pU 1 hS ?_;refine pU 2 hS ?_;refine pU 3 hS ?_;refine pU 5 hS ?_;refine pU 6 hS ?_;refine pV 4 hS (l08Message_c id (x2 + 1) _ hn (i64_succ bx2)) fun _ hS => ?_;refine pM1 SQ.fr 7 hS (tLay_c _ _ _ _ _ _ (pipeQ id (x2 + 1)) (hyphenS (hexV text)) _ hS.rd (O4.out.mono (by omega)) (Nat.le_trans (pipeQ_size hn (i64_succ bx2)) (by decide : (1000 : Nat) ≤ maxLen)) (by rw [hyphenS_size]; have := hexV_size text; unfold maxLen; omega) HE5.out) fun _ _ _ _ _ _ w6 hS hmo F6 => ?_;refine pS 8 ?_;refine pW 9 ?_;refine wpAnyY_done (by kernel_rfl) ?_ _;have SE := hid9 (SQ.fr.finR hS hmo);clear hS hmo Q5 cr0 cr1 cr2;obtain ⟨rfl, rfl⟩ := leaf HE m5 (0) (by unfold putPipeP; simp only [pgz, ↓reduceIte, bz, HE1.out, (show ¬ (20 < text.size) from by first | exact c2 | omega | simpa using c2), HE2.out, HE3.out, (show ¬ (4 ≤ x2 - x3) from by first | exact c3 | omega | simpa using c3), (show ¬ (999 ≤ x2) from by first | exact c4 | omega | simpa using c4), HE4.out, HE5.out]);go_wp2;exact re2 SE (by simp [results, results135, go_sem, *])
set_option maxRecDepth 100000 in
theorem tTakePipe_c (v1 v2 v3 : Value) (m m' : Mch) (x : ByteArray) (y : Int) (id : Int) (w : World) (h : MRd w v1 v2 v3 m) (O0 : Hid (MOk 1700000000000 m)) (hn : I64 id) (HE : Hid ((takePipeP id).run m = (m', (x, y)))) :
 Calls prog 136 #[.agg #[v1, v2, v3], .int .i64 id] w (SRet3 v1 v2 v3 m m' (.string x) (.int .i64 y) w) := by
 obtain ⟨a1, q1, a2, q2, a3, q3, rfl, rfl, rfl, Q0⟩ := h.start;clear h;go_enter func136, ntmps136;obtain ⟨m1, x1, HE1, O1⟩ := Pg.Cost.hop (isPipeP id) (isPipeP_cost _) O0;go_wp2_with fail;refine nx2 SQ.fr Q0 (tIsPipe_c _ _ _ _ _ _ id _ Q0.out.rd (O0.out.mono (by omega)) hn HE1.out) fun _ _ _ _ _ _ w1 Q1 F1 => ?_;clear Q0;cases x1
 ·obtain ⟨rfl, rfl, rfl⟩ := leaf3 HE m1 (noB) (2) (by unfold takePipeP; simp only [pgz, ↓reduceIte, bz, HE1.out]);go_wp2;exact rt3 SQ.fr Q1 (by simp [results, results136, go_sem, noB, *])
 ·obtain ⟨m2, x2, HE2, O2⟩ := Pg.Cost.hop (numP (pipeK id tH)) (numP_cost _) O1;have bx2 := numP_bounds HE2.out;go_wp2_with fail;refine Q1.out.region [7] fun hS cr0 cr1 cr2 => ?_;clear F1;refine pL 0 hS ?_;refine pU 1 hS ?_;refine pV 2 hS (l08Key_c id tH _ hn (by decide)) fun _ hS => ?_;refine pM2 SQ.fr 3 hS (tNum_c _ _ _ _ _ _ (pipeK id tH) _ hS.rd (O1.out.mono (by omega)) HE2.out) fun _ _ _ _ _ _ w2 hS hmo F2 => ?_;refine pU 4 hS ?_;refine pU 5 hS ?_;refine pU 6 hS ?_;refine pS 7 ?_;refine pW 8 ?_;refine wpAnyY_done (by kernel_rfl) ?_ _;have Q2 := hid9 (hS.put hmo);clear hS hmo Q1 cr0 cr1 cr2;obtain ⟨m3, x3, HE3, O3⟩ := Pg.Cost.hop (numP (pipeK id tT)) (numP_cost _) O2;have bx3 := numP_bounds HE3.out;go_wp2_with fail;refine Q2.out.region [7] fun hS cr0 cr1 cr2 => ?_;clear F2;refine pL 0 hS ?_;refine pU 1 hS ?_;refine pV 2 hS (l08Key_c id tT _ hn (by decide)) fun _ hS => ?_;refine pM2 SQ.fr 3 hS (tNum_c _ _ _ _ _ _ (pipeK id tT) _ hS.rd (O2.out.mono (by omega)) HE3.out) fun _ _ _ _ _ _ w3 hS hmo F3 => ?_;refine pU 4 hS ?_;refine pU 5 hS ?_;refine pU 6 hS ?_;refine pS 7 ?_;refine pW 8 ?_;refine wpAnyY_done (by kernel_rfl) ?_ _;have Q3 := hid9 (hS.put hmo);clear hS hmo Q2 cr0 cr1 cr2;by_cases c2 : x3 = x2
  ·subst c2;obtain ⟨rfl, rfl, rfl⟩ := leaf3 HE m3 (noB) (5) (by unfold takePipeP; simp only [pgz, ↓reduceIte, bz, HE1.out, HE2.out, HE3.out]);go_wp2;exact rt3 SQ.fr Q3 (by simp [results, results136, go_sem, noB, *])
  ·have hwx2 : IntKind.i64.wrap (x2 + 1) = x2 + 1 := by rw [IntKind.wrap_i64]; omega
   obtain ⟨m4, x4, HE4, O4⟩ := Pg.Cost.hop (lookP (pipeQ id (x2 + 1))) (lookP_cost _) O3;have sx4 := lookS_sz O3.out HE4.out;go_wp2_with fail;refine Q3.out.region [9] fun hS cr0 cr1 cr2 => ?_;clear F3;refine pL 0 hS ?_;refine pU 1 hS ?_;refine pU 2 hS ?_;refine pU 3 hS ?_;refine pV 4 hS (l08Message_c id (x2 + 1) _ hn (i64_succ bx2)) fun _ hS => ?_;refine pM2 SQ.fr 5 hS (tLook_c _ _ _ _ _ _ (pipeQ id (x2 + 1)) _ hS.rd (O3.out.mono (by omega)) HE4.out) fun _ _ _ _ _ _ w4 hS hmo F4 => ?_;refine pU 6 hS ?_;refine pU 7 hS ?_;refine pU 8 hS ?_;refine pS 9 ?_;refine pW 10 ?_;refine wpAnyY_done (by kernel_rfl) ?_ _;have Q4 := hid9 (hS.put hmo);clear hS hmo Q3 cr0 cr1 cr2;have EM := hid9 (msg_run HE4.out);by_cases c3 : Lib.hasPrefix x4.data.toList [45] = true
   ·have C3 := hid9 c3;clear c3;obtain ⟨h0, h45⟩ := hyphen_size C3.out;have t1 : ∀ t, binOp .neq t (.string x4) (.string ⟨#[]⟩) = pure (.bool true) := fun t => neq_empty (by omega);have t0 : (0 : Int) < (x4.size : Int) := by omega
    have t2 : ∀ t, binOp .eql t (.int .u8 (x4[0].toNat : Int)) (.int .u8 45) = pure (.bool true) := fun t => byte_eq (b := 45) h45;have t3 : (1 : Int) ≤ (x4.size : Int) := by omega
    go_wp2_with fail;refine nxV SQ.fr Q4 (tUnhexM_c x4 _ C3.out sx4) fun w5 Q5 F5 => ?_;clear F4 Q4;obtain ⟨m5, u5, HE5, O5⟩ := Pg.Cost.hop (layP (pipeQ id (x2 + 1)) (noB)) (layP_cost _ _) O4;go_wp2_with fail;refine Q5.out.region [6] fun hS cr0 cr1 cr2 => ?_;clear F5;refine pL 0 hS ?_;refine pU 1 hS ?_;refine pU 2 hS ?_;refine pU 3 hS ?_;refine pV 4 hS (l08Message_c id (x2 + 1) _ hn (i64_succ bx2)) fun _ hS => ?_;refine pM1 SQ.fr 5 hS (tLay_c _ _ _ _ _ _ (pipeQ id (x2 + 1)) (noB) _ hS.rd (O4.out.mono (by omega)) (Nat.le_trans (pipeQ_size hn (i64_succ bx2)) (by decide : (1000 : Nat) ≤ maxLen)) (by decide) HE5.out) fun x6_1 k6_1 x6_2 k6_2 x6_3 k6_3 w6 hS hmo F6 => ?_;refine pS 6 ?_;refine wpAnyY_done (by kernel_rfl) ?_ _;have Q6 := hid9 (hS.put hmo);clear hS hmo Q5 cr0 cr1 cr2;obtain ⟨m6, u6, HE6, O6⟩ := Pg.Cost.hop (setP (pipeK id tH) (x2 + 1)) (setP_cost _ _) O5;go_wp2_with fail;refine Q6.out.region [7] fun hS cr0 cr1 cr2 => ?_;clear F6;refine pL 0 hS ?_;refine pU 1 hS ?_;refine pU 3 hS ?_;refine pU 4 hS ?_;refine pU 6 hS ?_;refine pV 2 hS (l08Key_c id tH _ hn (by decide)) fun _ hS => ?_;refine pM1 SQ.fr 5 hS (tSet_c _ _ _ _ _ _ (pipeK id tH) (x2 + 1) _ hS.rd (O5.out.mono (by omega)) (Nat.le_trans (pipeK_size hn (by decide)) (by decide : (1000 : Nat) ≤ maxLen)) HE6.out) fun _ _ _ _ _ _ w7 hS hmo F7 => ?_;refine pS 7 ?_;refine pW 8 ?_;refine pW 9 ?_;refine wpAnyY_done (by kernel_rfl) ?_ _;have SE := hid9 (SQ.fr.finR hS hmo);clear hS hmo Q6 cr0 cr1 cr2;obtain ⟨rfl, rfl, rfl⟩ := leaf3 HE m6 (msgV x4) (0) (by unfold takePipeP; simp only [pgz, ↓reduceIte, bz, HE1.out, HE2.out, HE3.out, (show ¬ (x3 = x2) from by first | exact c2 | omega | simpa using c2), HE4.out, EM.out, C3.out, HE5.out, HE6.out]);go_wp2;exact re3 SE (by simp [results, results136, go_sem, noB, *])
   ·have C3 := hid9 (Bool.eq_false_iff.2 c3);clear c3;have EV := hid9 (msg_no C3.out);by_cases c4 : 0 < x4.size
    ·have C4 := hid9 c4;clear c4;have h45 := no_hyphen C3.out C4.out;have h0 : 0 < x4.size := C4.out;have t1 : ∀ t, binOp .neq t (.string x4) (.string ⟨#[]⟩) = pure (.bool true) := fun t => neq_empty h0;have t0 : (0 : Int) < (x4.size : Int) := by omega
     have t2 : ∀ t, binOp .eql t (.int .u8 (x4[0].toNat : Int)) (.int .u8 45) = pure (.bool false) := fun t => byte_ne (b := 45) h45;obtain ⟨m5, u5, HE5, O5⟩ := Pg.Cost.hop (layP (pipeQ id (x2 + 1)) (noB)) (layP_cost _ _) O4;go_wp2_with fail;refine Q4.out.region [6] fun hS cr0 cr1 cr2 => ?_;clear F4;refine pL 0 hS ?_;refine pU 1 hS ?_;refine pU 2 hS ?_;refine pU 3 hS ?_;refine pV 4 hS (l08Message_c id (x2 + 1) _ hn (i64_succ bx2)) fun _ hS => ?_;refine pM1 SQ.fr 5 hS (tLay_c _ _ _ _ _ _ (pipeQ id (x2 + 1)) (noB) _ hS.rd (O4.out.mono (by omega)) (Nat.le_trans (pipeQ_size hn (i64_succ bx2)) (by decide : (1000 : Nat) ≤ maxLen)) (by decide) HE5.out) fun x5_1 k5_1 x5_2 k5_2 x5_3 k5_3 w5 hS hmo F5 => ?_;refine pS 6 ?_;refine wpAnyY_done (by kernel_rfl) ?_ _;have Q5 := hid9 (hS.put hmo);clear hS hmo Q4 cr0 cr1 cr2;obtain ⟨m6, u6, HE6, O6⟩ := Pg.Cost.hop (setP (pipeK id tH) (x2 + 1)) (setP_cost _ _) O5;go_wp2_with fail;refine Q5.out.region [7] fun hS cr0 cr1 cr2 => ?_;clear F5;refine pL 0 hS ?_;refine pU 1 hS ?_;refine pU 3 hS ?_;refine pU 4 hS ?_;refine pU 6 hS ?_;refine pV 2 hS (l08Key_c id tH _ hn (by decide)) fun _ hS => ?_;refine pM1 SQ.fr 5 hS (tSet_c _ _ _ _ _ _ (pipeK id tH) (x2 + 1) _ hS.rd (O5.out.mono (by omega)) (Nat.le_trans (pipeK_size hn (by decide)) (by decide : (1000 : Nat) ≤ maxLen)) HE6.out) fun x6_1 k6_1 x6_2 k6_2 x6_3 k6_3 w6 hS hmo F6 => ?_;refine pS 7 ?_;refine pW 8 ?_;refine pW 9 ?_;refine wpAnyY_done (by kernel_rfl) ?_ _;have SE := hid9 (SQ.fr.finR hS hmo);clear hS hmo Q5 cr0 cr1 cr2;obtain ⟨rfl, rfl, rfl⟩ := leaf3 HE m6 (noB) (0) (by unfold takePipeP; simp only [pgz, ↓reduceIte, bz, HE1.out, HE2.out, HE3.out, (show ¬ (x3 = x2) from by first | exact c2 | omega | simpa using c2), HE4.out, EM.out, C3.out, EV.out, C4.out, HE5.out, HE6.out]);go_wp2;exact re3 SE (by simp [results, results136, go_sem, noB, *])
    ·have C4 := hid9 c4;clear c4;have t1 : ∀ t, binOp .neq t (.string x4) (.string ⟨#[]⟩) = pure (.bool false) := fun t => eq_empty (Nat.eq_zero_of_not_pos C4.out);obtain ⟨m5, u5, HE5, O5⟩ := Pg.Cost.hop (layP (pipeQ id (x2 + 1)) (noB)) (layP_cost _ _) O4;go_wp2_with fail;refine Q4.out.region [6] fun hS cr0 cr1 cr2 => ?_;clear F4;refine pL 0 hS ?_;refine pU 1 hS ?_;refine pU 2 hS ?_;refine pU 3 hS ?_;refine pV 4 hS (l08Message_c id (x2 + 1) _ hn (i64_succ bx2)) fun _ hS => ?_;refine pM1 SQ.fr 5 hS (tLay_c _ _ _ _ _ _ (pipeQ id (x2 + 1)) (noB) _ hS.rd (O4.out.mono (by omega)) (Nat.le_trans (pipeQ_size hn (i64_succ bx2)) (by decide : (1000 : Nat) ≤ maxLen)) (by decide) HE5.out) fun x5_1 k5_1 x5_2 k5_2 x5_3 k5_3 w5 hS hmo F5 => ?_;refine pS 6 ?_;refine wpAnyY_done (by kernel_rfl) ?_ _;have Q5 := hid9 (hS.put hmo);clear hS hmo Q4 cr0 cr1 cr2;obtain ⟨m6, u6, HE6, O6⟩ := Pg.Cost.hop (setP (pipeK id tH) (x2 + 1)) (setP_cost _ _) O5;go_wp2_with fail;refine Q5.out.region [7] fun hS cr0 cr1 cr2 => ?_;clear F5;refine pL 0 hS ?_;refine pU 1 hS ?_;refine pU 3 hS ?_;refine pU 4 hS ?_;refine pU 6 hS ?_;refine pV 2 hS (l08Key_c id tH _ hn (by decide)) fun _ hS => ?_;refine pM1 SQ.fr 5 hS (tSet_c _ _ _ _ _ _ (pipeK id tH) (x2 + 1) _ hS.rd (O5.out.mono (by omega)) (Nat.le_trans (pipeK_size hn (by decide)) (by decide : (1000 : Nat) ≤ maxLen)) HE6.out) fun x6_1 k6_1 x6_2 k6_2 x6_3 k6_3 w6 hS hmo F6 => ?_;refine pS 7 ?_;refine pW 8 ?_;refine pW 9 ?_;refine wpAnyY_done (by kernel_rfl) ?_ _;have SE := hid9 (SQ.fr.finR hS hmo);clear hS hmo Q5 cr0 cr1 cr2;obtain ⟨rfl, rfl, rfl⟩ := leaf3 HE m6 (noB) (0) (by unfold takePipeP; simp only [pgz, ↓reduceIte, bz, HE1.out, HE2.out, HE3.out, (show ¬ (x3 = x2) from by first | exact c2 | omega | simpa using c2), HE4.out, EM.out, C3.out, EV.out, C4.out, HE5.out, HE6.out]);go_wp2;exact re3 SE (by simp [results, results136, go_sem, noB, *])
theorem tickL_cons (c : Int) (k : ByteArray) (ks : List ByteArray) (n : Int) : tickL c (k :: ks) n = (numP k >>= fun at_ => if c < at_ then tickL c ks n else layP k noB >>= fun _ => sendP (numOfV (drop2 k)) 14 >>= fun _ => tickL c ks (n + 1)) := rfl
set_option maxRecDepth 100000 in
theorem tTick_c (v1 v2 v3 : Value) (m m' : Mch) (x y : Int) (n : Int) (w : World) (h : MRd w v1 v2 v3 m) (O0 : Hid (MOk 200000000000 m)) (hn : I64 n) (HE : Hid ((tickP n).run m = (m', (x, y)))) :
 Calls prog 140 #[.agg #[v1, v2, v3], .int .i64 n] w (SRet3 v1 v2 v3 m m' (.int .i64 x) (.int .i64 y) w) := by
 obtain ⟨a1, q1, a2, q2, a3, q3, rfl, rfl, rfl, Q0⟩ := h.start;clear h;go_enter func140, ntmps140;have hnl := hn.lo;have hnh := hn.hi;by_cases c1 : n < 1
 ·obtain ⟨rfl, rfl, rfl⟩ := leaf3 HE m (0) (4) (by unfold tickP; simp only [pgz, ↓reduceIte, bz, (show n < 1 from by first | exact c1 | omega | simpa using c1)]);go_wp2;exact rz3 (by simp [results, results140, go_sem, *]) bel9
 ·obtain ⟨m1, x1, HE1, O1⟩ := Pg.Cost.hop (numP (cClock)) (numP_cost _) O0;have bx1 := numP_bounds HE1.out;go_wp2_with fail;refine nx2 SQ.fr Q0 (tNum_c _ _ _ _ _ _ (cClock) _ Q0.out.rd (O0.out.mono (by omega)) HE1.out) fun _ _ _ _ _ _ w1 Q1 F1 => ?_;clear Q0;have hw999x1 : IntKind.i64.wrap (999 - x1) = 999 - x1 := by rw [IntKind.wrap_i64]; omega
  by_cases c2 : 999 - x1 < n
  ·obtain ⟨rfl, rfl, rfl⟩ := leaf3 HE m1 (0) (3) (by unfold tickP; simp only [pgz, ↓reduceIte, bz, (show ¬ (n < 1) from by first | exact c1 | omega | simpa using c1), HE1.out, (show 999 - x1 < n from by first | exact c2 | omega | simpa using c2)]);go_wp2;exact rt3 SQ.fr Q1 (by simp [results, results140, go_sem, *])
  ·have hwc : IntKind.i64.wrap (x1 + n) = x1 + n := by rw [IntKind.wrap_i64]; omega
   obtain ⟨m2, u2, HE2, O2⟩ := Pg.Cost.hop (setP (cClock) (x1 + n)) (setP_cost _ _) O1;go_wp2_with fail;refine nx1 SQ.fr Q1 (tSet_c _ _ _ _ _ _ (cClock) (x1 + n) _ Q1.out.rd (O1.out.mono (by omega)) (Nat.le_trans ((by decide)) (by decide : (1000 : Nat) ≤ maxLen)) HE2.out) fun _ _ _ _ _ _ w2 Q2 F2 => ?_;clear F1 Q1;obtain ⟨m3, ks, HE3, O3⟩ := Pg.Cost.hop (underP (tHead)) (underP_cost _) O2;obtain ⟨hsz, hkn⟩ := under_sz O2.out HE3.out;have HSZ := hid9 hsz;clear hsz;have HPRE := hid9 (under_pre HE3.out);go_wp2_with fail;refine nxK  Q2 (tUnder_c _ _ _ _ _ _ (tHead) _ Q2.out.rd (O2.out.mono (by omega)) (by decide) HE3.out) fun _ _ _ _ _ _ a c w3 Q3 F3 => ?_;clear F2 Q2;obtain ⟨m4, x9, HE4, O4⟩ := Pg.Cost.hop (tickL (x1 + n) ks 0) ((tickL_cost _ _ _)) O3;go_wp2;go_loopw [9, 10] (fun vxn i wr => ∃ k : Nat, k ≤ ks.length ∧ i = .int .i64 k ∧ ∃ xn : Int, vxn = .int .i64 xn ∧ (0 ≤ xn ∧ xn ≤ k) ∧ Hid (∃ y1 d1 y2 d2 y3 d3 mk, SL w (.slice a1 m.st.length q1) (.slice a2 m.rs.length q2) (.slice a3 m.ws.length q3) m a c ks (.slice y1 mk.st.length d1) (.slice y2 mk.rs.length d2) (.slice y3 mk.ws.length d3) mk wr ∧ MOk (200000000003 + 7 * k) mk ∧ (tickL (x1 + n) (ks.drop k) xn).run mk = (m4, x9))) (fun _ i _ => ks.length - (intOf i).toNat)
   case atStart => exact ⟨0, Nat.zero_le _, rfl, 0, rfl, ⟨by omega, by omega⟩, hid9 ⟨_, _, _, _, _, _, _, Q3.out, O3.out.mono (by omega), HE4.out⟩⟩
   case round =>
    obtain ⟨k, hk, rfl, xn, rfl, ⟨hx0, hxk⟩, HI⟩ := hrel;obtain ⟨y1, d1, y2, d2, y3, d3, mk, hl, ho, hr⟩ := HI.out;have Qh := hid9 hl;have O44 := hid9 ho;have HR := hid9 hr;clear HI hl ho hr Q3 F3;by_cases hlt : k < ks.length
    ·obtain ⟨y, hy⟩ := some_of_lt hlt;obtain ⟨b, off, hab⟩ := SL.at_ Qh.out hy;subst hab;have p1 : (0 : Int) ≤ (k : Int) := by omega
     have p2 : (k : Int) < (ks.length : Int) := by omega
     have hys := HSZ.out y (List.mem_of_getElem? hy);have hyp : 2 ≤ y.size := begins_size (HPRE.out y (List.mem_of_getElem? hy));have hyi : (2 : Int) ≤ (y.size : Int) := by omega
     have HY := hid9 hy;clear hy hlt;have F := Qh.out.fx;have ky := SL.cell Qh.out HY.out;obtain ⟨m45, z1, HE45, O45⟩ := Pg.Cost.hop (numP (y)) (numP_cost _) O44;have bz1 := numP_bounds HE45.out;go_wp2_with fail;refine Qh.out.region [9] fun hS cr0 cr1 cr2 => ?_;clear F ky;have cry := SL.cry Qh.out HY.out;refine pL 0 hS ?_;refine pU 1 hS ?_;refine pU 2 hS ?_;refine pU 3 hS ?_;refine pL 4 hS ?_;refine pM2 (SL.frk HY.out) 5 hS (tNum_c _ _ _ _ _ _ (y) _ hS.rd (O44.out.mono (by omega)) HE45.out) fun _ _ _ _ _ _ wr1 hS hmo Fr1 => ?_;refine pU 6 hS ?_;refine pU 7 hS ?_;refine pU 8 hS ?_;refine pS 9 ?_;refine pW 10 ?_;refine wpAnyY_done (by kernel_rfl) ?_ _;have Qr1 := hid9 (hS.put hmo);clear hS hmo Qh cr0 cr1 cr2 cry;by_cases c41 : x1 + n < z1
     ·have HR2 := hid9 (show (tickL (x1 + n) (ks.drop (k + 1)) (xn)).run m45 = (m4, x9) from by
       have h := HR.out;rw [drop_cons HY.out, tickL_cons] at h;simp only [pgz, ↓reduceIte, bz, HE45.out, (show x1 + n < z1 from by first | exact c41 | omega | simpa using c41)] at h;exact h)
      clear HR;go_wp2;go_roundw
      case rel => exact ⟨k + 1, by omega, by go_num, _, rfl, ⟨by omega, by omega⟩, hid9 ⟨_, _, _, _, _, _, _, Qr1.out, O45.out.mono (by omega), HR2.out⟩⟩
      case measure => simp [intOf]; omega
     ·obtain ⟨m46, u46, HE46, O46⟩ := Pg.Cost.hop (layP (y) (noB)) (layP_cost _ _) O45;go_wp2_with fail;refine Qr1.out.region [6] fun hS cr0 cr1 cr2 => ?_;clear Fr1;have cry := SL.cry Qr1.out HY.out;refine pL 0 hS ?_;refine pU 1 hS ?_;refine pU 2 hS ?_;refine pU 3 hS ?_;refine pL 4 hS ?_;refine pM1 (SL.frk HY.out) 5 hS (tLay_c _ _ _ _ _ _ (y) (noB) _ hS.rd (O45.out.mono (by omega)) (by have := hys; unfold maxLen; omega) (by decide) HE46.out) fun _ _ _ _ _ _ wr2 hS hmo Fr2 => ?_;refine pS 6 ?_;refine wpAnyY_done (by kernel_rfl) ?_ _;have Qr2 := hid9 (hS.put hmo);clear hS hmo Qr1 cr0 cr1 cr2 cry;obtain ⟨dv, hdv⟩ : ∃ dv, numOfV (drop2 y) = dv := ⟨_, rfl⟩;have bdv := numOf_bounds (drop2 y);rw [hdv] at bdv;have hi : I64 dv := i64_of bdv;have KNU := hid9 (fun W => specNumOf_c (y.extract 2 y.size) W);rw [show numOfV (y.extract 2 y.size) = dv from hdv] at KNU;have HDV := hid9 (hdv);clear hdv;have hwx : IntKind.i64.wrap (xn + 1) = xn + 1 := by rw [IntKind.wrap_i64]; omega
      obtain ⟨m47, xs, HE47, O47⟩ := Pg.Cost.hop (sendP dv 14) (sendP_cost _ _) O46;go_wp2_with fail;refine Qr2.out.region [11] fun hS cr0 cr1 cr2 => ?_;clear Fr2;have cry := SL.cry Qr2.out HY.out;refine pL 0 hS ?_;refine pU 1 hS ?_;refine pU 2 hS ?_;refine pU 3 hS ?_;refine pL 4 hS ?_;refine pU 5 hS ?_;refine pV 6 hS (KNU.out _) fun _ hS => ?_;refine pM2 (SL.frk HY.out) 7 hS (tSend_c _ _ _ _ _ _ dv 14 _ hS.rd (O46.out.mono (by omega)) hi HE47.out) fun _ _ _ _ _ _ wr3 hS hmo Fr3 => ?_;refine pU 8 hS ?_;refine pU 9 hS ?_;refine pU 10 hS ?_;refine pS 11 ?_;refine wpAnyY_done (by kernel_rfl) ?_ _;have Qr3 := hid9 (hS.put hmo);clear hS hmo Qr2 cr0 cr1 cr2 cry;have HR2 := hid9 (show (tickL (x1 + n) (ks.drop (k + 1)) (xn + 1)).run m47 = (m4, x9) from by
       have h := HR.out;rw [drop_cons HY.out, tickL_cons] at h;simp only [pgz, ↓reduceIte, bz, HE45.out, (show ¬ (x1 + n < z1) from by first | exact c41 | omega | simpa using c41), HE46.out, HDV.out, HE47.out] at h;exact h)
      clear HR;go_wp2;go_roundw
      case rel => exact ⟨k + 1, by omega, by go_num, _, rfl, ⟨by omega, by omega⟩, hid9 ⟨_, _, _, _, _, _, _, Qr3.out, O47.out.mono (by omega), HR2.out⟩⟩
      case measure => simp [intOf]; omega
    ·obtain rfl : k = ks.length := by omega
     have p2 : ¬ ((ks.length : Nat) : Int) < (ks.length : Int) := by omega
     have hr := HR.out;rw [List.drop_length] at hr;obtain ⟨e1, e2⟩ := Prod.mk.inj (show (m4, x9) = (mk, xn) from hr.symm);subst e1 e2;clear hr HR;have F := Qh.out.fx;obtain ⟨rfl, rfl, rfl⟩ := leaf3 HE m4 (x9) (0) (by unfold tickP; simp only [pgz, ↓reduceIte, bz, (show ¬ (n < 1) from by first | exact c1 | omega | simpa using c1), HE1.out, (show ¬ (999 - x1 < n) from by first | exact c2 | omega | simpa using c2), HE2.out, HE3.out, HE4.out]);go_wp2;exact rt3 SL.fr Qh (by simp [results, results140, go_sem, *])
set_option maxRecDepth 100000 in
theorem tDo_c (v1 v2 v3 : Value) (m m' : Mch) (a : Ans) (proc : Int) (c : Cal) (w : World) (h : MRd w v1 v2 v3 m) (ho : MOk 100000000000 m) (hp : I64 proc) (hc : COk c) (E : (callP proc c).run m = (m', a)) :
 Calls prog 73 #[.agg #[v1, v2, v3], .int .i64 proc, .agg #[.int .i64 c.kind, .string c.name, .string c.dest, .int .i64 c.a, .int .i64 c.b, .string c.text]] w (SRet v1 v2 v3 m m' (.agg #[.int .i64 a.code, .int .i64 a.n, .string a.text]) w) := by
 obtain ⟨a1, q1, a2, q2, a3, q3, rfl, rfl, rfl⟩ := h.open3;have Q0 := hid9 ((((BQ.one h 87).new (w.heap.size + 1) (by simp) [.int .i64 c.kind, .string c.name, .string c.dest, .int .i64 c.a, .int .i64 c.b, .string c.text] 36).new (w.heap.size + 2) (by simp) [.slice none 0 0, .slice none 0 0, .slice none 0 0] 87).new (w.heap.size + 3) (by simp) [.int .i64 0, .int .i64 0, .string ⟨#[]⟩] 28);have O0 := hid9 ho;obtain ⟨m1, s1, E1⟩ : ∃ aa bb, (stateP proc).run m = (aa, bb) := ⟨_, _, rfl⟩;have O1 := hid9 ((stateP_cost _).okE ho E1);have HE1 := hid9 E1;have HE := hid9 E;have HC := hid9 hc;clear h ho E1 E hc;go_enter func73, ntmps73;go_wp2_with fail;refine bx2 Q0 (tState_c _ _ _ _ _ _ proc _ Q0.out.rd (O0.out.mono (by omega)) hp HE1.out) fun x11 k11 x12 k12 x13 k13 w1 QB1 _ Q1 F1 => ?_;clear Q0;by_cases hs1 : s1 = 1
 ·subst hs1;have KC := hid9 (fun W => specCallOk_c c HC.out.n HC.out.d HC.out.t W);have C1 := QB1.out.b6 2 _ _ _ _ _ _ _ rfl;go_wp2_with fail;refine (KC.out _).mono ?_;rintro e w2 ⟨rfl, hb⟩;clear F1 C1 KC;have Q2 := hid9 (Q1.out.below hb);clear hb Q1 QB1;have F2 := Q2.out.fx;cases hk : callOkB c with
  | false =>
   obtain ⟨rfl, rfl⟩ := Prod.mk.inj (show (m1, (⟨4, 0, noB⟩ : Ans)) = (m', a) from by have h := HE.out; unfold callP at h; rw [Pg.run_bind, HE1.out] at h; simp only [↓reduceIte, hk, Bool.false_eq_true] at h; exact h);have R1 := Q2.out.b3 1 _ _ _ _ rfl;have R0 := Q2.out.b3 0 _ _ _ _ rfl;go_wp2;refine bt2 ((Q2.out.set3 1 _ _ rfl _ _ _).set3 0 _ _ rfl _ _ _) ?_;simp [results, results73, go_sem, ansN, ansC, ansT, noB, *]
  | true =>
   have hz := ok_sizes hk;have hb9 := ok_kind hk;have HK0 := hid9 (show (kindP proc c).run m1 = (m', a) from by have h := HE.out; unfold callP at h; rw [Pg.run_bind, HE1.out] at h; simp only [↓reduceIte, hk] at h; exact h);clear HE hk;have C2 := Q2.out.b6 2 _ _ _ _ _ _ _ rfl;have NE := apart4 (show w.heap.size + 4 ≤ w2.heap.size from (Q2.out.box 0 _ rfl).1);have Q3 := hid9 (Q2.out.new w2.heap.size rfl [.int .i64 0, .int .i64 0, .string ⟨#[]⟩] 28);clear Q2;rcases (show (c.kind = 1 ∨ c.kind = 2 ∨ c.kind = 3 ∨ c.kind = 4 ∨ c.kind = 9 ∨ c.kind = 10 ∨ c.kind = 11 ∨ c.kind = 16 ∨ c.kind = 17 ∨ c.kind = 18 ∨ c.kind = 19 ∨ c.kind = 20 ∨ c.kind = 21 ∨ c.kind = 22) ∨ c.kind = 5 ∨ c.kind = 6 ∨ c.kind = 7 ∨ c.kind = 8 ∨ c.kind = 12 ∨ c.kind = 13 ∨ c.kind = 14 ∨ c.kind = 15 by omega) with h9 | h9
   ·rcases h9 with h9 | h9 | h9 | h9 | h9 | h9 | h9 | h9 | h9 | h9 | h9 | h9 | h9 | h9
    all_goals
     have HKK := hid9 h9;rw [h9] at C2;clear h9 hb9;go_wp2_with fail
    have HK := HK0.out;rw [kind1 HKK.out] at HK;obtain ⟨⟨x, y⟩, HE2, rfl⟩ := hop2 HK;refine bx3 Q3 (tMake_c _ _ _ _ _ _ _ c.name _ Q3.out.rd (O1.out.mono (by omega)) (by omega) HE2) fun x41 k41 x42 k42 x43 k43 w4 QB4 _ Q4 F4 => ?_;clear F2 C2 Q3;have h9 := ((Q4.out.set1 0 _ _ rfl 1 (.int .i64 x)).set1 0 _ _ rfl 0 (.int .i64 y));simp only [List.set_cons_zero, List.set_cons_succ] at h9;have Q5 := hid9 h9;clear h9 Q4
    rotate_left
    have HK := HK0.out;rw [kind2 HKK.out] at HK;obtain ⟨x, HE2, rfl⟩ := hop2 HK;refine bx2 Q3 (tLink_c _ _ _ _ _ _ c.name c.dest _ Q3.out.rd (O1.out.mono (by omega)) (by omega) (by omega) HE2) fun x41 k41 x42 k42 x43 k43 w4 QB4 _ Q4 F4 => ?_;clear F2 C2 Q3;have h9 := (Q4.out.set1 0 _ _ rfl 0 (.int .i64 x));simp only [List.set_cons_zero, List.set_cons_succ] at h9;have Q5 := hid9 h9;clear h9 Q4
    rotate_left
    have HK := HK0.out;rw [kind3 HKK.out] at HK;obtain ⟨x, HE2, rfl⟩ := hop2 HK;refine bx2 Q3 (tUnlink_c _ _ _ _ _ _ c.name _ Q3.out.rd (O1.out.mono (by omega)) (by omega) HE2) fun x41 k41 x42 k42 x43 k43 w4 QB4 _ Q4 F4 => ?_;clear F2 C2 Q3;have h9 := (Q4.out.set1 0 _ _ rfl 0 (.int .i64 x));simp only [List.set_cons_zero, List.set_cons_succ] at h9;have Q5 := hid9 h9;clear h9 Q4
    rotate_left
    have HK := HK0.out;rw [kind4 HKK.out] at HK;obtain ⟨x, HE2, rfl⟩ := hop2 HK;refine bx2 Q3 (tRename_c _ _ _ _ _ _ c.name c.dest _ Q3.out.rd (O1.out.mono (by omega)) (by omega) (by omega) HE2) fun x41 k41 x42 k42 x43 k43 w4 QB4 _ Q4 F4 => ?_;clear F2 C2 Q3;have h9 := (Q4.out.set1 0 _ _ rfl 0 (.int .i64 x));simp only [List.set_cons_zero, List.set_cons_succ] at h9;have Q5 := hid9 h9;clear h9 Q4
    rotate_left
    have HK := HK0.out;rw [kind9 HKK.out] at HK;obtain ⟨⟨x, y⟩, HE2, rfl⟩ := hop2 HK;refine bx3 Q3 (tMkPipe_c _ _ _ _ _ _ _  _ Q3.out.rd (O1.out.mono (by omega))  HE2) fun x41 k41 x42 k42 x43 k43 w4 QB4 _ Q4 F4 => ?_;clear F2 C2 Q3;have h9 := ((Q4.out.set1 0 _ _ rfl 1 (.int .i64 x)).set1 0 _ _ rfl 0 (.int .i64 y));simp only [List.set_cons_zero, List.set_cons_succ] at h9;have Q5 := hid9 h9;clear h9 Q4
    rotate_left
    have HK := HK0.out;rw [kind10 HKK.out] at HK;obtain ⟨x, HE2, rfl⟩ := hop2 HK;refine bx2 Q3 (tPutPipe_c _ _ _ _ _ _ c.a c.text _ Q3.out.rd (O1.out.mono (by omega)) HC.out.a HE2) fun x41 k41 x42 k42 x43 k43 w4 QB4 _ Q4 F4 => ?_;clear F2 C2 Q3;have h9 := (Q4.out.set1 0 _ _ rfl 0 (.int .i64 x));simp only [List.set_cons_zero, List.set_cons_succ] at h9;have Q5 := hid9 h9;clear h9 Q4
    rotate_left
    have HK := HK0.out;rw [kind11 HKK.out] at HK;obtain ⟨⟨x, y⟩, HE2, rfl⟩ := hop2 HK;refine bx3 Q3 (tTakePipe_c _ _ _ _ _ _ _ c.a _ Q3.out.rd (O1.out.mono (by omega)) HC.out.a HE2) fun x41 k41 x42 k42 x43 k43 w4 QB4 _ Q4 F4 => ?_;clear F2 C2 Q3;have h9 := ((Q4.out.set1 0 _ _ rfl 2 (.string x)).set1 0 _ _ rfl 0 (.int .i64 y));simp only [List.set_cons_zero, List.set_cons_succ] at h9;have Q5 := hid9 h9;clear h9 Q4
    rotate_left
    have HK := HK0.out;rw [kind16 HKK.out] at HK;obtain ⟨x, HE2, rfl⟩ := hop2 HK;refine bx2 Q3 (tSend_c _ _ _ _ _ _ c.a c.b _ Q3.out.rd (O1.out.mono (by omega)) HC.out.a HE2) fun x41 k41 x42 k42 x43 k43 w4 QB4 _ Q4 F4 => ?_;clear F2 C2 Q3;have h9 := (Q4.out.set1 0 _ _ rfl 0 (.int .i64 x));simp only [List.set_cons_zero, List.set_cons_succ] at h9;have Q5 := hid9 h9;clear h9 Q4
    rotate_left
    have HK := HK0.out;rw [kind17 HKK.out] at HK;obtain ⟨⟨x, y⟩, HE2, rfl⟩ := hop2 HK;refine bx3 Q3 (tTakeSig_c _ _ _ _ _ _ _ proc _ Q3.out.rd (O1.out.mono (by omega)) hp HE2) fun x41 k41 x42 k42 x43 k43 w4 QB4 _ Q4 F4 => ?_;clear F2 C2 Q3;have h9 := ((Q4.out.set1 0 _ _ rfl 1 (.int .i64 x)).set1 0 _ _ rfl 0 (.int .i64 y));simp only [List.set_cons_zero, List.set_cons_succ] at h9;have Q5 := hid9 h9;clear h9 Q4
    rotate_left
    have HK := HK0.out;rw [kind18 HKK.out] at HK;obtain ⟨x, HE2, rfl⟩ := hop2 HK;refine bx2 Q3 (tTimer_c _ _ _ _ _ _ proc c.a _ Q3.out.rd (O1.out.mono (by omega)) hp HE2) fun x41 k41 x42 k42 x43 k43 w4 QB4 _ Q4 F4 => ?_;clear F2 C2 Q3;have h9 := (Q4.out.set1 0 _ _ rfl 0 (.int .i64 x));simp only [List.set_cons_zero, List.set_cons_succ] at h9;have Q5 := hid9 h9;clear h9 Q4
    rotate_left
    have HK := HK0.out;rw [kind19 HKK.out] at HK;obtain ⟨⟨x, y⟩, HE2, rfl⟩ := hop2 HK;refine bx3 Q3 (tTick_c _ _ _ _ _ _ _ c.a _ Q3.out.rd (O1.out.mono (by omega)) HC.out.a HE2) fun x41 k41 x42 k42 x43 k43 w4 QB4 _ Q4 F4 => ?_;clear F2 C2 Q3;have h9 := ((Q4.out.set1 0 _ _ rfl 1 (.int .i64 x)).set1 0 _ _ rfl 0 (.int .i64 y));simp only [List.set_cons_zero, List.set_cons_succ] at h9;have Q5 := hid9 h9;clear h9 Q4
    rotate_left
    have HK := HK0.out;rw [kind20 HKK.out] at HK;obtain ⟨x, HE2, rfl⟩ := hop2 HK;refine bx2 Q3 (tStore_c _ _ _ _ _ _ proc c.a c.text _ Q3.out.rd (O1.out.mono (by omega)) hp HE2) fun x41 k41 x42 k42 x43 k43 w4 QB4 _ Q4 F4 => ?_;clear F2 C2 Q3;have h9 := (Q4.out.set1 0 _ _ rfl 0 (.int .i64 x));simp only [List.set_cons_zero, List.set_cons_succ] at h9;have Q5 := hid9 h9;clear h9 Q4
    rotate_left
    have HK := HK0.out;rw [kind21 HKK.out] at HK;obtain ⟨⟨x, y⟩, HE2, rfl⟩ := hop2 HK;refine bx3 Q3 (tLoad_c _ _ _ _ _ _ _ proc c.a _ Q3.out.rd (O1.out.mono (by omega)) hp HE2) fun x41 k41 x42 k42 x43 k43 w4 QB4 _ Q4 F4 => ?_;clear F2 C2 Q3;have h9 := ((Q4.out.set1 0 _ _ rfl 2 (.string x)).set1 0 _ _ rfl 0 (.int .i64 y));simp only [List.set_cons_zero, List.set_cons_succ] at h9;have Q5 := hid9 h9;clear h9 Q4
    rotate_left
    have HK := HK0.out;rw [kind22 HKK.out] at HK;obtain ⟨x, HE2, rfl⟩ := hop2 HK;refine bx2 Q3 (tPutOut_c _ _ _ _ _ _ c.text _ Q3.out.rd (O1.out.mono (by omega))  HE2) fun x41 k41 x42 k42 x43 k43 w4 QB4 _ Q4 F4 => ?_;clear F2 C2 Q3;have h9 := (Q4.out.set1 0 _ _ rfl 0 (.int .i64 x));simp only [List.set_cons_zero, List.set_cons_succ] at h9;have Q5 := hid9 h9;clear h9 Q4
    rotate_left
    all_goals
     have B0 := QB4.out.b3 0 _ _ _ _ rfl;go_wp2;refine Q5.out.dres 2 0 [3] rfl rfl (by decide) fun hS cr0 cr1 cr2 ca0 ca1 ca2 => ?_;clear F4 B0;refine pL 0 hS ?_;refine pL 1 hS ?_;clear hS;have B2 := QB4.out.b3 2 _ _ _ _ rfl;have hq1 := Q5.out.setm 2 _ _ rfl;refine pT 2 ⟨_, rfl, hq1.drew⟩ ?_;clear Q5;have B1 := QB4.out.b3 1 _ _ _ _ rfl;refine pS 3 ?_;refine wpAnyY_done (by kernel_rfl) ?_ _;have SE := hid9 (hq1.copy 1 _ _ rfl 0 _ _ _ _ rfl).drew;clear hq1 QB4 cr0 cr1 cr2 ca0 ca1 ca2;have U2 := SE.out.b3 2 _ _ _ _ rfl;have U1 := SE.out.b3 1 _ _ _ _ rfl;go_wp2;exact bt2 SE.out (by simp [results, results73, go_sem, ansN, ansC, ansT, noB, *])
   ·obtain ⟨xc, xn, xt⟩ := a;rcases h9 with h9 | h9 | h9 | h9 | h9 | h9 | h9 | h9
    all_goals
     have HKK := hid9 h9;rw [h9] at C2;clear h9 hb9;go_wp2_with fail
    obtain ⟨y, hy⟩ : ∃ y, ((namesP).run m1).2 = y := ⟨_, rfl⟩;have e : (kindP proc c).run m1 = (((namesP).run m1).1, (⟨0, 0, wordsS y⟩ : Ans)) := by rw [kind5 HKK.out, Pg.run_bind, Pg.run_pure, hy]
    obtain ⟨f1, f2⟩ := Prod.mk.inj (HK0.out.symm.trans e);cases f2;have h := tNamesA_c _ _ _ _ _ y _ Q3.out.rd (O1.out.mono (by omega)) (Prod.ext f1.symm hy);clear e hy;refine bx2 Q3 h fun x41 k41 x42 k42 x43 k43 w4 QB4 HMO _ F4 => ?_;clear h
    rotate_left
    have HK := HK0.out;rw [kind6 HKK.out] at HK;have h := tFile_c _ _ _ _ _ ⟨xc, xn, xt⟩ c _ Q3.out.rd (O1.out.mono (by omega)) HC.out (by omega) (by omega) (by rw [HKK.out]; decide) HK;rw [HKK.out] at h;refine bx2 Q3 h fun x41 k41 x42 k42 x43 k43 w4 QB4 HMO _ F4 => ?_;clear h
    rotate_left
    have HK := HK0.out;rw [kind7 HKK.out] at HK;have h := tFile_c _ _ _ _ _ ⟨xc, xn, xt⟩ c _ Q3.out.rd (O1.out.mono (by omega)) HC.out (by omega) (by omega) (by rw [HKK.out]; decide) HK;rw [HKK.out] at h;refine bx2 Q3 h fun x41 k41 x42 k42 x43 k43 w4 QB4 HMO _ F4 => ?_;clear h
    rotate_left
    have HK := HK0.out;rw [kind8 HKK.out] at HK;have h := tFile_c _ _ _ _ _ ⟨xc, xn, xt⟩ c _ Q3.out.rd (O1.out.mono (by omega)) HC.out (by omega) (by omega) (by rw [HKK.out]; decide) HK;rw [HKK.out] at h;refine bx2 Q3 h fun x41 k41 x42 k42 x43 k43 w4 QB4 HMO _ F4 => ?_;clear h
    rotate_left
    have h := tProc12_c _ _ _ _ _ ⟨xc, xn, xt⟩ proc c _ Q3.out.rd (O1.out.mono (by omega)) hp HC.out HKK.out HK0.out;rw [HKK.out] at h;refine bx2 Q3 h fun x41 k41 x42 k42 x43 k43 w4 QB4 HMO _ F4 => ?_;clear h
    rotate_left
    have h := tProc13_c _ _ _ _ _ ⟨xc, xn, xt⟩ proc c _ Q3.out.rd (O1.out.mono (by omega)) hp HC.out HKK.out HK0.out;rw [HKK.out] at h;refine bx2 Q3 h fun x41 k41 x42 k42 x43 k43 w4 QB4 HMO _ F4 => ?_;clear h
    rotate_left
    have h := tProc14_c _ _ _ _ _ ⟨xc, xn, xt⟩ proc c _ Q3.out.rd (O1.out.mono (by omega)) hp HC.out HKK.out HK0.out;rw [HKK.out] at h;refine bx2 Q3 h fun x41 k41 x42 k42 x43 k43 w4 QB4 HMO _ F4 => ?_;clear h
    rotate_left
    have h := tProc15_c _ _ _ _ _ ⟨xc, xn, xt⟩ proc c _ Q3.out.rd (O1.out.mono (by omega)) hp HC.out HKK.out HK0.out;rw [HKK.out] at h;refine bx2 Q3 h fun x41 k41 x42 k42 x43 k43 w4 QB4 HMO _ F4 => ?_;clear h
    rotate_left
    all_goals
     clear F2 C2 Q3;have R1 := QB4.out.b3 2 _ _ _ _ rfl;have R0 := QB4.out.b3 1 _ _ _ _ rfl;go_wp2;exact bo2 QB4.out HMO.out 2 _ _ rfl 1 _ _ rfl (by decide) (by simp [results, results73, go_sem, ansN, ansC, ansT, noB, *]) (by (simp; omega)) (by (simp; omega)) (by (simp; omega))
 ·obtain ⟨rfl, rfl⟩ := Prod.mk.inj (show (m1, (⟨2, 0, noB⟩ : Ans)) = (m', a) from by have h := HE.out; unfold callP at h; rw [Pg.run_bind, HE1.out] at h; simp only [if_neg hs1] at h; exact h);have R1 := QB1.out.b3 1 _ _ _ _ rfl;have R0 := QB1.out.b3 0 _ _ _ _ rfl;go_wp2;refine bt2 ((Q1.out.set3 1 _ _ rfl _ _ _).set3 0 _ _ rfl _ _ _) ?_;simp [results, results73, go_sem, ansN, ansC, ansT, noB, *]
end
section
open Go Go.ChangeShapes Go.WideShapes Go.ChangeAt Go.RowKit
abbrev ptr0 (b : Nat) : Value := .pointer (some ⟨b, 0, none⟩)
def vb : Option Nat → Value
 | none => undef
 | some b => ptr0 b
def pA (a : Act) (tp tq : Nat) (x y : Value) : Act := (a.put (some tp) x).put (some tq) y
def mk1 (l : Array Bool) (p : Nat) : Option Nat → Array Bool
 | none => l
 | some _ => l.setIfInBounds p true
def mk2 (l : Array Bool) (p q : Nat) (o1 o2 : Option Nat) : Array Bool := mk1 (mk1 l p o1) q o2
def need : Option Nat → Nat
 | none => 1
 | some _ => 0
theorem set_comm {α : Type} (xs : Array α) {i j : Nat} (h : i ≠ j) (x y : α) : (xs.setIfInBounds i x).setIfInBounds j y = (xs.setIfInBounds j y).setIfInBounds i x := by
 apply Array.ext_getElem?;intro k;simp only [Array.getElem?_setIfInBounds, Array.size_setIfInBounds];by_cases h1 : i = k
 ·by_cases h2 : j = k
  ·omega
  ·simp [h1, h2]
 ·by_cases h2 : j = k <;> simp [h1, h2]
theorem put_comm (a : Act) {i j : Nat} (h : i ≠ j) (x y : Value) : (a.put (some i) x).put (some j) y = (a.put (some j) y).put (some i) x := by
 unfold Act.put;simp only;rw [set_comm _ h]
theorem put_same (a : Act) (i : Nat) (x y : Value) : (a.put (some i) x).put (some i) y = a.put (some i) y := by
 unfold Act.put;simp only;rw [Array.setIfInBounds_setIfInBounds]
section
variable {a : Act} {tp tq d : Nat} {x y v : Value} {l : Array Bool} {p q i b : Nat} {o1 o2 : Option Nat}
theorem pA_p (h : tp ≠ tq) : (pA a tp tq x y).put (some tp) v = pA a tp tq v y := by
 unfold pA;rw [put_comm _ (fun e => h e.symm), put_same]
theorem pA_q : (pA a tp tq x y).put (some tq) v = pA a tp tq x v := put_same _ _ _ _
theorem pA_o (h1 : d ≠ tp) (h2 : d ≠ tq) : (pA a tp tq x y).put (some d) v = pA (a.put (some d) v) tp tq x y := by
 unfold pA;rw [put_comm _ (fun e => h2 e.symm), put_comm _ (fun e => h1 e.symm)]
theorem mk_o (h1 : i ≠ p) (h2 : i ≠ q) : (mk2 l p q o1 o2).setIfInBounds i true = mk2 (l.setIfInBounds i true) p q o1 o2 := by
 unfold mk2;cases o1 <;> cases o2 <;> simp only [mk1]
 ·rw [set_comm _ (fun e => h2 e.symm)]
 ·rw [set_comm _ (fun e => h1 e.symm)]
 ·rw [set_comm _ (fun e => h2 e.symm), set_comm _ (fun e => h1 e.symm)]
def chk4 (g : Array Bool → Bool) (l : Array Bool) (p q : Nat) : Bool := g l && g (l.setIfInBounds p true) && g (l.setIfInBounds q true) && g ((l.setIfInBounds p true).setIfInBounds q true)
theorem chk4_mk {g : Array Bool → Bool} (h : chk4 g l p q = true) : g (mk2 l p q o1 o2) = true := by
 unfold chk4 at h;simp only [Bool.and_eq_true] at h;obtain ⟨⟨⟨h1, h2⟩, h3⟩, h4⟩ := h;cases o1 <;> cases o2 <;> assumption
end
structure Made (W : World) (B : Nat) (Z : List Value) (F : Nat → Prop) (o : Option Nat) : Prop where
 h : ∀ b, o = some b → Box W b Z ∧ B ≤ b ∧ ¬ F b
theorem Made.none {W : World} {B : Nat} {Z : List Value} {F : Nat → Prop} : Made W B Z F none := ⟨fun b e => by cases e⟩
theorem Made.below {W W' : World} {B : Nat} {Z : List Value} {F : Nat → Prop} {o : Option Nat} (h : Made W B Z F o) (hb : Below W.heap.size W W') : Made W' B Z F o := ⟨fun b e => by obtain ⟨h1, h2⟩ := h.h b e; exact ⟨h1.below hb, h2⟩⟩
section
variable (P : Program) (ops : Array Oper) (Q : Exit → Act → World → Prop) (S : World → Prop) (p q tp tq : Nat) (Zp Zq : List Value)
def GA (B f : Nat) (l : Array Bool) (a : Act) (F : Nat → Prop) (Inv : World → Prop) : Prop :=
 ∀ (o1 o2 : Option Nat) (W : World), Inv W → (∀ k, F k → k < W.heap.size) → B ≤ W.heap.size → Made W B Zp F o1 → Made W B Zq F o2 → (∀ b, o1 = some b → o2 ≠ some b) → wpAnyY P .any ops Q S [] (f + need o1 + need o2) (mk2 l p q o1 o2) (pA a tp tq (vb o1) (vb o2)) W
structure TwoAl (Tp Tq : TypeId) : Prop where
 pq : p ≠ q
 tpq : tp ≠ tq
 hp : ∀ (K : Act → World → Prop) (a : Act) (W : World), K (a.put (some tp) (ptr0 W.heap.size)) (W.alloc (.cells Zp.toArray Tp)) → wpOp P ops Q p K a W
 hq : ∀ (K : Act → World → Prop) (a : Act) (W : World), K (a.put (some tq) (ptr0 W.heap.size)) (W.alloc (.cells Zq.toArray Tq)) → wpOp P ops Q q K a W
end
section
variable {P : Program} {ops : Array Oper} {Q : Exit → Act → World → Prop} {S : World → Prop} {p q tp tq : Nat} {Zp Zq : List Value} {Tp Tq : TypeId} {B f : Nat} {l : Array Bool} {a : Act} {F : Nat → Prop} {Inv : World → Prop}
theorem GA.start (h : GA P ops Q S p q tp tq Zp Zq B f l a F Inv) {W : World} (hI : Inv W) (hF : ∀ k, F k → k < W.heap.size) (hB : B ≤ W.heap.size) (ha : pA a tp tq undef undef = a) : wpAnyY P .any ops Q S [] (f + 1 + 1) l a W := by
 have := h none none W hI hF hB Made.none Made.none (fun b e => by cases e);rw [show pA a tp tq (vb none) (vb none) = a from ha] at this;exact this
theorem TwoAl.of {op1 op2 : Oper} (e1 : ∀ (a : Act) (W : World), (execOp a.eval op1).run P W = .ok (.value (ptr0 W.heap.size)) (W.alloc (.cells Zp.toArray Tp))) (e2 : ∀ (a : Act) (W : World), (execOp a.eval op2).run P W = .ok (.value (ptr0 W.heap.size)) (W.alloc (.cells Zq.toArray Tq)))
 (i1 : ops[p]? = some op1 := by rfl) (i2 : ops[q]? = some op2 := by rfl) (d1 : op1.dst = some tp := by rfl) (d2 : op2.dst = some tq := by rfl) (g1 : op1.guard = none := by rfl) (g2 : op2.guard = none := by rfl) (pq : p ≠ q := by decide) (tpq : tp ≠ tq := by decide) :
 TwoAl P ops Q p q tp tq Zp Zq Tp Tq :=
 ⟨pq, tpq, fun K a W h => wpOp_step i1 (fun K' hK => by
  rw [if_pos (by simp [Region.wanted, g1])];unfold Oper.wp;rw [e1];rw [← d1] at h;exact hK _ _ h), fun K a W h => wpOp_step i2 (fun K' hK => by
  rw [if_pos (by simp [Region.wanted, g2])];unfold Oper.wp;rw [e2];rw [← d2] at h;exact hK _ _ h)⟩
theorem GA.begin (T : TwoAl P ops Q p q tp tq Zp Zq Tp Tq) {W : World} (hI : Inv W) (hF : ∀ k, F k → k < W.heap.size) (hB : B ≤ W.heap.size) (h : TwoAl P ops Q p q tp tq Zp Zq Tp Tq → GA P ops Q S p q tp tq Zp Zq B f l a F Inv) (ha : pA a tp tq undef undef = a := by rfl) : wpAnyY P .any ops Q S [] (f + 1 + 1) l a W := (h T).start hI hF hB ha
theorem below_alloc (W : World) (o : Obj) : Below W.heap.size W (W.alloc o) := (Below.refl _ _).alloc (Nat.le_refl _) _
theorem made_new {W : World} (B : Nat) (Z : List Value) (F : Nat → Prop) (T : TypeId) (hF : ∀ k, F k → k < W.heap.size) (hB : B ≤ W.heap.size) : Made (W.alloc (.cells Z.toArray T)) B Z F (some W.heap.size) :=
 ⟨fun b e => by
  cases e;exact ⟨Box.new W Z T, hB, fun h => Nat.lt_irrefl _ (hF _ h)⟩⟩
theorem GA.build (T : TwoAl P ops Q p q tp tq Zp Zq Tp Tq) (hS : ∀ W, Inv W → S W) (hinv : ∀ W W', Inv W → Below W.heap.size W W' → Inv W') (c : List Nat)
 (hr : (((Region.ready .any ops l).all (fun i => i == p || i == q || c.contains i) && !(Region.ready .any ops l).isEmpty) && ((Region.ready .any ops (l.setIfInBounds p true)).all (fun i => i == q || c.contains i) && !(Region.ready .any ops (l.setIfInBounds p true)).isEmpty) && ((Region.ready .any ops (l.setIfInBounds q true)).all (fun i => i == p || c.contains i) && !(Region.ready .any ops (l.setIfInBounds q true)).isEmpty)) = true)
 (h11 : ∀ b1 b2 W, Inv W → (∀ k, F k → k < W.heap.size) → B ≤ W.heap.size → Made W B Zp F (some b1) → Made W B Zq F (some b2) → b1 ≠ b2 → wpAnyY P .any ops Q S [] f ((l.setIfInBounds p true).setIfInBounds q true) (pA a tp tq (ptr0 b1) (ptr0 b2)) W)
 (hc : ∀ i ∈ c, ∀ (o1 o2 : Option Nat) (n : Nat) (W : World), (o1 = none ∨ o2 = none) → n + 1 = f + need o1 + need o2 → Inv W → (∀ k, F k → k < W.heap.size) → B ≤ W.heap.size → Made W B Zp F o1 → Made W B Zq F o2 → (∀ b, o1 = some b → o2 ≠ some b) → wpOp P ops Q i (fun a' w' => (anyOf [] ((mk2 l p q o1 o2).setIfInBounds i true) = true ∨ S w') ∧ wpAnyY P .any ops Q S [] n ((mk2 l p q o1 o2).setIfInBounds i true) a' w') (pA a tp tq (vb o1) (vb o2)) W) :
 GA P ops Q S p q tp tq Zp Zq B f l a F Inv := by
 simp only [Bool.and_eq_true, Bool.not_eq_true', List.all_eq_true, Bool.or_eq_true, beq_iff_eq, List.isEmpty_eq_false_iff] at hr;obtain ⟨⟨⟨r0, e0⟩, ⟨r1, e1⟩⟩, ⟨r2, e2⟩⟩ := hr;have h10 : ∀ b1 W, Inv W → (∀ k, F k → k < W.heap.size) → B ≤ W.heap.size → Made W B Zp F (some b1) → wpAnyY P .any ops Q S [] (f + 1) (l.setIfInBounds p true) (pA a tp tq (ptr0 b1) undef) W := fun b1 W hI hF hB m1 => by
  refine ⟨fun h => absurd h e1, fun i hi => ?_⟩;rcases r1 i hi with rfl | hci
  ·refine T.hq _ _ W ⟨.inr (hS _ (hinv _ _ hI (below_alloc _ _))), ?_⟩;rw [pA_q];exact h11 b1 W.heap.size _ (hinv _ _ hI (below_alloc _ _)) (fun k hk => Nat.lt_of_lt_of_le (hF k hk) (below_alloc W _).size) (Nat.le_trans hB (below_alloc W _).size) (m1.below (below_alloc _ _)) (made_new B Zq F Tq hF hB) (fun e => by have := ((m1.h b1 rfl).1).1; omega)
  ·exact hc i (by simpa using hci) (some b1) none f W (.inr rfl) (by simp [need]) hI hF hB m1 Made.none (fun b e => by simp)
 have h01 : ∀ b2 W, Inv W → (∀ k, F k → k < W.heap.size) → B ≤ W.heap.size → Made W B Zq F (some b2) → wpAnyY P .any ops Q S [] (f + 1) (l.setIfInBounds q true) (pA a tp tq undef (ptr0 b2)) W := fun b2 W hI hF hB m2 => by
  refine ⟨fun h => absurd h e2, fun i hi => ?_⟩;rcases r2 i hi with rfl | hci
  ·refine T.hp _ _ W ⟨.inr (hS _ (hinv _ _ hI (below_alloc _ _))), ?_⟩;rw [pA_p T.tpq, set_comm _ (fun e => T.pq e.symm)];exact h11 W.heap.size b2 _ (hinv _ _ hI (below_alloc _ _)) (fun k hk => Nat.lt_of_lt_of_le (hF k hk) (below_alloc W _).size) (Nat.le_trans hB (below_alloc W _).size) (made_new B Zp F Tp hF hB) (m2.below (below_alloc _ _)) (fun e => by have := ((m2.h b2 rfl).1).1; omega)
  ·exact hc i (by simpa using hci) none (some b2) f W (.inl rfl) (by simp [need]) hI hF hB Made.none m2 (fun b e => by cases e)
 have h00 : ∀ W, Inv W → (∀ k, F k → k < W.heap.size) → B ≤ W.heap.size → wpAnyY P .any ops Q S [] (f + 1 + 1) l (pA a tp tq undef undef) W := fun W hI hF hB => by
  refine ⟨fun h => absurd h e0, fun i hi => ?_⟩;rcases r0 i hi with (rfl | rfl) | hci
  ·refine T.hp _ _ W ⟨.inr (hS _ (hinv _ _ hI (below_alloc _ _))), ?_⟩;rw [pA_p T.tpq];exact h10 W.heap.size _ (hinv _ _ hI (below_alloc _ _)) (fun k hk => Nat.lt_of_lt_of_le (hF k hk) (below_alloc W _).size) (Nat.le_trans hB (below_alloc W _).size) (made_new B Zp F Tp hF hB)
  ·refine T.hq _ _ W ⟨.inr (hS _ (hinv _ _ hI (below_alloc _ _))), ?_⟩;rw [pA_q];exact h01 W.heap.size _ (hinv _ _ hI (below_alloc _ _)) (fun k hk => Nat.lt_of_lt_of_le (hF k hk) (below_alloc W _).size) (Nat.le_trans hB (below_alloc W _).size) (made_new B Zq F Tq hF hB)
  ·exact hc i (by simpa using hci) none none (f + 1) W (.inl rfl) (by simp [need]) hI hF hB Made.none Made.none (fun b e => by cases e)
 intro o1 o2 W hI hF hB m1 m2 hd;cases o1 with
 | none => cases o2 with
  | none => exact h00 W hI hF hB
  | some b2 => exact h01 b2 W hI hF hB m2
 | some b1 => cases o2 with
  | none => exact h10 b1 W hI hF hB m1
  | some b2 => exact h11 b1 b2 W hI hF hB m1 m2 (fun e => hd b1 rfl (by rw [e]))
theorem GA.last (T : TwoAl P ops Q p q tp tq Zp Zq Tp Tq) (hS : ∀ W, Inv W → S W) (hinv : ∀ W W', Inv W → Below W.heap.size W W' → Inv W')
 (h11 : ∀ b1 b2 W, Inv W → Box W b1 Zp → Box W b2 Zq → B ≤ b1 → B ≤ b2 → ¬ F b1 → ¬ F b2 → b1 ≠ b2 → wpAnyY P .any ops Q S [] f ((l.setIfInBounds p true).setIfInBounds q true) (pA a tp tq (ptr0 b1) (ptr0 b2)) W)
 (hr : (((Region.ready .any ops l).all (fun i => i == p || i == q || ([] : List Nat).contains i) && !(Region.ready .any ops l).isEmpty) && ((Region.ready .any ops (l.setIfInBounds p true)).all (fun i => i == q || ([] : List Nat).contains i) && !(Region.ready .any ops (l.setIfInBounds p true)).isEmpty) && ((Region.ready .any ops (l.setIfInBounds q true)).all (fun i => i == p || ([] : List Nat).contains i) && !(Region.ready .any ops (l.setIfInBounds q true)).isEmpty)) = true := by kernel_rfl) :
 GA P ops Q S p q tp tq Zp Zq B f l a F Inv :=
 GA.build T hS hinv [] hr (fun b1 b2 W hI hF hB m1 m2 hd => by
  obtain ⟨x1, x2, x3⟩ := m1.h b1 rfl;obtain ⟨y1, y2, y3⟩ := m2.h b2 rfl;exact h11 b1 b2 W hI x1 y1 x2 y2 x3 y3 hd) (fun i hi => by simp at hi)
theorem wanted_none {o : Oper} (h : o.guard = none) (y : Nat → Option Bool) : Region.wanted o y = true := by simp [Region.wanted, h]
theorem GA.call (T : TwoAl P ops Q p q tp tq Zp Zq Tp Tq) (hS : ∀ W, Inv W → S W) (hinv : ∀ W W', Inv W → Below W.heap.size W W' → Inv W') (c : Nat) {oc : Oper} {d : Nat} (Post : Value → World → Prop) (Own : Value → Nat → Prop)
 (hpost : ∀ u W W', Post u W → Below W.heap.size W W' → Post u W')
 (hcall : ∀ x y W, Inv W → ∀ K : Act → World → Prop, Shut (∀ u W', Below W.heap.size W W' → Post u W' → (∀ k, Own u k → W.heap.size ≤ k ∧ k < W'.heap.size) → K ((pA a tp tq x y).put (some d) u) W') → Oper.wp P oc (pA a tp tq x y) W K Q)
 (hnext : ∀ u, (∃ W, Post u W) → GA P ops Q S p q tp tq Zp Zq B f (l.setIfInBounds c true) (a.put (some d) u) (fun k => F k ∨ Own u k) (fun W => Inv W ∧ Post u W))
 (hc : ops[c]? = some oc := by rfl) (hd : oc.dst = some d := by rfl) (hg : oc.guard = none := by rfl) (n1 : d ≠ tp := by decide) (n2 : d ≠ tq := by decide) (n3 : c ≠ p := by decide) (n4 : c ≠ q := by decide)
 (hr : ((((Region.ready .any ops l).all (fun i => i == p || i == q || [c].contains i) && !(Region.ready .any ops l).isEmpty) && ((Region.ready .any ops (l.setIfInBounds p true)).all (fun i => i == q || [c].contains i) && !(Region.ready .any ops (l.setIfInBounds p true)).isEmpty) && ((Region.ready .any ops (l.setIfInBounds q true)).all (fun i => i == p || [c].contains i) && !(Region.ready .any ops (l.setIfInBounds q true)).isEmpty)) && ((Region.ready .any ops ((l.setIfInBounds p true).setIfInBounds q true)).all (fun i => i == c) && !(Region.ready .any ops ((l.setIfInBounds p true).setIfInBounds q true)).isEmpty)) = true := by kernel_rfl) :
 GA P ops Q S p q tp tq Zp Zq B (f + 1) l a F Inv := by
 rw [Bool.and_eq_true] at hr;obtain ⟨hr, hr2⟩ := hr;have step : ∀ (o1 o2 : Option Nat) (n : Nat) (W : World), n + 1 = f + 1 + need o1 + need o2 → Inv W → (∀ k, F k → k < W.heap.size) → B ≤ W.heap.size → Made W B Zp F o1 → Made W B Zq F o2 → (∀ b, o1 = some b → o2 ≠ some b) → wpOp P ops Q c (fun a' w' => (anyOf [] ((mk2 l p q o1 o2).setIfInBounds c true) = true ∨ S w') ∧ wpAnyY P .any ops Q S [] n ((mk2 l p q o1 o2).setIfInBounds c true) a' w') (pA a tp tq (vb o1) (vb o2)) W := by
  intro o1 o2 n W hn hI hF hB m1 m2 hdd;obtain rfl : n = f + need o1 + need o2 := by omega
  refine wpOp_step hc (fun K' hK => ?_);rw [if_pos (wanted_none hg _)];refine hcall _ _ W hI K' (fun u W' hb hp ho => hK _ _ ⟨.inr (hS _ (hinv _ _ hI hb)), ?_⟩);rw [pA_o n1 n2, mk_o n3 n4];refine hnext u ⟨W', hp⟩ o1 o2 W' ⟨hinv _ _ hI hb, hp⟩ (fun k hk => hk.elim (fun h => Nat.lt_of_lt_of_le (hF k h) hb.size) (fun h => (ho k h).2)) (Nat.le_trans hB hb.size) ⟨fun b e => ?_⟩ ⟨fun b e => ?_⟩ hdd
  ·obtain ⟨h1, h2, h3⟩ := m1.h b e;exact ⟨h1.below hb, h2, fun h => h.elim h3 (fun h => by have := (ho b h).1; have := h1.1; omega)⟩
  ·obtain ⟨h1, h2, h3⟩ := m2.h b e;exact ⟨h1.below hb, h2, fun h => h.elim h3 (fun h => by have := (ho b h).1; have := h1.1; omega)⟩
 refine GA.build T hS hinv [c] hr (fun b1 b2 W hI hF hB m1 m2 hd12 => ?_) (fun i hi o1 o2 n W _ hn hI hF hB m1 m2 hdd => by
  obtain rfl := List.mem_singleton.1 hi;exact step o1 o2 n W hn hI hF hB m1 m2 hdd)
 simp only [Bool.and_eq_true, Bool.not_eq_true', List.all_eq_true, beq_iff_eq, List.isEmpty_eq_false_iff] at hr2;refine ⟨fun h => absurd h hr2.2, fun i hi => ?_⟩;obtain rfl := hr2.1 i hi;exact step (some b1) (some b2) f W (by simp [need]) hI hF hB m1 m2 (fun b e e2 => by cases e; cases e2; exact hd12 rfl)
theorem GA.pure (hS : ∀ W, Inv W → S W) (i : Nat) {oi : Oper} {d : Nat} {v : Value} (hy : ∀ x y W, (execOp (pA a tp tq x y).eval oi).run P W = .ok (.value v) W)
 (h : GA P ops Q S p q tp tq Zp Zq B f (l.setIfInBounds i true) (a.put (some d) v) F Inv) (hi : ops[i]? = some oi := by rfl) (hd : oi.dst = some d := by rfl) (hg : oi.guard = none := by rfl) (n1 : d ≠ tp := by decide) (n2 : d ≠ tq := by decide) (n3 : i ≠ p := by decide) (n4 : i ≠ q := by decide)
 (hs : Region.noSelect ops = true := by kernel_rfl) (hr : chk4 (fun l => Region.free .any ops l i && (Region.ready .any ops l).contains i) l p q = true := by kernel_rfl) (hQ : ∀ c a w, Q (.panic c) (a.put (some d) v) w → Q (.panic c) a w := by exact fun _ _ _ h => h) :
 GA P ops Q S p q tp tq Zp Zq B (f + 1) l a F Inv := by
 intro o1 o2 W hI hF hB m1 m2 hdd;have hk := chk4_mk (o1 := o1) (o2 := o2) hr;rw [Bool.and_eq_true] at hk;have key := h o1 o2 W hI hF hB m1 m2 hdd;rw [← pA_o n1 n2, ← mk_o n3 n4] at key;rw [show f + 1 + need o1 + need o2 = (f + need o1 + need o2) + 1 by omega];rw [← hd] at key;exact wpAnyY_pure hi hs hk.1 hk.2 rfl (by rw [hd]; exact hQ) (Or.inl ⟨wanted_none hg _, fun w _ => hy _ _ w⟩) (Or.inr (hS _ hI)) key
theorem GA.load (hS : ∀ W, Inv W → S W) (i : Nat) {oi : Oper} {d : Nat} {v : Value} (hy : ∀ x y W, S W → (execOp (pA a tp tq x y).eval oi).run P W = .ok (.value v) W)
 (h : GA P ops Q S p q tp tq Zp Zq B f (l.setIfInBounds i true) (a.put (some d) v) F Inv) (hi : ops[i]? = some oi := by rfl) (hd : oi.dst = some d := by rfl) (hg : oi.guard = none := by rfl) (n1 : d ≠ tp := by decide) (n2 : d ≠ tq := by decide) (n3 : i ≠ p := by decide) (n4 : i ≠ q := by decide)
 (hs : Region.noSelect ops = true := by kernel_rfl) (hr : chk4 (fun l => Region.free .any ops l i && (Region.ready .any ops l).contains i && (closedB .any ops l && !(anyOf [] l))) l p q = true := by kernel_rfl) (hQ : ∀ c a w, Q (.panic c) (a.put (some d) v) w → Q (.panic c) a w := by exact fun _ _ _ h => h) :
 GA P ops Q S p q tp tq Zp Zq B (f + 1) l a F Inv := by
 intro o1 o2 W hI hF hB m1 m2 hdd;have hk := chk4_mk (o1 := o1) (o2 := o2) hr;rw [Bool.and_eq_true, Bool.and_eq_true] at hk;have key := h o1 o2 W hI hF hB m1 m2 hdd;rw [← pA_o n1 n2, ← mk_o n3 n4] at key;rw [show f + 1 + need o1 + need o2 = (f + need o1 + need o2) + 1 by omega];rw [← hd] at key;exact wpAnyY_load 12 hi hs hk.1.1 hk.1.2 hk.2 (by rw [hd]; exact hQ) (Or.inl ⟨wanted_none hg _, fun w hw => hy _ _ w hw⟩) (hS _ hI) (fun _ => key)
end
end
section
open Go.ChangeShapes Go.WideShapes Go.ChangeAt Go.RowKit
attribute [local go_sem ↓] Go.wp_at_zero Go.wp_at_succ
def MOb (xs : Sto) (base : Nat) (u : Value) (W : World) : Prop := ∃ v, u = .agg #[v, .slice none 0 0, .slice none 0 0] ∧ W.ownsRow base 99 2 v xs.length (xs.flatMap encC)
theorem MOb.below {xs : Sto} {base : Nat} {u : Value} {W W' : World} (h : MOb xs base u W) (hb : Below W.heap.size W W') : MOb xs base u W' := by
 obtain ⟨v, e, h⟩ := h;exact ⟨v, e, ownsRow_below h hb⟩
theorem MOb.row {xs : Sto} {base : Nat} {v : Value} {W : World} (h : MOb xs base (.agg #[v, .slice none 0 0, .slice none 0 0]) W) : W.ownsRow base 99 2 v xs.length (xs.flatMap encC) := by
 obtain ⟨v', e, h⟩ := h;cases e;exact h
def MDo (m : Mch) (an : Ans) (base : Nat) (u : Value) (W : World) : Prop := ∃ u1 u2 u3, u = .tuple #[.agg #[u1, u2, u3], .agg #[.int .i64 an.code, .int .i64 an.n, .string an.text]] ∧ COuts m base u1 u2 u3 W
theorem MDo.below {m : Mch} {an : Ans} {base : Nat} {u : Value} {W W' : World} (h : MDo m an base u W) (hb : Below W.heap.size W W') : MDo m an base u W' := by
 obtain ⟨u1, u2, u3, e, h⟩ := h;exact ⟨u1, u2, u3, e, h.below hb⟩
theorem MDo.outs {m : Mch} {an : Ans} {base : Nat} {u1 u2 u3 x : Value} {W : World} (h : MDo m an base (.tuple #[.agg #[u1, u2, u3], x]) W) : COuts m base u1 u2 u3 W := by
 obtain ⟨v1, v2, v3, e, h⟩ := h;cases e;exact h
def MOwn (u : Value) (k : Nat) : Prop := ∃ u1 u2 u3 x, u = .tuple #[.agg #[u1, u2, u3], x] ∧ (u1.ownBlock = some k ∨ u2.ownBlock = some k ∨ u3.ownBlock = some k)
theorem not_mown {u1 u2 u3 x : Value} {b : Nat} (h : ¬ MOwn (.tuple #[.agg #[u1, u2, u3], x]) b) : Off3 u1 u2 u3 b :=
 ⟨fun e => h ⟨_, _, _, _, rfl, .inl e⟩, fun e => h ⟨_, _, _, _, rfl, .inr (.inl e)⟩, fun e => h ⟨_, _, _, _, rfl, .inr (.inr e)⟩⟩
theorem off_both {u1 u2 u3 x v0 : Value} {b : Nat} (h : ¬ ((False ∨ ∃ v, (Value.agg #[v0, .slice none 0 0, .slice none 0 0]) = .agg #[v, .slice none 0 0, .slice none 0 0] ∧ v.ownBlock = some b) ∨ (MOwn (.tuple #[.agg #[u1, u2, u3], x]) b ∧ v0.ownBlock ≠ some b))) : Off3 u1 u2 u3 b := by
 have h0 : v0.ownBlock ≠ some b := fun e => h (.inl (.inr ⟨v0, rfl, e⟩));exact not_mown fun hm => h (.inr ⟨hm, h0⟩)
theorem mdo_of {xs : Sto} {m' : Mch} {an : Ans} {v : Value} {base : Nat} {W w' : World} {e : Ending} (hf : SRet v (.slice none 0 0) (.slice none 0 0) ⟨xs, [], []⟩ m' (.agg #[.int .i64 an.code, .int .i64 an.n, .string an.text]) W e w') (hR : W.ownsRow base 99 2 v xs.length (xs.flatMap encC)) (hB : base ≤ W.heap.size) :
 ∃ u, e = .returned u ∧ Below W.heap.size W w' ∧ MDo m' an base u w' ∧ ∀ k, (MOwn u k ∧ v.ownBlock ≠ some k) → W.heap.size ≤ k ∧ k < w'.heap.size := by
 obtain ⟨u1, u2, u3, rfl, hm, hb⟩ := hf;have on : ∀ T K, w'.ownsRow base T K (.slice none 0 0) 0 [] := fun T K => ⟨by simp, .inl ⟨rfl, rfl⟩⟩;refine ⟨_, rfl, hb, ⟨u1, u2, u3, rfl, ?_, ?_, ?_⟩, ?_⟩
 ·rcases hm.o1 with ⟨rfl, h⟩ | h
  ·rw [h]; exact ownsRow_below hR hb
  ·exact ownsRow_base h hB
 ·rcases hm.o2 with ⟨rfl, h⟩ | h
  ·rw [h]; exact on _ _
  ·exact ownsRow_base h hB
 ·rcases hm.o3 with ⟨rfl, h⟩ | h
  ·rw [h]; exact on _ _
  ·exact ownsRow_base h hB
 ·rintro k ⟨⟨x1, x2, x3, y, e, hk⟩, hv⟩;cases e;rcases hk with e | e | e
  ·rcases hm.o1 with ⟨rfl, _⟩ | h
   ·exact absurd e hv
   ·exact h.lt k e
  ·rcases hm.o2 with ⟨rfl, _⟩ | h
   ·simp [Value.ownBlock] at e
   ·exact h.lt k e
  ·rcases hm.o3 with ⟨rfl, _⟩ | h
   ·simp [Value.ownBlock] at e
   ·exact h.lt k e
theorem cs_of {w W0 W : World} {m' : Mch} {u1 u2 u3 : Value} {b1 b2 : Nat} {ys : List Value} (h : TwoB m' W0.heap.size u1 u2 u3 b1 b2 [u1, u2, u3] ys W0 W) (hs : W0.heap.size = w.heap.size + 3) (hb : Below w.heap.size w W0) : CS w b1 b2 u1 u2 u3 m' ys W := by
 have o := h.outs.base (base' := w.heap.size) (by omega);exact ⟨h.x1, h.x2, o.o1, o.o2, o.o3, fun b h1 h2 => ⟨fun e => by have := (h.outs.o1.lt b e).1; omega, fun e => by have := (h.outs.o2.lt b e).1; omega, fun e => by have := (h.outs.o3.lt b e).1; omega⟩, hb.trans (h.bel.mono (by omega))⟩
theorem CS.retS {w W : World} {bm ba : Nat} {u1 u2 u3 : Value} {m' : Mch} {ys : List Value} (an : Ans) (h : CS w bm ba u1 u2 u3 m' ys W) : CRetS m' an w (.returned (cTup an u1 u2 u3)) W := ⟨u1, u2, u3, rfl, h.bel, h.o1, h.o2, h.o3⟩
set_option maxRecDepth 100000 in
theorem callOnS_c (a : Option Addr) (cap : Nat) (xs : Sto) (proc : Int) (c : Cal) (m' : Mch) (an : Ans) (w : World) (hr : Reads w a 2 encC xs) (hcap : a = none → cap = 0) (ho : MOk 100000000000 ⟨xs, [], []⟩) (hp : I64 proc) (hc : COk c) (E : (callP proc c).run ⟨xs, [], []⟩ = (m', an)) :
 Calls prog 26 #[.slice a xs.length cap, .int .i64 proc, .agg #[.int .i64 c.kind, .string c.name, .string c.dest, .int .i64 c.a, .int .i64 c.b, .string c.text]] w (CRetS m' an w) := by
 have KD := hid9 (fun (W : World) (av : Option Addr) (cv : Nat) (B : Nat) (hR : W.ownsRow B 99 2 (.slice av xs.length cv) xs.length (xs.flatMap encC)) => tDo_c (.slice av xs.length cv) (.slice none 0 0) (.slice none 0 0) ⟨xs, [], []⟩ m' an proc c W ⟨by
  obtain ⟨a', c', hv, h1, h2, h3⟩ := reads_of_owns' encC_len hR;exact ⟨a', c', hv, h1, h2, h3⟩, ⟨none, 0, rfl, .inl rfl, Nat.le_refl _, Nat.zero_le _⟩, ⟨none, 0, rfl, .inl rfl, Nat.le_refl _, Nat.zero_le _⟩⟩ ho hp hc E)
 obtain ⟨W0, hW0⟩ : ∃ W0, W0 = ((w.alloc (.cells #[.int .i64 c.kind, .string c.name, .string c.dest, .int .i64 c.a, .int .i64 c.b, .string c.text] 36)).alloc (.cells #[.int .i64 0, .int .i64 0, .string ⟨#[]⟩] 28)).alloc (.cells #[.slice none 0 0, .slice none 0 0] 31) := ⟨_, rfl⟩;have HB0 := hid9 (show Below w.heap.size w W0 from by subst hW0; exact bel9);have HS0 := hid9 (show W0.heap.size = w.heap.size + 3 by subst hW0; simp);have C1 : Box W0 w.heap.size [.int .i64 c.kind, .string c.name, .string c.dest, .int .i64 c.a, .int .i64 c.b, .string c.text] := by subst hW0; exact ((Box.new w [.int .i64 c.kind, .string c.name, .string c.dest, .int .i64 c.a, .int .i64 c.b, .string c.text] _).alloc _).alloc _
 have C0 := hid9 (fun (W : World) (hb : Below W0.heap.size W0 W) (i : Nat) (v : Value) (hv : [.int .i64 c.kind, .string c.name, .string c.dest, .int .i64 c.a, .int .i64 c.b, .string c.text][i]? = some v) => (C1.below hb).cell i v hv);have R0 := hid9 (show Box W0 (w.heap.size + 1) [.int .i64 0, .int .i64 0, .string ⟨#[]⟩] from by
  subst hW0;have h := Box.new (w.alloc (.cells #[.int .i64 c.kind, .string c.name, .string c.dest, .int .i64 c.a, .int .i64 c.b, .string c.text] 36)) [.int .i64 0, .int .i64 0, .string ⟨#[]⟩] 28;rw [show (w.alloc (.cells #[.int .i64 c.kind, .string c.name, .string c.dest, .int .i64 c.a, .int .i64 c.b, .string c.text] 36)).heap.size = w.heap.size + 1 by simp] at h;exact h.alloc _)
 have T0 := hid9 (show Box W0 (w.heap.size + 1 + 1) [.slice none 0 0, .slice none 0 0] from by
  subst hW0;have h := Box.new ((w.alloc (.cells #[.int .i64 c.kind, .string c.name, .string c.dest, .int .i64 c.a, .int .i64 c.b, .string c.text] 36)).alloc (.cells #[.int .i64 0, .int .i64 0, .string ⟨#[]⟩] 28)) [.slice none 0 0, .slice none 0 0] 31;rw [show ((w.alloc (.cells #[.int .i64 c.kind, .string c.name, .string c.dest, .int .i64 c.a, .int .i64 c.b, .string c.text] 36)).alloc (.cells #[.int .i64 0, .int .i64 0, .string ⟨#[]⟩] 28)).heap.size = w.heap.size + 1 + 1 by simp] at h;exact h)
 have KM := hid9 (fun (W : World) (hb : Below W0.heap.size W0 W) => specMachOf_c a cap xs W (Nat.le_trans ho.l1 (by decide)) hcap ((hr.below HB0.out).below hb));clear hr ho hp hc E C1;go_enter func26, ntmps26;go_upto_region 1 with fail;rw [← hW0];clear hW0;refine wp_region_noPanic ?_;refine wp_region_Y (fun w' => Below W0.heap.size W0 w') [] (by kernel_rfl) (Below.refl _ _).drew (fun hS => ?_);refine GA.begin (p := 8) (q := 9) (tp := 9) (tq := 10) (Zp := [.slice none 0 0, .slice none 0 0, .slice none 0 0]) (Zq := [.int .i64 0, .int .i64 0, .string ⟨#[]⟩]) (Tp := 87) (Tq := 28) (B := W0.heap.size) (f := 10) (F := fun _ => False) (Inv := fun W => Below W0.heap.size W0 W) ?_ hS (fun k h => h.elim) hS.size (fun T => ?_)
 ·refine TwoAl.of ?_ ?_
  ·intro a W; go_simp
  ·intro a W; go_simp
 refine GA.pure (fun _ h => h) 0 (v := ?_) ?_ ?_
 rotate_left
 ·(intro x y w; simp only [pA, Act.put, sq1, sq2, sq3, sq4, sq5, sq6]; go_simp); all_goals with_reducible rfl
 try simp only [Act.put, sq1, sq2, sq3, sq4, sq5, sq6]
 refine GA.pure (fun _ h => h) 2 (v := ?_) ?_ ?_
 rotate_left
 ·(intro x y w; simp only [pA, Act.put, sq1, sq2, sq3, sq4, sq5, sq6]; go_simp); all_goals with_reducible rfl
 try simp only [Act.put, sq1, sq2, sq3, sq4, sq5, sq6]
 refine GA.load (fun _ h => h) 3 (v := ?_) ?_ ?_
 rotate_left
 ·(intro x y w hw; (try dsimp only at hw); simp only [pA, Act.put, sq1, sq2, sq3, sq4, sq5, sq6]; have k0 := C0.out w hw 0 _ rfl; have k1 := C0.out w hw 1 _ rfl; have k2 := C0.out w hw 2 _ rfl; have k3 := C0.out w hw 3 _ rfl; have k4 := C0.out w hw 4 _ rfl; have k5 := C0.out w hw 5 _ rfl; go_simp); all_goals with_reducible rfl
 try simp only [Act.put, sq1, sq2, sq3, sq4, sq5, sq6]
 refine GA.call T (fun _ h => h) (fun _ _ h hb => h.trans (hb.mono h.size)) 1 (MOb xs W0.heap.size) (fun u k => ∃ v, u = .agg #[v, .slice none 0 0, .slice none 0 0] ∧ v.ownBlock = some k) (fun _ _ _ h hb => h.below hb) ?_ ?_
 ·intro x y W hI K hK
  (try dsimp only at hI)
  simp only [pA, Act.put, sq1, sq2, sq3, sq4, sq5, sq6];go_simp;go_at_call 74;refine (KM.out W hI).mono ?_;rintro e wb ⟨v, rfl, ho, hb⟩;go_wp2_with fail;exact hK.out _ wb hb ⟨v, rfl, ownsRow_base ho (by have := hI.size; omega)⟩ (fun k hk => by obtain ⟨v', e, hk⟩ := hk; cases e; have := ho.lt k hk; omega)
 ·rintro u ⟨Wq, v, rfl, hv⟩;obtain ⟨av, cv, hva, _⟩ := reads_of_owns' encC_len hv;subst hva;clear hv
  try simp only [Act.put, sq1, sq2, sq3, sq4, sq5, sq6]
  refine GA.call T (fun _ h => h.1) (fun _ _ h hb => ⟨h.1.trans (hb.mono h.1.size), h.2.below hb⟩) 4 (MDo m' an W0.heap.size) (fun u k => MOwn u k ∧ (Value.slice av xs.length cv).ownBlock ≠ some k) (fun _ _ _ h hb => h.below hb) ?_ ?_
  ·rintro x y W ⟨hI, hO⟩ K hK;have hR := hO.row;clear hO;simp only [pA, Act.put, sq1, sq2, sq3, sq4, sq5, sq6];go_simp;go_at_call 73;refine (KD.out W av cv _ hR).mono ?_;rintro e wb hf;obtain ⟨u, rfl, h1, h2, h3⟩ := mdo_of hf hR hI.size;go_wp2_with fail;exact hK.out u wb h1 h2 h3
  ·rintro u ⟨W1, u1, u2, u3, rfl, hu1⟩;obtain ⟨a1, k1, a2, k2, a3, k3, rfl, rfl, rfl⟩ := hu1.vals;clear hu1
   try simp only [Act.put, sq1, sq2, sq3, sq4, sq5, sq6]
   refine GA.pure (fun _ h => h.1.1) 5 (v := ?_) ?_ ?_
   rotate_left
   ·(intro x y w; simp only [pA, Act.put, sq1, sq2, sq3, sq4, sq5, sq6]; go_simp); all_goals with_reducible rfl
   try simp only [Act.put, sq1, sq2, sq3, sq4, sq5, sq6]
   refine GA.pure (fun _ h => h.1.1) 6 (v := ?_) ?_ ?_
   rotate_left
   ·(intro x y w; simp only [pA, Act.put, sq1, sq2, sq3, sq4, sq5, sq6]; go_simp); all_goals with_reducible rfl
   try simp only [Act.put, sq1, sq2, sq3, sq4, sq5, sq6]
   refine GA.pure (fun _ h => h.1.1) 7 (v := ?_) ?_ ?_
   rotate_left
   ·(intro x y w; simp only [pA, Act.put, sq1, sq2, sq3, sq4, sq5, sq6]; go_simp); all_goals with_reducible rfl
   try simp only [Act.put, sq1, sq2, sq3, sq4, sq5, sq6]
   refine GA.last T (fun _ h => h.1.1) (fun _ _ h hb => ⟨⟨h.1.1.trans (hb.mono h.1.1.size), h.1.2.below hb⟩, h.2.below hb⟩) ?_;rintro b1 b2 W ⟨⟨hB, hs⟩, hu⟩ x1 x2 g1 g2 n1 n2 ne;have hO := hu.outs;have q1 := off_both n1;have q2 := off_both n2;clear hs hu n1 n2;have H1 := hid9 ((((show TwoB m' W0.heap.size _ _ _ b1 b2 _ _ W0 W from ⟨x1, x2, hO, hB, g1, g2, ne, q1, q2⟩).set1 0 (.slice a1 m'.st.length k1)).set1 1 (.slice a2 m'.rs.length k2)).set1 2 (.slice a3 m'.ws.length k3));have c0 := x1.cell 0 _ rfl;have f0 := x1.free 0;have c1 := x1.cell 1 _ rfl;have f1 := x1.free 1;have c2 := x1.cell 2 _ rfl;have f2 := x1.free 2;have hS := hB;clear x1 x2 q1 q2 hO;simp only [pA, ptr0, Act.put, sq1, sq2, sq3, sq4, sq5, sq6];refine wpO 10 fun K hK => ?_;go_simp;refine hK.out _ _ (Or.inr H1.out.bel) ?_;clear hK K
   try simp only [Act.put, sq1, sq2, sq3, sq4, sq5, sq6]
   generalize hWz : ((World.setCell _ _ _).setCell _ _).setCell _ _ = Wz at H1 ⊢;clear hWz hB hS c0 f0 c1 f1 c2 f2;have c0 := H1.out.x2.cell 0 _ rfl;have f0 := H1.out.x2.free 0;have c1 := H1.out.x2.cell 1 _ rfl;have f1 := H1.out.x2.free 1;have c2 := H1.out.x2.cell 2 _ rfl;have f2 := H1.out.x2.free 2;have H2 := hid9 (((H1.out.set2 0 (.int .i64 an.code)).set2 1 (.int .i64 an.n)).set2 2 (.string an.text));refine wpO 11 fun K hK => ?_;go_simp;refine hK.out _ _ (Or.inr H2.out.bel) ?_;clear hK K
   try simp only [Act.put, sq1, sq2, sq3, sq4, sq5, sq6]
   generalize hWz2 : ((World.setCell _ _ _).setCell _ _).setCell _ _ = Wy at H2 ⊢;clear hWz2 c0 f0 c1 f1 c2 f2 H1;refine wpAnyY_done (by kernel_rfl) ?_ _;refine NoPanic.normal ?_;have SX : CS w b1 b2 (.slice a1 m'.st.length k1) (.slice a2 m'.rs.length k2) (.slice a3 m'.ws.length k3) m' [.int .i64 an.code, .int .i64 an.n, .string an.text] Wy := cs_of H2.out HS0.out HB0.out;have R3 := R0.out.below H2.out.bel;have T3 := T0.out.below H2.out.bel;have g1 := H2.out.g1;have g2 := H2.out.g2;have hs0 := HS0.out;have cm0 : ∀ W, CS w b1 b2 (.slice a1 m'.st.length k1) (.slice a2 m'.rs.length k2) (.slice a3 m'.ws.length k3) m' [.int .i64 an.code, .int .i64 an.n, .string an.text] W → W.cell? ⟨b1, 0, none⟩ = some (.slice a1 m'.st.length k1) := fun W h => h.m.cell 0 _ rfl;have cm1 : ∀ W, CS w b1 b2 (.slice a1 m'.st.length k1) (.slice a2 m'.rs.length k2) (.slice a3 m'.ws.length k3) m' [.int .i64 an.code, .int .i64 an.n, .string an.text] W → W.cell? ⟨b1, 1, none⟩ = some (.slice a2 m'.rs.length k2) := fun W h => h.m.cell 1 _ rfl;have cm2 : ∀ W, CS w b1 b2 (.slice a1 m'.st.length k1) (.slice a2 m'.rs.length k2) (.slice a3 m'.ws.length k3) m' [.int .i64 an.code, .int .i64 an.n, .string an.text] W → W.cell? ⟨b1, 2, none⟩ = some (.slice a3 m'.ws.length k3) := fun W h => h.m.cell 2 _ rfl;have ca0 : ∀ W, CS w b1 b2 (.slice a1 m'.st.length k1) (.slice a2 m'.rs.length k2) (.slice a3 m'.ws.length k3) m' [.int .i64 an.code, .int .i64 an.n, .string an.text] W → W.cell? ⟨b2, 0, none⟩ = some (.int .i64 an.code) := fun W h => h.a.cell 0 _ rfl;have ca1 : ∀ W, CS w b1 b2 (.slice a1 m'.st.length k1) (.slice a2 m'.rs.length k2) (.slice a3 m'.ws.length k3) m' [.int .i64 an.code, .int .i64 an.n, .string an.text] W → W.cell? ⟨b2, 1, none⟩ = some (.int .i64 an.n) := fun W h => h.a.cell 1 _ rfl;have ca2 : ∀ W, CS w b1 b2 (.slice a1 m'.st.length k1) (.slice a2 m'.rs.length k2) (.slice a3 m'.ws.length k3) m' [.int .i64 an.code, .int .i64 an.n, .string an.text] W → W.cell? ⟨b2, 2, none⟩ = some (.string an.text) := fun W h => h.a.cell 2 _ rfl;have rc0 := R3.cell 0 _ rfl;have rf0 := R3.free 0;have rc1 := R3.cell 1 _ rfl;have rf1 := R3.free 1;have rc2 := R3.cell 2 _ rfl;have rf2 := R3.free 2;have tc0 := T3.cell 0 _ rfl;have tf0 := T3.free 0;have tc1 := T3.cell 1 _ rfl;have tf1 := T3.free 1;have hn1 : ¬ w.heap.size + 1 + 1 = w.heap.size + 1 := by omega
   have hn2 : ¬ w.heap.size + 1 = w.heap.size + 1 + 1 := by omega
   clear R3 T3 H2 R0 T0 C0 KM KD hS;go_wp2_with fail;go_region_held3 (fun w' => CS w b1 b2 (.slice a1 m'.st.length k1) (.slice a2 m'.rs.length k2) (.slice a3 m'.ws.length k3) m' [.int .i64 an.code, .int .i64 an.n, .string an.text] w') (first | with_reducible assumption | ((repeat (first | with_reducible refine CS.drew ?_ | with_reducible refine CS.set ?_ (by omega) (by omega) (by omega) (by omega) _ _)); with_reducible assumption)) (fail)
   all_goals
    go_wp2;exact bodyPost_ret (v := cTup an (.slice a1 m'.st.length k1) (.slice a2 m'.rs.length k2) (.slice a3 m'.ws.length k3)) (by simp [results, results26, go_sem, *]) rfl (CS.retS an (bm := b1) (ba := b2) (ys := [.int .i64 an.code, .int .i64 an.n, .string an.text]) (by with_reducible assumption))
end
section
open Go.RowKit
def useN (k : Int) : Bool := k == 1 || k == 2 || k == 3 || k == 4 || k == 6 || k == 7 || k == 8
def useT (k : Int) : Bool := k == 2 || k == 4
def useA (k : Int) : Bool := k == 6 || k == 16 || k == 8 || k == 11 || k == 13 || k == 14 || k == 18 || k == 19 || k == 21 || k == 7 || k == 10 || k == 20
def useB (k : Int) : Bool := k == 6 || k == 16
def useX (k : Int) : Bool := k == 7 || k == 10 || k == 20 || k == 22
def strIf (b : Bool) (s : ByteArray) : ByteArray := if b then s else ⟨#[]⟩
def intIf (b : Bool) (n : Int) : Int := if b then n else 0
def toldOf (x : Cal) : Cal := ⟨x.kind, strIf (useN x.kind) x.name, strIf (useT x.kind) x.dest, intIf (useA x.kind) x.a, intIf (useB x.kind) x.b, strIf (useX x.kind) x.text⟩
theorem kinds_or (k : Int) : (k = 1 ∨ k = 2 ∨ k = 3 ∨ k = 4 ∨ k = 5 ∨ k = 6 ∨ k = 7 ∨ k = 8 ∨ k = 9 ∨ k = 10 ∨ k = 11 ∨ k = 12 ∨ k = 13 ∨ k = 14 ∨ k = 15 ∨ k = 16 ∨ k = 17 ∨ k = 18 ∨ k = 19 ∨ k = 20 ∨ k = 21 ∨ k = 22) ∨ (k < 1 ∨ 22 < k) := by omega
theorem told_other {x : Cal} (h : x.kind < 1 ∨ 22 < x.kind) : toldOf x = ⟨x.kind, ⟨#[]⟩, ⟨#[]⟩, 0, 0, ⟨#[]⟩⟩ := by
 have e : ∀ i : Int, 1 ≤ i → i ≤ 22 → (x.kind == i) = false := fun i h1 h2 => by simp; omega
 unfold toldOf;have eN : useN x.kind = false := by unfold useN; simp [e]
 have eT : useT x.kind = false := by unfold useT; simp [e]
 have eA : useA x.kind = false := by unfold useA; simp [e]
 have eB : useB x.kind = false := by unfold useB; simp [e]
 have eX : useX x.kind = false := by unfold useX; simp [e]
 rw [eN, eT, eA, eB, eX];rfl
theorem specTold_c (x : Cal) (w : World) : Calls prog 20 #[.agg #[.int .i64 x.kind, .string x.name, .string x.dest, .int .i64 x.a, .int .i64 x.b, .string x.text]] w fun e w' => e = .returned (.agg #[.int .i64 (toldOf x).kind, .string (toldOf x).name, .string (toldOf x).dest, .int .i64 (toldOf x).a, .int .i64 (toldOf x).b, .string (toldOf x).text]) ∧ Below w.heap.size w w' := by
 rcases kinds_or x.kind with h | h
 ·obtain ⟨k, n, d, a, b, t⟩ := x;dsimp only at h;rcases h with rfl | rfl | rfl | rfl | rfl | rfl | rfl | rfl | rfl | rfl | rfl | rfl | rfl | rfl | rfl | rfl | rfl | rfl | rfl | rfl | rfl | rfl
  ·go_enter func20, ntmps20;go_wp2;exact bodyPost_ret (v := .agg #[.int .i64 1, .string n, .string ⟨#[]⟩, .int .i64 0, .int .i64 0, .string ⟨#[]⟩]) (by simp [results, results20, go_sem]) rfl ⟨rfl, bel9⟩
  ·go_enter func20, ntmps20;go_wp2;exact bodyPost_ret (v := .agg #[.int .i64 2, .string n, .string d, .int .i64 0, .int .i64 0, .string ⟨#[]⟩]) (by simp [results, results20, go_sem]) rfl ⟨rfl, bel9⟩
  ·go_enter func20, ntmps20;go_wp2;exact bodyPost_ret (v := .agg #[.int .i64 3, .string n, .string ⟨#[]⟩, .int .i64 0, .int .i64 0, .string ⟨#[]⟩]) (by simp [results, results20, go_sem]) rfl ⟨rfl, bel9⟩
  ·go_enter func20, ntmps20;go_wp2;exact bodyPost_ret (v := .agg #[.int .i64 4, .string n, .string d, .int .i64 0, .int .i64 0, .string ⟨#[]⟩]) (by simp [results, results20, go_sem]) rfl ⟨rfl, bel9⟩
  ·go_enter func20, ntmps20;go_wp2;exact bodyPost_ret (v := .agg #[.int .i64 5, .string ⟨#[]⟩, .string ⟨#[]⟩, .int .i64 0, .int .i64 0, .string ⟨#[]⟩]) (by simp [results, results20, go_sem]) rfl ⟨rfl, bel9⟩
  ·go_enter func20, ntmps20;go_wp2;exact bodyPost_ret (v := .agg #[.int .i64 6, .string n, .string ⟨#[]⟩, .int .i64 a, .int .i64 b, .string ⟨#[]⟩]) (by simp [results, results20, go_sem]) rfl ⟨rfl, bel9⟩
  ·go_enter func20, ntmps20;go_wp2;exact bodyPost_ret (v := .agg #[.int .i64 7, .string n, .string ⟨#[]⟩, .int .i64 a, .int .i64 0, .string t]) (by simp [results, results20, go_sem]) rfl ⟨rfl, bel9⟩
  ·go_enter func20, ntmps20;go_wp2;exact bodyPost_ret (v := .agg #[.int .i64 8, .string n, .string ⟨#[]⟩, .int .i64 a, .int .i64 0, .string ⟨#[]⟩]) (by simp [results, results20, go_sem]) rfl ⟨rfl, bel9⟩
  ·go_enter func20, ntmps20;go_wp2;exact bodyPost_ret (v := .agg #[.int .i64 9, .string ⟨#[]⟩, .string ⟨#[]⟩, .int .i64 0, .int .i64 0, .string ⟨#[]⟩]) (by simp [results, results20, go_sem]) rfl ⟨rfl, bel9⟩
  ·go_enter func20, ntmps20;go_wp2;exact bodyPost_ret (v := .agg #[.int .i64 10, .string ⟨#[]⟩, .string ⟨#[]⟩, .int .i64 a, .int .i64 0, .string t]) (by simp [results, results20, go_sem]) rfl ⟨rfl, bel9⟩
  ·go_enter func20, ntmps20;go_wp2;exact bodyPost_ret (v := .agg #[.int .i64 11, .string ⟨#[]⟩, .string ⟨#[]⟩, .int .i64 a, .int .i64 0, .string ⟨#[]⟩]) (by simp [results, results20, go_sem]) rfl ⟨rfl, bel9⟩
  ·go_enter func20, ntmps20;go_wp2;exact bodyPost_ret (v := .agg #[.int .i64 12, .string ⟨#[]⟩, .string ⟨#[]⟩, .int .i64 0, .int .i64 0, .string ⟨#[]⟩]) (by simp [results, results20, go_sem]) rfl ⟨rfl, bel9⟩
  ·go_enter func20, ntmps20;go_wp2;exact bodyPost_ret (v := .agg #[.int .i64 13, .string ⟨#[]⟩, .string ⟨#[]⟩, .int .i64 a, .int .i64 0, .string ⟨#[]⟩]) (by simp [results, results20, go_sem]) rfl ⟨rfl, bel9⟩
  ·go_enter func20, ntmps20;go_wp2;exact bodyPost_ret (v := .agg #[.int .i64 14, .string ⟨#[]⟩, .string ⟨#[]⟩, .int .i64 a, .int .i64 0, .string ⟨#[]⟩]) (by simp [results, results20, go_sem]) rfl ⟨rfl, bel9⟩
  ·go_enter func20, ntmps20;go_wp2;exact bodyPost_ret (v := .agg #[.int .i64 15, .string ⟨#[]⟩, .string ⟨#[]⟩, .int .i64 0, .int .i64 0, .string ⟨#[]⟩]) (by simp [results, results20, go_sem]) rfl ⟨rfl, bel9⟩
  ·go_enter func20, ntmps20;go_wp2;exact bodyPost_ret (v := .agg #[.int .i64 16, .string ⟨#[]⟩, .string ⟨#[]⟩, .int .i64 a, .int .i64 b, .string ⟨#[]⟩]) (by simp [results, results20, go_sem]) rfl ⟨rfl, bel9⟩
  ·go_enter func20, ntmps20;go_wp2;exact bodyPost_ret (v := .agg #[.int .i64 17, .string ⟨#[]⟩, .string ⟨#[]⟩, .int .i64 0, .int .i64 0, .string ⟨#[]⟩]) (by simp [results, results20, go_sem]) rfl ⟨rfl, bel9⟩
  ·go_enter func20, ntmps20;go_wp2;exact bodyPost_ret (v := .agg #[.int .i64 18, .string ⟨#[]⟩, .string ⟨#[]⟩, .int .i64 a, .int .i64 0, .string ⟨#[]⟩]) (by simp [results, results20, go_sem]) rfl ⟨rfl, bel9⟩
  ·go_enter func20, ntmps20;go_wp2;exact bodyPost_ret (v := .agg #[.int .i64 19, .string ⟨#[]⟩, .string ⟨#[]⟩, .int .i64 a, .int .i64 0, .string ⟨#[]⟩]) (by simp [results, results20, go_sem]) rfl ⟨rfl, bel9⟩
  ·go_enter func20, ntmps20;go_wp2;exact bodyPost_ret (v := .agg #[.int .i64 20, .string ⟨#[]⟩, .string ⟨#[]⟩, .int .i64 a, .int .i64 0, .string t]) (by simp [results, results20, go_sem]) rfl ⟨rfl, bel9⟩
  ·go_enter func20, ntmps20;go_wp2;exact bodyPost_ret (v := .agg #[.int .i64 21, .string ⟨#[]⟩, .string ⟨#[]⟩, .int .i64 a, .int .i64 0, .string ⟨#[]⟩]) (by simp [results, results20, go_sem]) rfl ⟨rfl, bel9⟩
  ·go_enter func20, ntmps20;go_wp2;exact bodyPost_ret (v := .agg #[.int .i64 22, .string ⟨#[]⟩, .string ⟨#[]⟩, .int .i64 0, .int .i64 0, .string t]) (by simp [results, results20, go_sem]) rfl ⟨rfl, bel9⟩
 ·have E := hid9 (told_other h);obtain ⟨k, n, d, a, b, t⟩ := x;dsimp only at h;have e1 : (k == 1) = false := by simp; omega
  have e2 : (k == 2) = false := by simp; omega
  have e3 : (k == 3) = false := by simp; omega
  have e4 : (k == 4) = false := by simp; omega
  have e5 : (k == 5) = false := by simp; omega
  have e6 : (k == 6) = false := by simp; omega
  have e7 : (k == 7) = false := by simp; omega
  have e8 : (k == 8) = false := by simp; omega
  have e9 : (k == 9) = false := by simp; omega
  have e10 : (k == 10) = false := by simp; omega
  have e11 : (k == 11) = false := by simp; omega
  have e12 : (k == 12) = false := by simp; omega
  have e13 : (k == 13) = false := by simp; omega
  have e14 : (k == 14) = false := by simp; omega
  have e15 : (k == 15) = false := by simp; omega
  have e16 : (k == 16) = false := by simp; omega
  have e17 : (k == 17) = false := by simp; omega
  have e18 : (k == 18) = false := by simp; omega
  have e19 : (k == 19) = false := by simp; omega
  have e20 : (k == 20) = false := by simp; omega
  have e21 : (k == 21) = false := by simp; omega
  have e22 : (k == 22) = false := by simp; omega
  clear h;go_enter func20, ntmps20;go_wp2;exact bodyPost_ret (v := .agg #[.int .i64 k, .string ⟨#[]⟩, .string ⟨#[]⟩, .int .i64 0, .int .i64 0, .string ⟨#[]⟩]) (by simp [results, results20, go_sem]) rfl ⟨by rw [E.out], bel9⟩
end
end Go.Proofs.YtihghflppegnmaaGreatDoor
