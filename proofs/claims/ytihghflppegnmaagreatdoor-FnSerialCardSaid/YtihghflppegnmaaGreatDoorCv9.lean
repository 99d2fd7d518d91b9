/- Lemmas and contracts that the last text leans on, joined: KS14, SFL, SGL, KS6, KS11, KQ, KS13, KS2. Conditions: as each theorem says. -/
import Derived.Test.YtihghflppegnmaaGreatDoorCv0
import Derived.Test.YtihghflppegnmaaGreatDoorCv8
set_option linter.unusedSimpArgs false
set_option linter.unusedVariables false
set_option maxHeartbeats 40000000
namespace Go.Proofs.YtihghflppegnmaaGreatDoor
open Go.Proofs.Tryz
section
open Go.ChangeShapes Go.WideShapes Go.ChangeAt Go.RowKit
attribute [local go_sem ↓] Go.wp_at_zero Go.wp_at_succ
set_option maxRecDepth 100000 in
theorem tWrite_c (v1 v2 v3 : Value) (m m' : Mch) (x : Int) (id : Int) (at_ : Int) (text : ByteArray) (w : World) (h : MRd w v1 v2 v3 m) (O0 : Hid (MOk 1500000000000 m)) (hn : I64 id) (ht : text.size ≤ 100000) (HE : Hid ((writeP id at_ text).run m = (m', x))) :
 Calls prog 181 #[.agg #[v1, v2, v3], .int .i64 id, .int .i64 at_, .string text] w (SRet v1 v2 v3 m m' (.int .i64 x) w) := by
 obtain ⟨a1, q1, a2, q2, a3, q3, rfl, rfl, rfl, Q0⟩ := h.start;clear h;obtain ⟨i0, hi0, hzz⟩ := Option.map_eq_some_iff.1 infoByte;simp only [Prod.mk.injEq] at hzz;have HI := hid9 hi0;have HZ := hid9 hzz;clear hi0 hzz;go_enter func181, ntmps181;have hfu := fuelW_is;obtain ⟨m1, x1, HE1, O1⟩ := Pg.Cost.hop (numP (sizeK id)) (numP_cost _) O0;have bx1 := numP_bounds HE1.out;go_wp2_with (first | (go_at_call 70; refine (KW.out _).mono ?_; rintro e w' ⟨rfl, rfl⟩) | fail);refine nx2 SQ.fr Q0 (tSizeFile_c _ _ _ _ _ _ id _ Q0.out.rd (O0.out.mono (by omega)) hn HE1.out) fun _ _ _ _ _ _ w1 Q1 F1 => ?_;clear Q0;by_cases c1 : inB at_ 0 x1 = true
 ·have C1 := hid9 c1;clear c1;have KW := hid9 (fun W => l01In_c at_ 0 x1 W);rw [C1.out] at KW;by_cases c2 : 0 < text.size
  ·have C2 := hid9 c2;clear c2;have hzt : ∀ t, binOp .eql t (.string text) (.string ⟨#[]⟩) = pure (.bool false) := fun t => eql_some C2.out;obtain ⟨en, hen⟩ : ∃ en, at_ + (text.size : Int) = en := ⟨_, rfl⟩;have HEN := hid9 (hen);have hnb := inB_iff.1 C1.out;have hwe : IntKind.i64.wrap (at_ + (text.size : Int)) = en := by rw [IntKind.wrap_i64]; omega
   have hwd : IntKind.i64.wrap (at_.tdiv 8) = at_ / 8 := by rw [IntKind.wrap_i64, Int.tdiv_eq_ediv_of_nonneg (by omega)]; omega
   by_cases c3 : 64 < en
   ·obtain ⟨rfl, rfl⟩ := leaf HE m1 (3) (by rw [writeP_eq]; simp only [pgz, ↓reduceIte, bz, HE1.out, C1.out, C2.out, HEN.out, (show 64 < en from by first | exact c3 | omega | simpa using c3)]);go_wp2_with (first | (go_at_call 70; refine (KW.out _).mono ?_; rintro e w' ⟨rfl, rfl⟩) | fail);exact rt2 SQ.fr Q1 (by simp [results, results181, go_sem, *])
   ·by_cases c4 : x1 < en
    ·obtain ⟨m2, u2, HE2, O2⟩ := Pg.Cost.hop (writeL id at_ en text fuelW (at_ / 8)) (writeL_cost _ _ _ _ _ _) O1;go_wp2_with (first | (go_at_call 70; refine (KW.out _).mono ?_; rintro e w' ⟨rfl, rfl⟩) | fail);go_loopw [12] (fun vp wr => ∃ p : Int, ∃ f : Nat, vp = .int .i64 p ∧ Hid (∃ y1 d1 y2 d2 y3 d3 mk, SQ w (.slice a1 m.st.length q1) (.slice a2 m.rs.length q2) (.slice a3 m.ws.length q3) m (.slice y1 mk.st.length d1) (.slice y2 mk.rs.length d2) (.slice y3 mk.ws.length d3) mk wr ∧ MOk (1600000000000 + 2 * p.toNat) mk ∧ (at_ / 8 ≤ p ∧ p ≤ 1000 ∧ en ≤ (p + f) * 8) ∧ (writeL id at_ en text f p).run mk = (m2, u2))) (fun i _ => (1001 - intOf i).toNat)
     case atStart => exact ⟨(at_ / 8), fuelW, rfl, hid9 ⟨_, _, _, _, _, _, _, Q1.out, O1.out.mono (by omega), ⟨by omega, by omega, by omega⟩, HE2.out⟩⟩
     case round =>
      obtain ⟨p, f, rfl, HI⟩ := hrel;obtain ⟨y1, d1, y2, d2, y3, d3, mk, hl, ho, hinv, hr⟩ := HI.out;obtain ⟨hp0, hp1, hp2⟩ := hinv;have Qh := hid9 hl;have O42 := hid9 ho;have HR := hid9 hr;clear HI hl ho hr Q1 F1;by_cases hc : p * 8 < en
      ·obtain ⟨g, rfl⟩ : ∃ g, f = g + 1 := ⟨f - 1, by omega⟩;have hwp : IntKind.i64.wrap (p * 8) = p * 8 := by rw [IntKind.wrap_i64]; omega
       have hwp1 : IntKind.i64.wrap (p + 1) = p + 1 := by rw [IntKind.wrap_i64]; omega
       have hpi : I64 p := ⟨by omega, by omega⟩;have hr := HR.out;rw [writeL_yes hc] at hr;have HRs := hid9 hr;clear hr HR;have F := Qh.out.fx;obtain ⟨m43, bx, HE43, O43⟩ := Pg.Cost.hop (blockP id (p)) (blockP_cost _ _) O42;have sbx := block_sz O42.out HE43.out;go_wp2_with fail;refine nx2 SQ.fr Qh (tBlock_c _ _ _ _ _ _ id (p) _ Qh.out.rd (O42.out.mono (by omega)) hn (hpi) HE43.out) fun xr1_1 kr1_1 xr1_2 kr1_2 xr1_3 kr1_3 wr1 Qr1 Fr1 => ?_;clear F Qh;obtain ⟨m44, u44, HE44, O44⟩ := Pg.Cost.hop (layP (blockK id p) (hexV (newBlock bx text p at_ en))) ((layP_cost _ _)) O43;have h := HRs.out;simp only [pgz, ↓reduceIte, bz, HE43.out, HE44.out] at h;have HR2 := hid9 h;clear h HRs;obtain ⟨WL, hWL⟩ : ∃ W, W = (((wr1.setCell ⟨w.heap.size, 0, none⟩ (.slice xr1_1 m43.st.length kr1_1)).setCell ⟨w.heap.size, 1, none⟩ (.slice xr1_2 m43.rs.length kr1_2)).setCell ⟨w.heap.size, 2, none⟩ (.slice xr1_3 m43.ws.length kr1_3)) := ⟨_, rfl⟩;have QL := hid9 (show SQ w (.slice a1 m.st.length q1) (.slice a2 m.rs.length q2) (.slice a3 m.ws.length q3) m (.slice xr1_1 m43.st.length kr1_1) (.slice xr1_2 m43.rs.length kr1_2) (.slice xr1_3 m43.ws.length kr1_3) m43 WL from by rw [hWL]; exact Qr1.out);obtain ⟨nb, hnb⟩ : ∃ nb, WL.heap.size = nb := ⟨_, rfl⟩;obtain ⟨C, hC⟩ : ∃ C, C = grownCap WL bx.size 0 5 := ⟨_, rfl⟩;obtain ⟨W1, hW1⟩ : ∃ W1, W1 = WL.drew.alloc (.cells (bytesRow bx C) 5 ((bytesRow bx C).size, (bytesRow bx C).size + 1)) := ⟨_, rfl⟩;have hcv : (convert 9 22 (.string bx)).run prog (((wr1.setCell ⟨w.heap.size, 0, none⟩ (.slice xr1_1 m43.st.length kr1_1)).setCell ⟨w.heap.size, 1, none⟩ (.slice xr1_2 m43.rs.length kr1_2)).setCell ⟨w.heap.size, 2, none⟩ (.slice xr1_3 m43.ws.length kr1_3)) = .ok (.slice (some ⟨nb, 0, none⟩) bx.size C) W1 := by
        rw [← hWL, hW1, hC, ← hnb];exact run_bytes_of_string WL 9 22 5 bx underlying9 underlying22 underlying5
       have HBW := hid9 (show Below WL.heap.size WL W1 by rw [hW1]; exact ((Below.refl _ _).drew).alloc (Nat.le_refl _) _);have HG0 := hid9 (show GRow W1 WL.heap.size (.slice (some ⟨nb, 0, none⟩) bx.size C) bx.data.toList by rw [← hnb, hW1, hC]; exact GRow.made WL bx (by unfold maxLen; omega));have hsb : bx.data.toList.length = bx.size := Array.length_toList;clear hW1 hC hnb hWL Qr1;go_wp2;go_loopw [14, 15] (fun v i wr => ∃ k : Nat, i = .int .i64 (k : Int) ∧ k ≤ 8 ∧ Hid (GRow wr WL.heap.size v (wrL text p at_ en bx.data.toList k) ∧ Below WL.heap.size WL wr)) (fun _ i _ => (9 - intOf i).toNat)
       case atStart => exact ⟨0, rfl, by omega, hid9 ⟨HG0.out, HBW.out⟩⟩
       case round =>
        obtain ⟨k, rfl, hk8, HG⟩ := hrel;clear HG0 HBW hcv Fr1;have hwk : IntKind.i64.wrap (p * 8 + (k : Int)) = p * 8 + (k : Int) := by rw [IntKind.wrap_i64]; omega
        have hwk1 : IntKind.i64.wrap ((k : Int) + 1) = ((k + 1 : Nat) : Int) := by rw [IntKind.wrap_i64]; omega
        by_cases hk7 : k < 8
        ·have t2 : (k : Int) < 8 := by omega
         by_cases hin1 : at_ ≤ p * 8 + (k : Int)
         ·have ta : ¬ p * 8 + (k : Int) < at_ := by omega
          by_cases hin2 : p * 8 + (k : Int) < en
          ·have tb : ¬ en ≤ p * 8 + (k : Int) := by omega
           have h3 : (p * 8 + (k : Int) - at_).toNat < text.size := by omega
           have h4 := wr_in (b := bx.data.toList) hin1 hin2 h3;have hq : IntKind.i64.wrap (p * 8 + (k : Int) - at_) = (((p * 8 + (k : Int) - at_).toNat : Nat) : Int) := by rw [IntKind.wrap_i64]; omega
           generalize (p * 8 + (k : Int) - at_).toNat = q at h3 h4 hq;have hq0 : (0 : Int) ≤ (q : Int) := by omega
           have hq1 : (q : Int) < (text.size : Int) := by omega
           have htl := wr_len (t := text) (p := p) (a := at_) (e := en) (b := bx.data.toList) k;obtain ⟨T, hT⟩ : ∃ T, wrL text p at_ en bx.data.toList k = T := ⟨_, rfl⟩;have HGT := hid9 HG.out;rw [hT] at HGT h4 htl;have HWS := hid9 h4;clear HG h4 hT;go_wp2;go_loopw [14] (fun v wr => ∃ l : List UInt8, Hid (GRow wr WL.heap.size v l ∧ Below WL.heap.size WL wr ∧ padB l (k + 1) = padB T (k + 1) ∧ l.length ≤ max T.length (k + 1))) (fun v _ => k + 1 - sliceN v)
           case atStart => exact ⟨T, hid9 ⟨HGT.out.1, HGT.out.2, rfl, by omega⟩⟩
           case round =>
            obtain ⟨l, HP⟩ := hrel;obtain ⟨g, cap, hv, hge⟩ := HP.out.1.shape;subst hv;have hll := HP.out.2.2.2;clear HGT;by_cases hc3 : l.length ≤ k
            ·have t3 : (l.length : Int) ≤ (k : Int) := by omega
             have hsz := HP.out.2.1.size;go_wp2_with (at_builtin; refine wpList_append_G _ rfl _ _ 22 rfl WL.heap.size i0 underlying22 HI.out HZ.out.1 HZ.out.2.1 HZ.out.2.2 _ l rfl (HP.out.1.below (show Below wr.heap.size wr (wr.alloc (.cells #[.int .u8 0] 5)) from bel9)) ⟨wr.heap.size, 0, none⟩ 1 0 rfl (box_news (Box.new wr [valB 0] 5)) (by omega) (by simp; omega) ?_);intro v' w' g2 gr2;have HP2 := hid9 (show GRow w' WL.heap.size v' (l ++ [0]) ∧ Below WL.heap.size WL w' ∧ padB (l ++ [0]) (k + 1) = padB T (k + 1) ∧ (l ++ [0]).length ≤ max T.length (k + 1) from ⟨g2, below_of_G (Below.chain HP.out.2.1 (show Below wr.heap.size wr (wr.alloc (.cells #[.int .u8 0] 5)) from bel9)) (HP.out.1.below bel9) gr2, by rw [pad_more (by omega)]; exact HP.out.2.2.1, by rw [List.length_append, List.length_singleton]; omega⟩);obtain ⟨g', cap', hv', _⟩ := g2.shape;have hsn : sliceN v' = l.length + 1 := by rw [hv']; show (l ++ [0]).length = _; rw [List.length_append]; rfl
             clear g2 gr2 HP hv';go_wp2;go_roundw
             case rel => exact ⟨l ++ [0], HP2⟩
             case measure =>
              rw [hsn];simp only [sliceN];omega
            ·have hl : l = padB T (k + 1) := by rw [← HP.out.2.2.1, pad_same (by omega)]
             have HWS2 := hid9 (show wrL text p at_ en bx.data.toList (k + 1) = l.set k text[q] from by rw [HWS.out, ← hl]);obtain ⟨hcell, hfr⟩ := HP.out.1.cell (j := k) (by omega);have t3 : ¬ (l.length : Int) ≤ (k : Int) := by omega
             have t4 : (k : Int) < (l.length : Int) := by omega
             have t5 : (0 : Int) ≤ (k : Int) := by omega
             have HN := hid9 (show GRow (wr.setCell ⟨g, k, none⟩ (.int .u8 (text[q].toNat : Int))) WL.heap.size (.slice (some ⟨g, 0, none⟩) l.length cap) (wrL text p at_ en bx.data.toList (k + 1)) ∧ Below WL.heap.size WL (wr.setCell ⟨g, k, none⟩ (.int .u8 (text[q].toNat : Int))) from by
              have h := HP.out.1.set k text[q];exact ⟨by rw [HWS2.out]; exact h.1, HP.out.2.1.trans (below_of_grown h.2 hge HP.out.2.1.size)⟩)
             clear HP HWS HWS2 hl;go_wp2;go_roundw
             case rel => exact ⟨k + 1, (by first | rfl | go_num), by omega, HN⟩
             case measure => simp [intOf]; omega
          ·have tb : en ≤ p * 8 + (k : Int) := by omega
           have HN := hid9 (show GRow wr WL.heap.size u14 (wrL text p at_ en bx.data.toList (k + 1)) ∧ Below WL.heap.size WL wr from by rw [wr_out (by omega)]; exact HG.out);clear HG;go_wp2;go_roundw
           case rel => exact ⟨k + 1, (by first | rfl | go_num), by omega, HN⟩
           case measure => simp [intOf]; omega
         ·have ta : p * 8 + (k : Int) < at_ := by omega
          have HN := hid9 (show GRow wr WL.heap.size u14 (wrL text p at_ en bx.data.toList (k + 1)) ∧ Below WL.heap.size WL wr from by rw [wr_out (by omega)]; exact HG.out);clear HG;go_wp2;go_roundw
          case rel => exact ⟨k + 1, (by first | rfl | go_num), by omega, HN⟩
          case measure => simp [intOf]; omega
        ·obtain rfl : k = 8 := by omega
         have t2 : ¬ ((8 : Nat) : Int) < 8 := by omega
         have HNB := hid9 (show newBlock bx text p at_ en = ⟨(wrL text p at_ en bx.data.toList 8).toArray⟩ from wr_end);have hlen := wr_len (t := text) (p := p) (a := at_) (e := en) (b := bx.data.toList) 8;obtain ⟨T, hT⟩ : ∃ T, wrL text p at_ en bx.data.toList 8 = T := ⟨_, rfl⟩;rw [hT] at HNB hlen HG;have hts : (⟨T.toArray⟩ : ByteArray).size ≤ maxLen := by show T.toArray.size ≤ maxLen; rw [List.size_toArray]; unfold maxLen; omega
         have QR := hid9 (QL.out.below HG.out.2);have cnv : (convert 22 9 u14).run prog wr = .ok (.string ⟨T.toArray⟩) wr := HG.out.1.conv;have KL := hid9 (tLayBlock_c (.slice xr1_1 m43.st.length kr1_1) (.slice xr1_2 m43.rs.length kr1_2) (.slice xr1_3 m43.ws.length kr1_3) m43 m44 u44 id p ⟨T.toArray⟩ wr QR.out.rd (O43.out.mono (by omega)) hn hpi hts (by have h := HE44.out; rw [HNB.out] at h; exact h));clear hT HNB HG QL;have g0 := QR.out.h.x.cell 0 _ rfl;have g1 := QR.out.h.x.cell 1 _ rfl;have g2 := QR.out.h.x.cell 2 _ rfl;have gz0 := QR.out.h.x.free 0;have gz1 := QR.out.h.x.free 1;have gz2 := QR.out.h.x.free 2;go_wp2_with fail;refine KL.out.mono ?_;rintro e w3 ⟨s1, s2, s3, rfl, hmo, hb⟩;obtain ⟨z1, f1, z2, f2, z3, f3, rfl, rfl, rfl⟩ := hmo.openS QR.out.rd hb;clear g0 gz0 g1 gz1 g2 gz2;have g0 := (QR.out.below hb).h.x.cell 0 _ rfl;have g1 := (QR.out.below hb).h.x.cell 1 _ rfl;have g2 := (QR.out.below hb).h.x.cell 2 _ rfl;have gz0 := (QR.out.below hb).h.x.free 0;have gz1 := (QR.out.below hb).h.x.free 1;have gz2 := (QR.out.below hb).h.x.free 2;have QN := hid9 ((QR.out.below hb).put (hmo.base QR.out.sz));clear hmo hb QR KL cnv;go_wp2;go_roundw
         case rel => exact ⟨(p + 1), g, (by first | rfl | go_num), hid9 ⟨_, _, _, _, _, _, _, QN.out, O44.out.mono (by omega), ⟨by omega, by omega, by omega⟩, HR2.out⟩⟩
         case measure => simp [intOf]; omega
      ·have hwp : IntKind.i64.wrap (p * 8) = p * 8 := by rw [IntKind.wrap_i64]; omega
       have hr := HR.out;rw [writeL_end hc] at hr;obtain ⟨e1, _⟩ := Prod.mk.inj (show (m2, u2) = (mk, ()) from hr.symm);subst e1;clear HR;have F := Qh.out.fx;obtain ⟨m3, u3, HE3, O3⟩ := Pg.Cost.hop (setP (sizeK id) (en)) (setP_cost _ _) O2;go_wp2_with fail;refine Qh.out.region [5] fun hS cr0 cr1 cr2 => ?_;clear F;refine pL 0 hS ?_;refine pU 1 hS ?_;refine pU 3 hS ?_;refine pV 2 hS (tSizeKey_c id _ hn) fun _ hS => ?_;refine pM1 SQ.fr 4 hS (tSet_c _ _ _ _ _ _ (sizeK id) (en) _ hS.rd (O2.out.mono (by omega)) (Nat.le_trans (sizeK_size hn) (by decide : (1000 : Nat) ≤ maxLen)) HE3.out) fun _ _ _ _ _ _ wt1 hS hmo Ft1 => ?_;refine pS 5 ?_;refine wpAnyY_done (by kernel_rfl) ?_ _;have Qt1 := hid9 (hS.put hmo);clear hS hmo Qh cr0 cr1 cr2;obtain ⟨rfl, rfl⟩ := leaf HE m3 (0) (by rw [writeP_eq]; simp only [pgz, ↓reduceIte, bz, HE1.out, C1.out, C2.out, HEN.out, (show ¬ (64 < en) from by first | exact c3 | omega | simpa using c3), (show x1 < en from by first | exact c4 | omega | simpa using c4), HE2.out, HE3.out]);go_wp2_with fail;exact rt2 SQ.fr Qt1 (by simp [results, results181, go_sem, *])
    ·obtain ⟨m2, u2, HE2, O2⟩ := Pg.Cost.hop (writeL id at_ en text fuelW (at_ / 8)) (writeL_cost _ _ _ _ _ _) O1;go_wp2_with (first | (go_at_call 70; refine (KW.out _).mono ?_; rintro e w' ⟨rfl, rfl⟩) | fail);go_loopw [12] (fun vp wr => ∃ p : Int, ∃ f : Nat, vp = .int .i64 p ∧ Hid (∃ y1 d1 y2 d2 y3 d3 mk, SQ w (.slice a1 m.st.length q1) (.slice a2 m.rs.length q2) (.slice a3 m.ws.length q3) m (.slice y1 mk.st.length d1) (.slice y2 mk.rs.length d2) (.slice y3 mk.ws.length d3) mk wr ∧ MOk (1600000000000 + 2 * p.toNat) mk ∧ (at_ / 8 ≤ p ∧ p ≤ 1000 ∧ en ≤ (p + f) * 8) ∧ (writeL id at_ en text f p).run mk = (m2, u2))) (fun i _ => (1001 - intOf i).toNat)
     case atStart => exact ⟨(at_ / 8), fuelW, rfl, hid9 ⟨_, _, _, _, _, _, _, Q1.out, O1.out.mono (by omega), ⟨by omega, by omega, by omega⟩, HE2.out⟩⟩
     case round =>
      obtain ⟨p, f, rfl, HI⟩ := hrel;obtain ⟨y1, d1, y2, d2, y3, d3, mk, hl, ho, hinv, hr⟩ := HI.out;obtain ⟨hp0, hp1, hp2⟩ := hinv;have Qh := hid9 hl;have O42 := hid9 ho;have HR := hid9 hr;clear HI hl ho hr Q1 F1;by_cases hc : p * 8 < en
      ·obtain ⟨g, rfl⟩ : ∃ g, f = g + 1 := ⟨f - 1, by omega⟩;have hwp : IntKind.i64.wrap (p * 8) = p * 8 := by rw [IntKind.wrap_i64]; omega
       have hwp1 : IntKind.i64.wrap (p + 1) = p + 1 := by rw [IntKind.wrap_i64]; omega
       have hpi : I64 p := ⟨by omega, by omega⟩;have hr := HR.out;rw [writeL_yes hc] at hr;have HRs := hid9 hr;clear hr HR;have F := Qh.out.fx;obtain ⟨m43, bx, HE43, O43⟩ := Pg.Cost.hop (blockP id (p)) (blockP_cost _ _) O42;have sbx := block_sz O42.out HE43.out;go_wp2_with fail;refine nx2 SQ.fr Qh (tBlock_c _ _ _ _ _ _ id (p) _ Qh.out.rd (O42.out.mono (by omega)) hn (hpi) HE43.out) fun xr1_1 kr1_1 xr1_2 kr1_2 xr1_3 kr1_3 wr1 Qr1 Fr1 => ?_;clear F Qh;obtain ⟨m44, u44, HE44, O44⟩ := Pg.Cost.hop (layP (blockK id p) (hexV (newBlock bx text p at_ en))) ((layP_cost _ _)) O43;have h := HRs.out;simp only [pgz, ↓reduceIte, bz, HE43.out, HE44.out] at h;have HR2 := hid9 h;clear h HRs;obtain ⟨WL, hWL⟩ : ∃ W, W = (((wr1.setCell ⟨w.heap.size, 0, none⟩ (.slice xr1_1 m43.st.length kr1_1)).setCell ⟨w.heap.size, 1, none⟩ (.slice xr1_2 m43.rs.length kr1_2)).setCell ⟨w.heap.size, 2, none⟩ (.slice xr1_3 m43.ws.length kr1_3)) := ⟨_, rfl⟩;have QL := hid9 (show SQ w (.slice a1 m.st.length q1) (.slice a2 m.rs.length q2) (.slice a3 m.ws.length q3) m (.slice xr1_1 m43.st.length kr1_1) (.slice xr1_2 m43.rs.length kr1_2) (.slice xr1_3 m43.ws.length kr1_3) m43 WL from by rw [hWL]; exact Qr1.out);obtain ⟨nb, hnb⟩ : ∃ nb, WL.heap.size = nb := ⟨_, rfl⟩;obtain ⟨C, hC⟩ : ∃ C, C = grownCap WL bx.size 0 5 := ⟨_, rfl⟩;obtain ⟨W1, hW1⟩ : ∃ W1, W1 = WL.drew.alloc (.cells (bytesRow bx C) 5 ((bytesRow bx C).size, (bytesRow bx C).size + 1)) := ⟨_, rfl⟩;have hcv : (convert 9 22 (.string bx)).run prog (((wr1.setCell ⟨w.heap.size, 0, none⟩ (.slice xr1_1 m43.st.length kr1_1)).setCell ⟨w.heap.size, 1, none⟩ (.slice xr1_2 m43.rs.length kr1_2)).setCell ⟨w.heap.size, 2, none⟩ (.slice xr1_3 m43.ws.length kr1_3)) = .ok (.slice (some ⟨nb, 0, none⟩) bx.size C) W1 := by
        rw [← hWL, hW1, hC, ← hnb];exact run_bytes_of_string WL 9 22 5 bx underlying9 underlying22 underlying5
       have HBW := hid9 (show Below WL.heap.size WL W1 by rw [hW1]; exact ((Below.refl _ _).drew).alloc (Nat.le_refl _) _);have HG0 := hid9 (show GRow W1 WL.heap.size (.slice (some ⟨nb, 0, none⟩) bx.size C) bx.data.toList by rw [← hnb, hW1, hC]; exact GRow.made WL bx (by unfold maxLen; omega));have hsb : bx.data.toList.length = bx.size := Array.length_toList;clear hW1 hC hnb hWL Qr1;go_wp2;go_loopw [14, 15] (fun v i wr => ∃ k : Nat, i = .int .i64 (k : Int) ∧ k ≤ 8 ∧ Hid (GRow wr WL.heap.size v (wrL text p at_ en bx.data.toList k) ∧ Below WL.heap.size WL wr)) (fun _ i _ => (9 - intOf i).toNat)
       case atStart => exact ⟨0, rfl, by omega, hid9 ⟨HG0.out, HBW.out⟩⟩
       case round =>
        obtain ⟨k, rfl, hk8, HG⟩ := hrel;clear HG0 HBW hcv Fr1;have hwk : IntKind.i64.wrap (p * 8 + (k : Int)) = p * 8 + (k : Int) := by rw [IntKind.wrap_i64]; omega
        have hwk1 : IntKind.i64.wrap ((k : Int) + 1) = ((k + 1 : Nat) : Int) := by rw [IntKind.wrap_i64]; omega
        by_cases hk7 : k < 8
        ·have t2 : (k : Int) < 8 := by omega
         by_cases hin1 : at_ ≤ p * 8 + (k : Int)
         ·have ta : ¬ p * 8 + (k : Int) < at_ := by omega
          by_cases hin2 : p * 8 + (k : Int) < en
          ·have tb : ¬ en ≤ p * 8 + (k : Int) := by omega
           have h3 : (p * 8 + (k : Int) - at_).toNat < text.size := by omega
           have h4 := wr_in (b := bx.data.toList) hin1 hin2 h3;have hq : IntKind.i64.wrap (p * 8 + (k : Int) - at_) = (((p * 8 + (k : Int) - at_).toNat : Nat) : Int) := by rw [IntKind.wrap_i64]; omega
           generalize (p * 8 + (k : Int) - at_).toNat = q at h3 h4 hq;have hq0 : (0 : Int) ≤ (q : Int) := by omega
           have hq1 : (q : Int) < (text.size : Int) := by omega
           have htl := wr_len (t := text) (p := p) (a := at_) (e := en) (b := bx.data.toList) k;obtain ⟨T, hT⟩ : ∃ T, wrL text p at_ en bx.data.toList k = T := ⟨_, rfl⟩;have HGT := hid9 HG.out;rw [hT] at HGT h4 htl;have HWS := hid9 h4;clear HG h4 hT;go_wp2;go_loopw [14] (fun v wr => ∃ l : List UInt8, Hid (GRow wr WL.heap.size v l ∧ Below WL.heap.size WL wr ∧ padB l (k + 1) = padB T (k + 1) ∧ l.length ≤ max T.length (k + 1))) (fun v _ => k + 1 - sliceN v)
           case atStart => exact ⟨T, hid9 ⟨HGT.out.1, HGT.out.2, rfl, by omega⟩⟩
           case round =>
            obtain ⟨l, HP⟩ := hrel;obtain ⟨g, cap, hv, hge⟩ := HP.out.1.shape;subst hv;have hll := HP.out.2.2.2;clear HGT;by_cases hc3 : l.length ≤ k
            ·have t3 : (l.length : Int) ≤ (k : Int) := by omega
             have hsz := HP.out.2.1.size;go_wp2_with (at_builtin; refine wpList_append_G _ rfl _ _ 22 rfl WL.heap.size i0 underlying22 HI.out HZ.out.1 HZ.out.2.1 HZ.out.2.2 _ l rfl (HP.out.1.below (show Below wr.heap.size wr (wr.alloc (.cells #[.int .u8 0] 5)) from bel9)) ⟨wr.heap.size, 0, none⟩ 1 0 rfl (box_news (Box.new wr [valB 0] 5)) (by omega) (by simp; omega) ?_);intro v' w' g2 gr2;have HP2 := hid9 (show GRow w' WL.heap.size v' (l ++ [0]) ∧ Below WL.heap.size WL w' ∧ padB (l ++ [0]) (k + 1) = padB T (k + 1) ∧ (l ++ [0]).length ≤ max T.length (k + 1) from ⟨g2, below_of_G (Below.chain HP.out.2.1 (show Below wr.heap.size wr (wr.alloc (.cells #[.int .u8 0] 5)) from bel9)) (HP.out.1.below bel9) gr2, by rw [pad_more (by omega)]; exact HP.out.2.2.1, by rw [List.length_append, List.length_singleton]; omega⟩);obtain ⟨g', cap', hv', _⟩ := g2.shape;have hsn : sliceN v' = l.length + 1 := by rw [hv']; show (l ++ [0]).length = _; rw [List.length_append]; rfl
             clear g2 gr2 HP hv';go_wp2;go_roundw
             case rel => exact ⟨l ++ [0], HP2⟩
             case measure =>
              rw [hsn];simp only [sliceN];omega
            ·have hl : l = padB T (k + 1) := by rw [← HP.out.2.2.1, pad_same (by omega)]
             have HWS2 := hid9 (show wrL text p at_ en bx.data.toList (k + 1) = l.set k text[q] from by rw [HWS.out, ← hl]);obtain ⟨hcell, hfr⟩ := HP.out.1.cell (j := k) (by omega);have t3 : ¬ (l.length : Int) ≤ (k : Int) := by omega
             have t4 : (k : Int) < (l.length : Int) := by omega
             have t5 : (0 : Int) ≤ (k : Int) := by omega
             have HN := hid9 (show GRow (wr.setCell ⟨g, k, none⟩ (.int .u8 (text[q].toNat : Int))) WL.heap.size (.slice (some ⟨g, 0, none⟩) l.length cap) (wrL text p at_ en bx.data.toList (k + 1)) ∧ Below WL.heap.size WL (wr.setCell ⟨g, k, none⟩ (.int .u8 (text[q].toNat : Int))) from by
              have h := HP.out.1.set k text[q];exact ⟨by rw [HWS2.out]; exact h.1, HP.out.2.1.trans (below_of_grown h.2 hge HP.out.2.1.size)⟩)
             clear HP HWS HWS2 hl;go_wp2;go_roundw
             case rel => exact ⟨k + 1, (by first | rfl | go_num), by omega, HN⟩
             case measure => simp [intOf]; omega
          ·have tb : en ≤ p * 8 + (k : Int) := by omega
           have HN := hid9 (show GRow wr WL.heap.size u14 (wrL text p at_ en bx.data.toList (k + 1)) ∧ Below WL.heap.size WL wr from by rw [wr_out (by omega)]; exact HG.out);clear HG;go_wp2;go_roundw
           case rel => exact ⟨k + 1, (by first | rfl | go_num), by omega, HN⟩
           case measure => simp [intOf]; omega
         ·have ta : p * 8 + (k : Int) < at_ := by omega
          have HN := hid9 (show GRow wr WL.heap.size u14 (wrL text p at_ en bx.data.toList (k + 1)) ∧ Below WL.heap.size WL wr from by rw [wr_out (by omega)]; exact HG.out);clear HG;go_wp2;go_roundw
          case rel => exact ⟨k + 1, (by first | rfl | go_num), by omega, HN⟩
          case measure => simp [intOf]; omega
        ·obtain rfl : k = 8 := by omega
         have t2 : ¬ ((8 : Nat) : Int) < 8 := by omega
         have HNB := hid9 (show newBlock bx text p at_ en = ⟨(wrL text p at_ en bx.data.toList 8).toArray⟩ from wr_end);have hlen := wr_len (t := text) (p := p) (a := at_) (e := en) (b := bx.data.toList) 8;obtain ⟨T, hT⟩ : ∃ T, wrL text p at_ en bx.data.toList 8 = T := ⟨_, rfl⟩;rw [hT] at HNB hlen HG;have hts : (⟨T.toArray⟩ : ByteArray).size ≤ maxLen := by show T.toArray.size ≤ maxLen; rw [List.size_toArray]; unfold maxLen; omega
         have QR := hid9 (QL.out.below HG.out.2);have cnv : (convert 22 9 u14).run prog wr = .ok (.string ⟨T.toArray⟩) wr := HG.out.1.conv;have KL := hid9 (tLayBlock_c (.slice xr1_1 m43.st.length kr1_1) (.slice xr1_2 m43.rs.length kr1_2) (.slice xr1_3 m43.ws.length kr1_3) m43 m44 u44 id p ⟨T.toArray⟩ wr QR.out.rd (O43.out.mono (by omega)) hn hpi hts (by have h := HE44.out; rw [HNB.out] at h; exact h));clear hT HNB HG QL;have g0 := QR.out.h.x.cell 0 _ rfl;have g1 := QR.out.h.x.cell 1 _ rfl;have g2 := QR.out.h.x.cell 2 _ rfl;have gz0 := QR.out.h.x.free 0;have gz1 := QR.out.h.x.free 1;have gz2 := QR.out.h.x.free 2;go_wp2_with fail;refine KL.out.mono ?_;rintro e w3 ⟨s1, s2, s3, rfl, hmo, hb⟩;obtain ⟨z1, f1, z2, f2, z3, f3, rfl, rfl, rfl⟩ := hmo.openS QR.out.rd hb;clear g0 gz0 g1 gz1 g2 gz2;have g0 := (QR.out.below hb).h.x.cell 0 _ rfl;have g1 := (QR.out.below hb).h.x.cell 1 _ rfl;have g2 := (QR.out.below hb).h.x.cell 2 _ rfl;have gz0 := (QR.out.below hb).h.x.free 0;have gz1 := (QR.out.below hb).h.x.free 1;have gz2 := (QR.out.below hb).h.x.free 2;have QN := hid9 ((QR.out.below hb).put (hmo.base QR.out.sz));clear hmo hb QR KL cnv;go_wp2;go_roundw
         case rel => exact ⟨(p + 1), g, (by first | rfl | go_num), hid9 ⟨_, _, _, _, _, _, _, QN.out, O44.out.mono (by omega), ⟨by omega, by omega, by omega⟩, HR2.out⟩⟩
         case measure => simp [intOf]; omega
      ·have hwp : IntKind.i64.wrap (p * 8) = p * 8 := by rw [IntKind.wrap_i64]; omega
       have hr := HR.out;rw [writeL_end hc] at hr;obtain ⟨e1, _⟩ := Prod.mk.inj (show (m2, u2) = (mk, ()) from hr.symm);subst e1;clear HR;have F := Qh.out.fx;obtain ⟨rfl, rfl⟩ := leaf HE m2 (0) (by rw [writeP_eq]; simp only [pgz, ↓reduceIte, bz, HE1.out, C1.out, C2.out, HEN.out, (show ¬ (64 < en) from by first | exact c3 | omega | simpa using c3), (show ¬ (x1 < en) from by first | exact c4 | omega | simpa using c4), HE2.out]);go_wp2_with fail;exact rt2 SQ.fr Qh (by simp [results, results181, go_sem, *])
  ·have C2 := hid9 c2;clear c2;have hzt : ∀ t, binOp .eql t (.string text) (.string ⟨#[]⟩) = pure (.bool true) := fun t => eql_empty (by have := C2.out; omega);obtain ⟨rfl, rfl⟩ := leaf HE m1 (4) (by rw [writeP_eq]; simp only [pgz, ↓reduceIte, bz, HE1.out, C1.out, C2.out]);go_wp2_with (first | (go_at_call 70; refine (KW.out _).mono ?_; rintro e w' ⟨rfl, rfl⟩) | fail);exact rt2 SQ.fr Q1 (by simp [results, results181, go_sem, *])
 ·have C1 := hid9 (Bool.eq_false_iff.2 c1);clear c1;have KW := hid9 (fun W => l01In_c at_ 0 x1 W);rw [C1.out] at KW;obtain ⟨rfl, rfl⟩ := leaf HE m1 (4) (by rw [writeP_eq]; simp only [pgz, ↓reduceIte, bz, HE1.out, C1.out]);go_wp2_with (first | (go_at_call 70; refine (KW.out _).mono ?_; rintro e w' ⟨rfl, rfl⟩) | fail);exact rt2 SQ.fr Q1 (by simp [results, results181, go_sem, *])
end
section
open Go.ChangeShapes Go.WideShapes Go.ChangeAt Go.RowKit
section
variable {w W : World} {v1 v2 v3 u1 u2 u3 : Value} {m k : Mch} {c : Nat} {a : Option Addr} {ks : List ByteArray}
theorem SL.fx (q : SL w v1 v2 v3 m a c ks u1 u2 u3 k W) : W.cell? ⟨w.heap.size, 0, none⟩ = some u1 ∧ W.cell? ⟨w.heap.size, 1, none⟩ = some u2 ∧ W.cell? ⟨w.heap.size, 2, none⟩ = some u3 ∧ W.frozen? ⟨w.heap.size, 0, none⟩ = false ∧ W.frozen? ⟨w.heap.size, 1, none⟩ = false ∧ W.frozen? ⟨w.heap.size, 2, none⟩ = false ∧
 W.cell? ⟨w.heap.size + 1, 0, none⟩ = some (.slice none 0 0) ∧ W.cell? ⟨w.heap.size + 1, 1, none⟩ = some (.slice none 0 0) ∧ W.cell? ⟨w.heap.size + 1, 2, none⟩ = some (.slice none 0 0) ∧ W.frozen? ⟨w.heap.size + 1, 0, none⟩ = false ∧ W.frozen? ⟨w.heap.size + 1, 1, none⟩ = false ∧ W.frozen? ⟨w.heap.size + 1, 2, none⟩ = false := q.q.fx
theorem SL.cry {b off i : Nat} {y : ByteArray} (_q : SL w v1 v2 v3 m (some ⟨b, off, none⟩) c ks u1 u2 u3 k W) (hy : ks[i]? = some y) : ∀ W, SL w v1 v2 v3 m (some ⟨b, off, none⟩) c ks u1 u2 u3 k W → W.cell? ⟨b, off + i, none⟩ = some (.string y) := fun _ h => SL.cell h hy
theorem SL.region {P : Program} {ops : Array Oper} {Q : Exit → Act → World → Prop} {id : Nat} {t : Act} (q : SL w v1 v2 v3 m a c ks u1 u2 u3 k W) (Y : List Nat)
 (h : SL w v1 v2 v3 m a c ks u1 u2 u3 k W.drew → (∀ W, SL w v1 v2 v3 m a c ks u1 u2 u3 k W → W.cell? ⟨w.heap.size, 0, none⟩ = some u1) → (∀ W, SL w v1 v2 v3 m a c ks u1 u2 u3 k W → W.cell? ⟨w.heap.size, 1, none⟩ = some u2) → (∀ W, SL w v1 v2 v3 m a c ks u1 u2 u3 k W → W.cell? ⟨w.heap.size, 2, none⟩ = some u3) →
  wpAnyY P .any ops Q (SL w v1 v2 v3 m a c ks u1 u2 u3 k) Y ops.size (Array.replicate ops.size false) t W.drew) (hm : P.follows .mixedOrders = true := by kernel_rfl) : (Code.region id ops true).wp P Q t W :=
 wp_region_Y _ Y hm q.drew (fun hS => h hS (fun _ h => h.h.x.cell 0 _ rfl) (fun _ h => h.h.x.cell 1 _ rfl) (fun _ h => h.h.x.cell 2 _ rfl))
end
section
variable {w : World} {v1 v2 v3 : Value} {m : Mch} {a : Option Addr} {c : Nat} {ks : List ByteArray}
theorem SL.fr : Fr w v1 v2 v3 m (SL w v1 v2 v3 m a c ks) (fun u1 u2 u3 W => W.cell? ⟨w.heap.size, 0, none⟩ = some u1 ∧ W.cell? ⟨w.heap.size, 1, none⟩ = some u2 ∧ W.cell? ⟨w.heap.size, 2, none⟩ = some u3 ∧ W.frozen? ⟨w.heap.size, 0, none⟩ = false ∧ W.frozen? ⟨w.heap.size, 1, none⟩ = false ∧ W.frozen? ⟨w.heap.size, 2, none⟩ = false ∧ W.cell? ⟨w.heap.size + 1, 0, none⟩ = some (.slice none 0 0) ∧ W.cell? ⟨w.heap.size + 1, 1, none⟩ = some (.slice none 0 0) ∧ W.cell? ⟨w.heap.size + 1, 2, none⟩ = some (.slice none 0 0) ∧ W.frozen? ⟨w.heap.size + 1, 0, none⟩ = false ∧ W.frozen? ⟨w.heap.size + 1, 1, none⟩ = false ∧ W.frozen? ⟨w.heap.size + 1, 2, none⟩ = false) where
 below h := h.below
 put h := h.put
 rd h := h.rd
 sz h := h.q.sz
 fx h := h.fx
 sh h := h.h
theorem SL.frk {b off i : Nat} {y : ByteArray} (hy : ks[i]? = some y) : Fr w v1 v2 v3 m (SL w v1 v2 v3 m (some ⟨b, off, none⟩) c ks) (fun u1 u2 u3 W => (W.cell? ⟨w.heap.size, 0, none⟩ = some u1 ∧ W.cell? ⟨w.heap.size, 1, none⟩ = some u2 ∧ W.cell? ⟨w.heap.size, 2, none⟩ = some u3 ∧ W.frozen? ⟨w.heap.size, 0, none⟩ = false ∧ W.frozen? ⟨w.heap.size, 1, none⟩ = false ∧ W.frozen? ⟨w.heap.size, 2, none⟩ = false ∧ W.cell? ⟨w.heap.size + 1, 0, none⟩ = some (.slice none 0 0) ∧ W.cell? ⟨w.heap.size + 1, 1, none⟩ = some (.slice none 0 0) ∧ W.cell? ⟨w.heap.size + 1, 2, none⟩ = some (.slice none 0 0) ∧ W.frozen? ⟨w.heap.size + 1, 0, none⟩ = false ∧ W.frozen? ⟨w.heap.size + 1, 1, none⟩ = false ∧ W.frozen? ⟨w.heap.size + 1, 2, none⟩ = false) ∧ W.cell? ⟨b, off + i, none⟩ = some (.string y)) where
 below h := h.below
 put h := h.put
 rd h := h.rd
 sz h := h.q.sz
 fx h := ⟨h.fx, h.cell hy⟩
 sh h := h.h
variable {P : Program} {f : FuncId} {args : Array Value} {R : Ending → World → Prop} {W : World} {u1 u2 u3 : Value} {k k2 : Mch}
theorem nxK (q : Hid (SQ w v1 v2 v3 m u1 u2 u3 k W)) (K : Calls P f args W (SKeys u1 u2 u3 k k2 ks W))
 (h : ∀ (a1 : Option Addr) (c1 : Nat) (a2 : Option Addr) (c2 : Nat) (a3 : Option Addr) (c3 : Nat) (a : Option Addr) (c : Nat) w', Hid (SL w v1 v2 v3 m a c ks (.slice a1 k2.st.length c1) (.slice a2 k2.rs.length c2) (.slice a3 k2.ws.length c3) k2 (((w'.setCell ⟨w.heap.size, 0, none⟩ (.slice a1 k2.st.length c1)).setCell ⟨w.heap.size, 1, none⟩ (.slice a2 k2.rs.length c2)).setCell ⟨w.heap.size, 2, none⟩ (.slice a3 k2.ws.length c3))) → w'.cell? ⟨w.heap.size, 0, none⟩ = some u1 ∧ w'.cell? ⟨w.heap.size, 1, none⟩ = some u2 ∧ w'.cell? ⟨w.heap.size, 2, none⟩ = some u3 ∧ w'.frozen? ⟨w.heap.size, 0, none⟩ = false ∧ w'.frozen? ⟨w.heap.size, 1, none⟩ = false ∧ w'.frozen? ⟨w.heap.size, 2, none⟩ = false ∧ w'.cell? ⟨w.heap.size + 1, 0, none⟩ = some (.slice none 0 0) ∧ w'.cell? ⟨w.heap.size + 1, 1, none⟩ = some (.slice none 0 0) ∧ w'.cell? ⟨w.heap.size + 1, 2, none⟩ = some (.slice none 0 0) ∧ w'.frozen? ⟨w.heap.size + 1, 0, none⟩ = false ∧ w'.frozen? ⟨w.heap.size + 1, 1, none⟩ = false ∧ w'.frozen? ⟨w.heap.size + 1, 2, none⟩ = false → R (.returned (.tuple #[.agg #[.slice a1 k2.st.length c1, .slice a2 k2.rs.length c2, .slice a3 k2.ws.length c3], .slice a ks.length c])) w') : Calls P f args W R := K.mono (by
 intro e w' hx;obtain ⟨a1, c1, a2, c2, a3, c3, a, c, rfl, hb, hq, hmo, hk⟩ := hx.got q.out;exact h _ _ _ _ _ _ _ _ _ (SL.first hq hmo hk) hq.fx)
theorem pMK {ops : Array Oper} {Q : Exit → Act → World → Prop} {md : Region.Mode} {Y : List Nat} {fuel : Nat} {listed : Array Bool} {a : Act} {a' : Option Addr → Nat → Option Addr → Nat → Option Addr → Nat → Option Addr → Nat → Act} {oi : Oper} (i : Nat) (q : SQ w v1 v2 v3 m u1 u2 u3 k W) (KM : Calls P f args W (SKeys u1 u2 u3 k k2 ks W))
 (h : ∀ (a1 : Option Addr) (c1 : Nat) (a2 : Option Addr) (c2 : Nat) (a3 : Option Addr) (c3 : Nat) (b : Option Addr) (c : Nat) w', SQ w v1 v2 v3 m u1 u2 u3 k w' → MOut (w.heap.size + 2) w' u1 u2 u3 k (.slice a1 k2.st.length c1) (.slice a2 k2.rs.length c2) (.slice a3 k2.ws.length c3) k2 → w'.ownsRow (w.heap.size + 2) 9 1 (.slice b ks.length c) ks.length (ks.flatMap encS) → w'.cell? ⟨w.heap.size, 0, none⟩ = some u1 ∧ w'.cell? ⟨w.heap.size, 1, none⟩ = some u2 ∧ w'.cell? ⟨w.heap.size, 2, none⟩ = some u3 ∧ w'.frozen? ⟨w.heap.size, 0, none⟩ = false ∧ w'.frozen? ⟨w.heap.size, 1, none⟩ = false ∧ w'.frozen? ⟨w.heap.size, 2, none⟩ = false ∧ w'.cell? ⟨w.heap.size + 1, 0, none⟩ = some (.slice none 0 0) ∧ w'.cell? ⟨w.heap.size + 1, 1, none⟩ = some (.slice none 0 0) ∧ w'.cell? ⟨w.heap.size + 1, 2, none⟩ = some (.slice none 0 0) ∧ w'.frozen? ⟨w.heap.size + 1, 0, none⟩ = false ∧ w'.frozen? ⟨w.heap.size + 1, 1, none⟩ = false ∧ w'.frozen? ⟨w.heap.size + 1, 2, none⟩ = false → wpAnyY P md ops Q (SQ w v1 v2 v3 m u1 u2 u3 k) Y fuel (listed.setIfInBounds i true) (a' a1 c1 a2 c2 a3 c3 b c) w') (hi : ops[i]? = some oi := by rfl)
 (hw : ∀ K : Act → World → Prop, Hid (∀ (a1 : Option Addr) (c1 : Nat) (a2 : Option Addr) (c2 : Nat) (a3 : Option Addr) (c3 : Nat) (b : Option Addr) (c : Nat) w', SQ w v1 v2 v3 m u1 u2 u3 k w' → MOut (w.heap.size + 2) w' u1 u2 u3 k (.slice a1 k2.st.length c1) (.slice a2 k2.rs.length c2) (.slice a3 k2.ws.length c3) k2 → w'.ownsRow (w.heap.size + 2) 9 1 (.slice b ks.length c) ks.length (ks.flatMap encS) → K (a' a1 c1 a2 c2 a3 c3 b c) w') → Hid (Calls P f args W (SGotK w v1 v2 v3 m u1 u2 u3 k k2 ks W)) → if Region.wanted oi (yielded ops a.tmps) = true then Oper.wp P oi a W K Q else K (a.put oi.dst undef) W := by
  intro K hK hC; go_simp; refine hC.out.mono ?_; rintro e w' ⟨a1, c1, a2, c2, a3, c3, b, c, rfl, hb, hq, hm, hk⟩; go_wp2_with fail; (try simp only [Act.put, sqz]); with_reducible exact hK.out _ _ _ _ _ _ _ _ _ hq hm hk)
 (hr : Region.ready md ops listed = [i] := by kernel_rfl) : wpAnyY P md ops Q (SQ w v1 v2 v3 m u1 u2 u3 k) Y (fuel + 1) listed a W :=
 wpO i (fun K hK => hw K (fun a1 c1 a2 c2 a3 c3 b c w' hq hm hk => hK.out _ _ (.inr hq) (h a1 c1 a2 c2 a3 c3 b c w' hq hm hk hq.fx)) (KM.mono fun e w' hx => hx.got q)) hr hi
end
end
section
open Go.ChangeShapes Go.WideShapes Go.ChangeAt Go.RowKit
attribute [local go_sem ↓] Go.wp_at_zero Go.wp_at_succ
set_option maxRecDepth 100000 in
theorem tWipe_c (v1 v2 v3 : Value) (m m' : Mch) (x : Unit) (pre : ByteArray) (w : World) (h : MRd w v1 v2 v3 m) (O0 : Hid (MOk 900000000000 m)) (hp : pre.size ≤ 1000) (HE : Hid ((wipeP pre).run m = (m', x))) :
 Calls prog 178 #[.agg #[v1, v2, v3], .string pre] w (SRet1 v1 v2 v3 m m' w) := by
 obtain ⟨a1, q1, a2, q2, a3, q3, rfl, rfl, rfl, Q0⟩ := h.start;clear h;go_enter func178, ntmps178;obtain ⟨m1, ks, HE1, O1⟩ := Pg.Cost.hop (underP (pre)) (underP_cost _) O0;obtain ⟨hsz, hkn⟩ := under_sz O0.out HE1.out;have HSZ := hid9 hsz;clear hsz;go_wp2_with fail;refine nxK  Q0 (tUnder_c _ _ _ _ _ _ (pre) _ Q0.out.rd (O0.out.mono (by omega)) (hp) HE1.out) fun _ _ _ _ _ _ a c w1 Q1 F1 => ?_;clear Q0;obtain ⟨m2, u2, HE2, O2⟩ := Pg.Cost.hop (layAll  ks) ((layAll_cost _)) O1;go_wp2;go_loopw [6] (fun i wr => ∃ k : Nat, k ≤ ks.length ∧ i = .int .i64 k ∧ Hid (∃ y1 d1 y2 d2 y3 d3 mk, SL w (.slice a1 m.st.length q1) (.slice a2 m.rs.length q2) (.slice a3 m.ws.length q3) m a c ks (.slice y1 mk.st.length d1) (.slice y2 mk.rs.length d2) (.slice y3 mk.ws.length d3) mk wr ∧ MOk (900000000001 + 1 * k) mk ∧ (layAll  (ks.drop k)).run mk = (m2, u2))) (fun i _ => ks.length - (intOf i).toNat)
 case atStart => exact ⟨0, Nat.zero_le _, rfl, hid9 ⟨_, _, _, _, _, _, _, Q1.out, O1.out.mono (by omega), HE2.out⟩⟩
 case round =>
  obtain ⟨k, hk, rfl, HI⟩ := hrel;obtain ⟨y1, d1, y2, d2, y3, d3, mk, hl, ho, hr⟩ := HI.out;have Qh := hid9 hl;have O42 := hid9 ho;have HR := hid9 hr;clear HI hl ho hr Q1 F1;by_cases hlt : k < ks.length
  ·obtain ⟨y, hy⟩ := some_of_lt hlt;obtain ⟨b, off, hab⟩ := SL.at_ Qh.out hy;subst hab;have p1 : (0 : Int) ≤ (k : Int) := by omega
   have p2 : (k : Int) < (ks.length : Int) := by omega
   have hys := HSZ.out y (List.mem_of_getElem? hy);have HY := hid9 hy;clear hy hlt;have F := Qh.out.fx;have ky := SL.cell Qh.out HY.out;obtain ⟨m43, u43, HE43, O43⟩ := Pg.Cost.hop (layP (y) (noB)) (layP_cost _ _) O42;go_wp2_with fail;refine Qh.out.region [6] fun hS cr0 cr1 cr2 => ?_;clear F ky;have cry := SL.cry Qh.out HY.out;refine pL 0 hS ?_;refine pU 1 hS ?_;refine pU 2 hS ?_;refine pU 3 hS ?_;refine pL 4 hS ?_;refine pM1 (SL.frk HY.out) 5 hS (tLay_c _ _ _ _ _ _ (y) (noB) _ hS.rd (O42.out.mono (by omega)) (by have := hys; unfold maxLen; omega) (by decide) HE43.out) fun _ _ _ _ _ _ wr1 hS hmo Fr1 => ?_;refine pS 6 ?_;refine wpAnyY_done (by kernel_rfl) ?_ _;have Qr1 := hid9 (hS.put hmo);clear hS hmo Qh cr0 cr1 cr2 cry;have HR2 := hid9 (show (layAll  (ks.drop (k + 1))).run m43 = (m2, u2) from by
    have h := HR.out;rw [drop_cons HY.out, layAll_cons] at h;simp only [pgz, ↓reduceIte, bz, HE43.out] at h;exact h)
   clear HR;go_wp2;go_roundw
   case rel => exact ⟨k + 1, by omega, by go_num, hid9 ⟨_, _, _, _, _, _, _, Qr1.out, O43.out.mono (by omega), HR2.out⟩⟩
   case measure => simp [intOf]; omega
  ·obtain rfl : k = ks.length := by omega
   have p2 : ¬ ((ks.length : Nat) : Int) < (ks.length : Int) := by omega
   have hr := HR.out;rw [List.drop_length] at hr;obtain ⟨e1, _⟩ := Prod.mk.inj (show (m2, u2) = (mk, ()) from hr.symm);subst e1;clear hr HR;have F := Qh.out.fx;obtain ⟨rfl, -⟩ := leaf HE m2 (()) (by rw [wipeP_eq]; simp only [pgz, ↓reduceIte, bz, HE1.out, HE2.out]);go_wp2;exact rt1 SL.fr Qh (by simp [results, results178, go_sem, *])
theorem suf_yes {y : ByteArray} {t : TypeId} (h2 : 2 ≤ y.size) (h : Lib.hasSuffix y.data.toList [47, 112] = true) : binOp .neq t (.string (y.extract (y.size - 2) y.size)) (.string ⟨#[47, 112]⟩) = pure (.bool false) := by
 rw [binOp_string_neq, (suf_iff h2).2 h, show (ByteArray.mk #[47, 112]).toList = [47, 112] from by kernel_rfl];rfl
theorem suf_no {y : ByteArray} {t : TypeId} (h2 : 2 ≤ y.size) (h : Lib.hasSuffix y.data.toList [47, 112] = false) : binOp .neq t (.string (y.extract (y.size - 2) y.size)) (.string ⟨#[47, 112]⟩) = pure (.bool true) := by
 rw [binOp_string_neq];refine congrArg (fun b => pure (Value.bool (!b))) (beq_eq_false_iff_ne.2 (fun e => ?_));have := (suf_iff h2).1 (e.trans (show (ByteArray.mk #[47, 112]).toList = [47, 112] from by kernel_rfl));rw [h] at this;cases this
def SInts (v1 v2 v3 : Value) (m m' : Mch) (ns : List Int) (w : World) (e : Ending) (w' : World) : Prop :=
 ∃ u1 u2 u3 a c, e = .returned (.tuple #[.agg #[u1, u2, u3], .slice a ns.length c]) ∧ MOut w.heap.size w' v1 v2 v3 m u1 u2 u3 m' ∧ Below w.heap.size w w' ∧ w'.ownsRow w.heap.size 3 1 (.slice a ns.length c) ns.length (ns.flatMap encI)
def Off (vo u : Value) (old : Prop) : Prop := old ∨ ∀ b, vo.ownBlock = some b → u.ownBlock ≠ some b
structure KL (w : World) (v1 v2 v3 : Value) (m : Mch) (a : Option Addr) (c : Nat) (ks : List ByteArray) (u1 u2 u3 : Value) (k : Mch) (W : World) (vo : Value) (ol : List Int) : Prop where
 l : SL w v1 v2 v3 m a c ks u1 u2 u3 k W
 o : W.ownsRow (w.heap.size + 2) 3 1 vo ol.length (ol.flatMap encI)
 n1 : Off vo u1 (u1 = v1 ∧ k.st = m.st)
 n2 : Off vo u2 (u2 = v2 ∧ k.rs = m.rs)
 n3 : Off vo u3 (u3 = v3 ∧ k.ws = m.ws)
 nk : ∀ b, vo.ownBlock = some b → (Value.slice a ks.length c).ownBlock ≠ some b
section
variable {w W W' : World} {v1 v2 v3 u1 u2 u3 x1 x2 x3 vo vo' : Value} {m k k2 : Mch} {c : Nat} {a : Option Addr} {ks : List ByteArray} {ol : List Int}
theorem KL.below (h : KL w v1 v2 v3 m a c ks u1 u2 u3 k W vo ol) (hb : Below W.heap.size W W') : KL w v1 v2 v3 m a c ks u1 u2 u3 k W' vo ol := ⟨h.l.below hb, ownsRow_below h.o hb, h.n1, h.n2, h.n3, h.nk⟩
theorem off_num {α : Type} {T K : Nat} {enc : α → List Value} {v0 v u : Value} {xs0 xs ys : List α} (hlt : ∀ b, vo.ownBlock = some b → b < W.heap.size) (h : Off vo v (v = v0 ∧ xs = xs0)) (h2 : Out W.heap.size W' T K enc v xs u ys) : Off vo u (u = v0 ∧ ys = xs0) := by
 rcases h2 with ⟨rfl, rfl⟩ | h2
 ·exact h
 ·refine .inr (fun b hb e => ?_);have h1 := (h2.lt b e).1;have h3 := hlt b hb;omega
theorem KL.num (h : KL w v1 v2 v3 m a c ks u1 u2 u3 k W vo ol) (hmo : MOut W.heap.size W' u1 u2 u3 k x1 x2 x3 k2) (hb : Below W.heap.size W W') : KL w v1 v2 v3 m a c ks x1 x2 x3 k2 (((W'.setCell ⟨w.heap.size, 0, none⟩ x1).setCell ⟨w.heap.size, 1, none⟩ x2).setCell ⟨w.heap.size, 2, none⟩ x3) vo ol := by
 have hlt : ∀ b, vo.ownBlock = some b → b < W.heap.size := fun b e => (h.o.lt b e).2;refine ⟨(h.l.below hb).put (hmo.base h.l.q.sz), own_set3 (ownsRow_below h.o hb) (by omega) _ _ _, off_num hlt h.n1 hmo.o1, off_num hlt h.n2 hmo.o2, off_num hlt h.n3 hmo.o3, h.nk⟩
theorem out_grown {α : Type} {B T K : Nat} {enc : α → List Value} {v0 v : Value} {xs0 xs : List α} (h : Out B W T K enc v0 xs0 v xs) (hg : W.grownBy W' vo.ownBlock) (hn : Off vo v (v = v0 ∧ xs = xs0)) : Out B W' T K enc v0 xs0 v xs := by
 rcases hn with hn | hn
 ·exact .inl hn
 ·rcases h with h | h
  ·exact .inl h
  ·refine .inr (h.kept hg ?_);cases hv : v.ownBlock with
   | none => exact .inl rfl
   | some b => exact .inr (fun e => hn b e.symm hv)
theorem box_grown {b : Nat} {xs : List Value} (h : Box W b xs) (hg : W.grownBy W' vo.ownBlock) (hn : vo.ownBlock ≠ some b) : Box W' b xs :=
 ⟨Nat.lt_of_lt_of_le h.1 hg.size, h.2.elim fun T hT => ⟨T, (hg.block b h.1 (fun e => hn e.symm)).trans hT⟩⟩
theorem off_new (hlt : ∀ b, u1.ownBlock = some b → b < W.heap.size) {p : Prop} (h : Off vo u1 p) (hor : OwnOr W vo vo') : Off vo' u1 p := by
 rcases h with h | h
 ·exact .inl h
 ·refine .inr (fun b hb e => ?_);rcases hor with ho | ho
  ·exact h b (by rw [← ho]; exact hb) e
  ·have := ho b hb;have := hlt b e;omega
theorem off_new2 {α : Type} {B T K : Nat} {enc : α → List Value} {v0 v : Value} {xs0 xs : List α} (h0 : Out B W T K enc v0 xs0 v xs) (h : Off vo v (v = v0 ∧ xs = xs0)) (hor : OwnOr W vo vo') : Off vo' v (v = v0 ∧ xs = xs0) := by
 rcases h0 with h0 | h0
 ·exact .inl h0
 ·exact off_new (fun b e => (h0.lt b e).2) h hor
theorem KL.app {ol2 : List Int} (h : KL w v1 v2 v3 m a c ks u1 u2 u3 k W vo ol) (hg : W.grownBy W' vo.ownBlock) (hor : OwnOr W vo vo') (ho : W'.ownsRow (w.heap.size + 2) 3 1 vo' ol2.length (ol2.flatMap encI)) : KL w v1 v2 v3 m a c ks u1 u2 u3 k W' vo' ol2 := by
 have hge : ∀ b, vo.ownBlock = some b → w.heap.size + 2 ≤ b := fun b e => (h.o.lt b e).1;have hb : Below w.heap.size w W' := below_of_own0 h.l.q.h.bel (ownsRow_base h.o (by omega)) hg;refine ⟨⟨⟨⟨box_grown h.l.q.h.x hg (fun e => by have := hge _ e; omega), hb, ⟨out_grown h.l.q.h.mo.o1 hg h.n1, out_grown h.l.q.h.mo.o2 hg h.n2, out_grown h.l.q.h.mo.o3 hg h.n3⟩⟩, box_grown h.l.q.p hg (fun e => by have := hge _ e; omega), h.l.q.r0⟩, h.l.ks.kept hg ?_⟩, ho, off_new2 h.l.q.h.mo.o1 h.n1 hor, off_new2 h.l.q.h.mo.o2 h.n2 hor, off_new2 h.l.q.h.mo.o3 h.n3 hor, ?_⟩
 ·cases hv : (Value.slice a ks.length c).ownBlock with
  | none => exact .inl rfl
  | some b => exact .inr (fun e => h.nk b e.symm hv)
 ·intro b hb2 e;rcases hor with h2 | h2
  ·exact h.nk b (by rw [← h2]; exact hb2) e
  ·have := h2 b hb2;have := (h.l.ks.lt b e).2;omega
end
theorem kid_off {α : Type} {B T K n : Nat} {W : World} {enc : α → List Value} {v0 v : Value} {xs0 xs : List α} (hs : W.heap.size = n) (h : Out B W T K enc v0 xs0 v xs) : Off (.slice (some ⟨n, 0, none⟩) 0 0) v (v = v0 ∧ xs = xs0) := by
 rcases h with h | h
 ·exact .inl h
 ·refine .inr (fun b e h2 => ?_);have := (h.lt b h2).2;simp [Value.ownBlock] at e;omega
set_option maxRecDepth 100000 in
theorem tKids_c (v1 v2 v3 : Value) (m m' : Mch) (x : List Int) (parent : Int) (w : World) (h : MRd w v1 v2 v3 m) (O0 : Hid (MOk 900000000000 m)) (HE : Hid ((kidsP parent).run m = (m', x))) :
 Calls prog 198 #[.agg #[v1, v2, v3], .int .i64 parent] w (SInts v1 v2 v3 m m' x w) := by
 obtain ⟨a1, q1, a2, q2, a3, q3, rfl, rfl, rfl, Q0⟩ := h.start;clear h;obtain ⟨i0, hi0, hzz⟩ := Option.map_eq_some_iff.1 infoInt;simp only [Prod.mk.injEq] at hzz;have HI := hid9 hi0;have HZ := hid9 hzz;clear hi0 hzz;go_enter func198, ntmps198;obtain ⟨m1, ks, HE1, O1⟩ := Pg.Cost.hop (underP (rHead)) (underP_cost _) O0;obtain ⟨hsz, hkn⟩ := under_sz O0.out HE1.out;have HSZ := hid9 hsz;clear hsz;have HPRE := hid9 (under_pre HE1.out);go_wp2_with fail;refine nxK  Q0 (tUnder_c _ _ _ _ _ _ (rHead) _ Q0.out.rd (O0.out.mono (by omega)) (by decide) HE1.out) fun x1_1 k1_1 x1_2 k1_2 x1_3 k1_3 a c w1 Q1 F1 => ?_;clear Q0;obtain ⟨m2, x2, HE2, O2⟩ := Pg.Cost.hop (kidsL parent ks []) ((kidsL_cost parent ks [])) O1;obtain ⟨rfl, rfl⟩ := leaf HE m2 (x2) (by rw [kidsP_eq]; simp only [pgz, ↓reduceIte, bz, HE1.out, HE2.out]);obtain ⟨WL, hWL⟩ : ∃ W, W = (((w1.setCell ⟨w.heap.size, 0, none⟩ (.slice x1_1 m1.st.length k1_1)).setCell ⟨w.heap.size, 1, none⟩ (.slice x1_2 m1.rs.length k1_2)).setCell ⟨w.heap.size, 2, none⟩ (.slice x1_3 m1.ws.length k1_3)) := ⟨_, rfl⟩;have QL := hid9 (show SL w (.slice a1 m.st.length q1) (.slice a2 m.rs.length q2) (.slice a3 m.ws.length q3) m a c ks (.slice x1_1 m1.st.length k1_1) (.slice x1_2 m1.rs.length k1_2) (.slice x1_3 m1.ws.length k1_3) m1 WL from by rw [hWL]; exact Q1.out);have hsw : WL.heap.size = w1.heap.size := by rw [hWL]; simp
 have hwl : w.heap.size + 2 ≤ WL.heap.size := QL.out.q.sz;have HO0 := hid9 (show (WL.alloc (.cells #[] 3)).ownsRow (w.heap.size + 2) 3 1 (.slice (some ⟨w1.heap.size, 0, none⟩) 0 0) 0 [] from ownsRow_base (by have h := own_empty0 WL 3 1; rw [hsw] at h ⊢; exact h) hwl);have K0 := hid9 (show KL w (.slice a1 m.st.length q1) (.slice a2 m.rs.length q2) (.slice a3 m.ws.length q3) m a c ks (.slice x1_1 m1.st.length k1_1) (.slice x1_2 m1.rs.length k1_2) (.slice x1_3 m1.ws.length k1_3) m1 (WL.alloc (.cells #[] 3)) (.slice (some ⟨w1.heap.size, 0, none⟩) 0 0) [] from ⟨QL.out.below bel9, HO0.out, kid_off hsw QL.out.h.mo.o1, kid_off hsw QL.out.h.mo.o2, kid_off hsw QL.out.h.mo.o3, fun b e h2 => by have := (QL.out.ks.lt b h2).2; simp [Value.ownBlock] at e; omega⟩);have HWL := hid9 hWL;clear Q1 QL hsw hwl HO0 hWL;go_wp2;rw [← HWL.out];go_loopw [7, 8] (fun v i wr => ∃ k : Nat, k ≤ ks.length ∧ i = .int .i64 k ∧ Hid (∃ y1 d1 y2 d2 y3 d3 mk ol, KL w (.slice a1 m.st.length q1) (.slice a2 m.rs.length q2) (.slice a3 m.ws.length q3) m a c ks (.slice y1 mk.st.length d1) (.slice y2 mk.rs.length d2) (.slice y3 mk.ws.length d3) mk wr v ol ∧ MOk (900000000001 + 1 * k) mk ∧ ol.length ≤ k ∧ (kidsL parent (ks.drop k) ol).run mk = (m2, x2))) (fun _ i _ => ks.length - (intOf i).toNat)
 case atStart => exact ⟨0, Nat.zero_le _, rfl, hid9 ⟨_, _, _, _, _, _, _, _, K0.out, O1.out.mono (by omega), Nat.le_refl _, HE2.out⟩⟩
 case round =>
  obtain ⟨k, hk, rfl, HI0⟩ := hrel;obtain ⟨y1, d1, y2, d2, y3, d3, mk, ol, hl, ho, hol, hr⟩ := HI0.out;have HL := hid9 hl;have HO := hid9 ho;have HR := hid9 hr;clear hl ho hr HI0 K0 F1;by_cases hlt : k < ks.length
  ·obtain ⟨y, hy⟩ := some_of_lt hlt;obtain ⟨b, off, hab⟩ := SL.at_ HL.out.l hy;subst hab;have p1 : (0 : Int) ≤ (k : Int) := by omega
   have p2 : (k : Int) < (ks.length : Int) := by omega
   have hys := HSZ.out y (List.mem_of_getElem? hy);have ky := SL.cell HL.out.l hy;have HY := hid9 hy;clear hy hlt;by_cases h5 : 5 ≤ y.size
   ·have g5 : ¬ (y.size : Int) < 5 := by omega
    have g6 : (2 : Int) ≤ (y.size : Int) := by omega
    have hw2 : IntKind.i64.wrap ((y.size : Int) - 2) = (y.size : Int) - 2 := by rw [IntKind.wrap_i64]; omega
    have g7 : (0 : Int) ≤ (y.size : Int) - 2 := by omega
    have g8 : ((y.size : Int) - 2).toNat = y.size - 2 := by omega
    cases hsf : Lib.hasSuffix y.data.toList [47, 112] with
    | false =>
     have hne : ∀ t, binOp .neq t (.string (y.extract (y.size - 2) y.size)) (.string ⟨#[47, 112]⟩) = pure (.bool true) := fun t => suf_no (by omega) hsf;have hkk : kidKey y = false := by unfold kidKey; rw [hsf, Bool.and_false]
     have HR2 := hid9 (show (kidsL parent (ks.drop (k + 1)) ol).run mk = (m2, x2) from by
      have h := HR.out;rw [drop_cons HY.out, kidsL_cons, hkk] at h;exact h)
     clear HR hsf hkk;go_wp2;go_roundw
     case rel => exact ⟨k + 1, by omega, by go_num, hid9 ⟨_, _, _, _, _, _, _, _, HL.out, HO.out.mono (by omega), by omega, HR2.out⟩⟩
     case measure => simp [intOf]; omega
    | true =>
     have hne : ∀ t, binOp .neq t (.string (y.extract (y.size - 2) y.size)) (.string ⟨#[47, 112]⟩) = pure (.bool false) := fun t => suf_yes (by omega) hsf;have hkk : kidKey y = true := by unfold kidKey; rw [hsf, decide_eq_true h5]; rfl
     obtain ⟨n1, up, F1⟩ : ∃ aa bb, (numP y).run mk = (aa, bb) := ⟨_, _, rfl⟩;have bup := numP_bounds F1;have P1 := hid9 ((numP_cost _).okE HO.out F1);have HF1 := hid9 F1;have KN := hid9 (tNum_c (.slice y1 mk.st.length d1) (.slice y2 mk.rs.length d2) (.slice y3 mk.ws.length d3) mk n1 up y wr HL.out.l.rd (HO.out.mono (by omega)) F1);have hr := HR.out;rw [drop_cons HY.out, kidsL_cons, hkk, if_pos rfl, Pg.run_bind, F1] at hr;have HR1 := hid9 hr;clear HR hsf hkk hr F1;have eh0 := (SL.h HL.out.l).x.cell 0 _ rfl;have eh1 := (SL.h HL.out.l).x.cell 1 _ rfl;have eh2 := (SL.h HL.out.l).x.cell 2 _ rfl;have zh0 := (SL.h HL.out.l).x.free 0;have zh1 := (SL.h HL.out.l).x.free 1;have zh2 := (SL.h HL.out.l).x.free 2;go_wp2_with fail;refine KN.out.mono ?_;rintro e wn ⟨r1, r2, r3, rfl, hmo, hb⟩;obtain ⟨z1, f1, z2, f2, z3, f3, rfl, rfl, rfl⟩ := hmo.openS HL.out.l.rd hb;clear eh0 eh1 eh2 zh0 zh1 zh2;have en0 := (SL.h (HL.out.l.below hb)).x.cell 0 _ rfl;have en1 := (SL.h (HL.out.l.below hb)).x.cell 1 _ rfl;have en2 := (SL.h (HL.out.l.below hb)).x.cell 2 _ rfl;have zn0 := (SL.h (HL.out.l.below hb)).x.free 0;have zn1 := (SL.h (HL.out.l.below hb)).x.free 1;have zn2 := (SL.h (HL.out.l.below hb)).x.free 2;have KA0 := hid9 (HL.out.num hmo hb);clear HL hmo hb KN HO ky;by_cases hup : up = parent
     ·subst hup;rw [if_pos rfl] at HR1;obtain ⟨dv, hdv⟩ : ∃ dv, numOfV (y.extract 2 (y.size - 2)) = dv := ⟨_, rfl⟩;have bdv := numOf_bounds (y.extract 2 (y.size - 2));have KNU := hid9 (fun W => specNumOf_c (y.extract 2 (y.size - 2)) W);rw [hdv] at bdv KNU;have HR2 := HR1;rw [hdv] at HR2;clear HR1 hdv;have g9 : (2 : Int) ≤ (y.size : Int) - 2 := by omega
      have g10 : (y.size : Int) - 2 ≤ (y.size : Int) := by omega
      have g11 : 2 ≤ y.size - 2 := by omega
      go_wp2_with fail;refine (KNU.out _).mono ?_;rintro e wk ⟨rfl, hbk⟩;have KA := hid9 (KA0.out.below hbk);have hszk := KA.out.l.q.sz;clear KA0 KNU hbk en0 en1 en2 zn0 zn1 zn2;go_wp2_with (at_builtin; refine wpList_append_own2 _ rfl _ _ 24 rfl (w.heap.size + 2) 3 i0 _ 1 8 underlying24 HI.out HZ.out.1 HZ.out.2.1 HZ.out.2.2 rfl (by decide) _ _ _ rfl (KA.out.o.alloc _) ⟨wk.heap.size, 0, none⟩ 1 1 [.int .i64 dv] rfl rfl (box_news (Box.new _ _ _)) (by intro u hu; simp at hu; subst hu; rfl) (by unfold maxLen; omega) (by omega) (by simp; omega) ?_);intro v' w' o2 g2 or2;have HL := hid9 (KL.app (ol2 := ol ++ [dv]) (KA.out.below (show Below wk.heap.size wk (wk.alloc (.cells #[.int .i64 dv] 3)) from bel9)) g2 or2 (by rw [List.length_append, List.flatMap_append]; exact o2));have HO := P1;clear o2 g2 or2 KA P1;go_wp2;go_roundw
      case rel => exact ⟨k + 1, by omega, by go_num, hid9 ⟨_, _, _, _, _, _, _, _, HL.out, HO.out.mono (by omega), by rw [List.length_append]; simp; omega, HR2.out⟩⟩
      case measure => simp [intOf]; omega
     ·rw [if_neg hup] at HR1;have HR2 := HR1;have HL := KA0;have HO := P1;clear HR1 KA0 P1;go_wp2;go_roundw
      case rel => exact ⟨k + 1, by omega, by go_num, hid9 ⟨_, _, _, _, _, _, _, _, HL.out, HO.out.mono (by omega), by omega, HR2.out⟩⟩
      case measure => simp [intOf]; omega
   ·have g5 : (y.size : Int) < 5 := by omega
    have hkk : kidKey y = false := by unfold kidKey; rw [decide_eq_false h5]; rfl
    have HR2 := hid9 (show (kidsL parent (ks.drop (k + 1)) ol).run mk = (m2, x2) from by
     have h := HR.out;rw [drop_cons HY.out, kidsL_cons, hkk] at h;exact h)
    clear HR hkk;go_wp2;go_roundw
    case rel => exact ⟨k + 1, by omega, by go_num, hid9 ⟨_, _, _, _, _, _, _, _, HL.out, HO.out.mono (by omega), by omega, HR2.out⟩⟩
    case measure => simp [intOf]; omega
  ·obtain rfl : k = ks.length := by omega
   have p2 : ¬ ((ks.length : Nat) : Int) < (ks.length : Int) := by omega
   have hr := HR.out;rw [List.drop_length] at hr;obtain ⟨e1, e2⟩ := Prod.mk.inj (show (m2, x2) = (mk, ol) from hr.symm);subst e1 e2;obtain ⟨ao, co, hvo, _⟩ := reads_of_owns (enc := encI) (K := 1) (fun _ => rfl) HL.out.o;subst hvo;have HL2 := hid9 HL.out.l;have HW9 := hid9 HL.out.o;clear HL HR hr;have eh0 := (SL.h HL2.out).x.cell 0 _ rfl;have eh1 := (SL.h HL2.out).x.cell 1 _ rfl;have eh2 := (SL.h HL2.out).x.cell 2 _ rfl;have zh0 := (SL.h HL2.out).x.free 0;have zh1 := (SL.h HL2.out).x.free 1;have zh2 := (SL.h HL2.out).x.free 2;have pc0 := (SL.p HL2.out).cell 0 _ rfl;have pc1 := (SL.p HL2.out).cell 1 _ rfl;have pc2 := (SL.p HL2.out).cell 2 _ rfl;have pf0 := (SL.p HL2.out).free 0;have pf1 := (SL.p HL2.out).free 1;have pf2 := (SL.p HL2.out).free 2;have SE := hid9 ((((SL.h HL2.out).set (b := w.heap.size + 1) (by omega) (by omega) (by omega) 0 (.slice y1 m2.st.length d1)).set (b := w.heap.size + 1) (by omega) (by omega) (by omega) 1 (.slice y2 m2.rs.length d2)).set (b := w.heap.size + 1) (by omega) (by omega) (by omega) 2 (.slice y3 m2.ws.length d3));have SO := hid9 (own_set3 HW9.out (show w.heap.size + 1 < w.heap.size + 2 by omega) (.slice y1 m2.st.length d1) (.slice y2 m2.rs.length d2) (.slice y3 m2.ws.length d3));clear HL2 HW9;go_wp2;exact bodyPost_ret (v := .tuple #[.agg #[.slice y1 m2.st.length d1, .slice y2 m2.rs.length d2, .slice y3 m2.ws.length d3], .slice ao x2.length co]) (by simp [results, results198, go_sem, *]) rfl ⟨_, _, _, _, _, rfl, SE.out.mo.base (by omega), SE.out.bel, ownsRow_base SO.out (by omega)⟩
end
section
open Go.ChangeShapes Go.WideShapes Go.ChangeAt Go.RowKit
structure KQ (w : World) (v1 v2 v3 : Value) (m : Mch) (u1 u2 u3 : Value) (k : Mch) (W : World) (vo : Value) (ol : List UInt8) : Prop where
 l : SQ w v1 v2 v3 m u1 u2 u3 k W
 o : W.ownsRow (w.heap.size + 2) 5 1 vo ol.length (ol.flatMap encB)
 n1 : Off vo u1 (u1 = v1 ∧ k.st = m.st)
 n2 : Off vo u2 (u2 = v2 ∧ k.rs = m.rs)
 n3 : Off vo u3 (u3 = v3 ∧ k.ws = m.ws)
section
variable {w W W' : World} {v1 v2 v3 u1 u2 u3 x1 x2 x3 vo vo' : Value} {m k k2 : Mch} {ol : List UInt8}
theorem KQ.below (h : KQ w v1 v2 v3 m u1 u2 u3 k W vo ol) (hb : Below W.heap.size W W') : KQ w v1 v2 v3 m u1 u2 u3 k W' vo ol := ⟨h.l.below hb, ownsRow_below h.o hb, h.n1, h.n2, h.n3⟩
theorem KQ.num (h : KQ w v1 v2 v3 m u1 u2 u3 k W vo ol) (hmo : MOut W.heap.size W' u1 u2 u3 k x1 x2 x3 k2) (hb : Below W.heap.size W W') : KQ w v1 v2 v3 m x1 x2 x3 k2 (((W'.setCell ⟨w.heap.size, 0, none⟩ x1).setCell ⟨w.heap.size, 1, none⟩ x2).setCell ⟨w.heap.size, 2, none⟩ x3) vo ol := by
 have hlt : ∀ b, vo.ownBlock = some b → b < W.heap.size := fun b e => (h.o.lt b e).2;refine ⟨(h.l.below hb).put (hmo.base h.l.sz), own_set3 (ownsRow_below h.o hb) (by omega) _ _ _, off_num hlt h.n1 hmo.o1, off_num hlt h.n2 hmo.o2, off_num hlt h.n3 hmo.o3⟩
theorem KQ.app {ol2 : List UInt8} (h : KQ w v1 v2 v3 m u1 u2 u3 k W vo ol) (hg : W.grownBy W' vo.ownBlock) (hor : OwnOr W vo vo') (ho : W'.ownsRow (w.heap.size + 2) 5 1 vo' ol2.length (ol2.flatMap encB)) : KQ w v1 v2 v3 m u1 u2 u3 k W' vo' ol2 := by
 have hge : ∀ b, vo.ownBlock = some b → w.heap.size + 2 ≤ b := fun b e => (h.o.lt b e).1;have hb : Below w.heap.size w W' := below_of_own0 h.l.h.bel (ownsRow_base h.o (by omega)) hg;exact ⟨⟨⟨box_grown h.l.h.x hg (fun e => by have := hge _ e; omega), hb, ⟨out_grown h.l.h.mo.o1 hg h.n1, out_grown h.l.h.mo.o2 hg h.n2, out_grown h.l.h.mo.o3 hg h.n3⟩⟩, box_grown h.l.p hg (fun e => by have := hge _ e; omega), h.l.r0⟩, ho, off_new2 h.l.h.mo.o1 h.n1 hor, off_new2 h.l.h.mo.o2 h.n2 hor, off_new2 h.l.h.mo.o3 h.n3 hor⟩
end
def pieceL (b : ByteArray) (p a e : Int) (k : Nat) : List UInt8 := (b.data.toList.take (min (min (e - p * 8) (min 8 b.size)).toNat k)).drop (max (a - p * 8) 0).toNat
theorem piece_zero (b : ByteArray) (p a e : Int) : pieceL b p a e 0 = [] := by unfold pieceL; simp
theorem piece_in {b : ByteArray} {p a e : Int} {k : Nat} (h8 : k < 8) (hk : k < b.size) (ha : a ≤ p * 8 + k) (he : p * 8 + k < e) : pieceL b p a e (k + 1) = pieceL b p a e k ++ [b[k]] := by
 unfold pieceL;have h1 : min (min (e - p * 8) (min 8 b.size)).toNat (k + 1) = k + 1 := by omega
 have h2 : min (min (e - p * 8) (min 8 b.size)).toNat k = k := by omega
 rw [h1, h2];have hl : b.data.toList.length = b.size := Array.length_toList;have h3 : b.data.toList.take (k + 1) = b.data.toList.take k ++ [b[k]] := by
  rw [List.take_succ_eq_append_getElem (by rw [hl]; exact hk)];rfl
 rw [h3, List.drop_append_of_le_length (by rw [List.length_take, hl]; omega)]
theorem piece_out {b : ByteArray} {p a e : Int} {k : Nat} (h : ¬ (a ≤ p * 8 + k ∧ p * 8 + k < e)) : pieceL b p a e (k + 1) = pieceL b p a e k := by
 unfold pieceL;by_cases ha : a ≤ p * 8 + k
 ·have he : ¬ p * 8 + k < e := fun h2 => h ⟨ha, h2⟩;have h1 : min (min (e - p * 8) (min 8 b.size)).toNat (k + 1) = min (min (e - p * 8) (min 8 b.size)).toNat k := by omega
  rw [h1]
 ·have h1 : k + 1 ≤ (max (a - p * 8) 0).toNat := by omega
  rw [List.drop_eq_nil_of_le (by rw [List.length_take]; omega), List.drop_eq_nil_of_le (by rw [List.length_take]; omega)]
theorem piece_end {b : ByteArray} {p a e : Int} {k : Nat} (acc : List UInt8) (h : ¬ (k < 8 ∧ k < b.size)) : (⟨acc.toArray⟩ ++ pieceOf b p a e : ByteArray) = ⟨(acc ++ pieceL b p a e k).toArray⟩ := by
 apply ByteArray.ext;apply Array.toList_inj.1;unfold pieceOf pieceL;have hl : b.data.toList.length = b.size := Array.length_toList;have h1 : (b.data.toList.take (min (min (e - p * 8) (min 8 b.size)).toNat k)) = b.data.toList.take (min (e - p * 8) (min 8 b.size)).toNat := by
  congr 1;omega
 rw [h1, List.drop_take];simp [ByteArray.data_append, ByteArray.data_extract]
theorem piece_len {b : ByteArray} {p a e : Int} {k : Nat} (hk : k ≤ 8) : (pieceL b p a e k).length ≤ 8 := by
 unfold pieceL;rw [List.length_drop, List.length_take];omega
end
section
open Go.ChangeShapes Go.WideShapes Go.ChangeAt Go.RowKit
attribute [local go_sem ↓] Go.wp_at_zero Go.wp_at_succ
set_option maxRecDepth 100000 in
theorem tRead_c (v1 v2 v3 : Value) (m m' : Mch) (x : ByteArray) (id : Int) (at_ : Int) (n : Int) (w : World) (h : MRd w v1 v2 v3 m) (O0 : Hid (MOk 900000000000 m)) (hn : I64 id) (HE : Hid ((readP id at_ n).run m = (m', x))) :
 Calls prog 180 #[.agg #[v1, v2, v3], .int .i64 id, .int .i64 at_, .int .i64 n] w (SRet v1 v2 v3 m m' (.string x) w) := by
 obtain ⟨a1, q1, a2, q2, a3, q3, rfl, rfl, rfl, Q0⟩ := h.start;clear h;obtain ⟨i0, hi0, hzz⟩ := Option.map_eq_some_iff.1 infoByte;simp only [Prod.mk.injEq] at hzz;have HI := hid9 hi0;have HZ := hid9 hzz;clear hi0 hzz;go_enter func180, ntmps180;have hfu := fuelN_is;obtain ⟨m1, x1, HE1, O1⟩ := Pg.Cost.hop (numP (sizeK id)) (numP_cost _) O0;have bx1 := numP_bounds HE1.out;go_wp2_with fail;refine nx2 SQ.fr Q0 (tSizeFile_c _ _ _ _ _ _ id _ Q0.out.rd (O0.out.mono (by omega)) hn HE1.out) fun x1_1 k1_1 x1_2 k1_2 x1_3 k1_3 w1 Q1 F1 => ?_;clear Q0;by_cases c1 : at_ < 0
 ·obtain ⟨rfl, rfl⟩ := leaf HE m1 (noB) (by rw [readP_eq]; simp only [pgz, ↓reduceIte, bz, HE1.out, (show at_ < 0 from by first | exact c1 | omega | simpa using c1)]);go_wp2;exact rt2 SQ.fr Q1 (by simp [results, results180, go_sem, noB, *])
 ·by_cases c2 : n < 1
  ·obtain ⟨rfl, rfl⟩ := leaf HE m1 (noB) (by rw [readP_eq]; simp only [pgz, ↓reduceIte, bz, HE1.out, (show ¬ (at_ < 0) from by first | exact c1 | omega | simpa using c1), (show n < 1 from by first | exact c2 | omega | simpa using c2)]);go_wp2;exact rt2 SQ.fr Q1 (by simp [results, results180, go_sem, noB, *])
  ·by_cases c3 : x1 ≤ at_
   ·obtain ⟨rfl, rfl⟩ := leaf HE m1 (noB) (by rw [readP_eq]; simp only [pgz, ↓reduceIte, bz, HE1.out, (show ¬ (at_ < 0) from by first | exact c1 | omega | simpa using c1), (show ¬ (n < 1) from by first | exact c2 | omega | simpa using c2), (show x1 ≤ at_ from by first | exact c3 | omega | simpa using c3)]);go_wp2;exact rt2 SQ.fr Q1 (by simp [results, results180, go_sem, noB, *])
   ·have hwd : IntKind.i64.wrap (at_.tdiv 8) = at_ / 8 := by rw [IntKind.wrap_i64, Int.tdiv_eq_ediv_of_nonneg (by omega)]; omega
    have hws : IntKind.i64.wrap (x1 - at_) = x1 - at_ := by rw [IntKind.wrap_i64]; omega
    by_cases c4 : n < x1 - at_
    ·have hwe : IntKind.i64.wrap (at_ + n) = at_ + n := by rw [IntKind.wrap_i64]; omega
     have HEE := hid9 (show at_ + min n (x1 - at_) = at_ + n by omega);obtain ⟨m2, x2, HE2, O2⟩ := Pg.Cost.hop (readL id at_ (at_ + n) fuelN (at_ / 8) noB) ((readL_cost _ _ _ _ _ _)) O1;obtain ⟨rfl, rfl⟩ := leaf HE m2 (x2) (by rw [readP_eq]; simp only [pgz, ↓reduceIte, bz, HE1.out, (show ¬ (at_ < 0) from by first | exact c1 | omega | simpa using c1), (show ¬ (n < 1) from by first | exact c2 | omega | simpa using c2), (show ¬ (x1 ≤ at_) from by first | exact c3 | omega | simpa using c3), (show n < x1 - at_ from by first | exact c4 | omega | simpa using c4), HEE.out, HE2.out]);obtain ⟨WL, hWL⟩ : ∃ W, W = (((w1.setCell ⟨w.heap.size, 0, none⟩ (.slice x1_1 m1.st.length k1_1)).setCell ⟨w.heap.size, 1, none⟩ (.slice x1_2 m1.rs.length k1_2)).setCell ⟨w.heap.size, 2, none⟩ (.slice x1_3 m1.ws.length k1_3)) := ⟨_, rfl⟩;have QL := hid9 (show SQ w (.slice a1 m.st.length q1) (.slice a2 m.rs.length q2) (.slice a3 m.ws.length q3) m (.slice x1_1 m1.st.length k1_1) (.slice x1_2 m1.rs.length k1_2) (.slice x1_3 m1.ws.length k1_3) m1 WL from by rw [hWL]; exact Q1.out);have hsw : WL.heap.size = w1.heap.size := by rw [hWL]; simp
     have hwl : w.heap.size + 2 ≤ WL.heap.size := QL.out.sz;have HO0 := hid9 (show (WL.alloc (.cells #[] 5)).ownsRow (w.heap.size + 2) 5 1 (.slice (some ⟨w1.heap.size, 0, none⟩) 0 0) 0 [] from ownsRow_base (by have h := own_empty0 WL 5 1; rw [hsw] at h ⊢; exact h) hwl);have K0 := hid9 (show KQ w (.slice a1 m.st.length q1) (.slice a2 m.rs.length q2) (.slice a3 m.ws.length q3) m (.slice x1_1 m1.st.length k1_1) (.slice x1_2 m1.rs.length k1_2) (.slice x1_3 m1.ws.length k1_3) m1 (WL.alloc (.cells #[] 5)) (.slice (some ⟨w1.heap.size, 0, none⟩) 0 0) [] from ⟨QL.out.below bel9, HO0.out, kid_off hsw QL.out.h.mo.o1, kid_off hsw QL.out.h.mo.o2, kid_off hsw QL.out.h.mo.o3⟩);have HWL := hid9 hWL;clear Q1 QL hsw hwl HO0 hWL;go_wp2;rw [← HWL.out];go_loopw [12, 13] (fun v vp wr => ∃ p : Int, ∃ f : Nat, ∃ acc : List UInt8, vp = .int .i64 p ∧ Hid (∃ y1 d1 y2 d2 y3 d3 mk, KQ w (.slice a1 m.st.length q1) (.slice a2 m.rs.length q2) (.slice a3 m.ws.length q3) m (.slice y1 mk.st.length d1) (.slice y2 mk.rs.length d2) (.slice y3 mk.ws.length d3) mk wr v acc ∧ MOk (900000000001 + p.toNat) mk ∧ at_ / 8 ≤ p ∧ p ≤ 1000 ∧ (at_ + n) ≤ (p + f) * 8 ∧ acc.length ≤ 8 * p.toNat ∧ (readL id at_ (at_ + n) f p ⟨acc.toArray⟩).run mk = (m2, x2))) (fun _ i _ => (1001 - intOf i).toNat)
     case atStart => exact ⟨at_ / 8, fuelN, [], rfl, hid9 ⟨_, _, _, _, _, _, _, K0.out, O1.out.mono (by omega), Int.le_refl _, by omega, by omega, Nat.zero_le _, HE2.out⟩⟩
     case round =>
      obtain ⟨p, f, acc, rfl, HI0⟩ := hrel;obtain ⟨y1, d1, y2, d2, y3, d3, mk, hl, ho, hp0, hp1, hp2, hacc, hr⟩ := HI0.out;have HL := hid9 hl;have HO := hid9 ho;have HR := hid9 hr;clear hl ho hr HI0 K0 F1;have hwp : IntKind.i64.wrap (p * 8) = p * 8 := by rw [IntKind.wrap_i64]; omega
      have hwp1 : IntKind.i64.wrap (p + 1) = p + 1 := by rw [IntKind.wrap_i64]; omega
      by_cases hc : p * 8 < (at_ + n)
      ·obtain ⟨g, rfl⟩ : ∃ g, f = g + 1 := ⟨f - 1, by omega⟩;have hpi : I64 p := ⟨by omega, by omega⟩;obtain ⟨n1, bx, F1⟩ : ∃ aa bb, (blockP id p).run mk = (aa, bb) := ⟨_, _, rfl⟩;have sbx := block_sz HO.out F1;have P1 := hid9 ((blockP_cost _ _).okE HO.out F1);have KN := hid9 (tBlock_c (.slice y1 mk.st.length d1) (.slice y2 mk.rs.length d2) (.slice y3 mk.ws.length d3) mk n1 bx id p wr HL.out.l.rd (HO.out.mono (by omega)) hn hpi F1);have hr := HR.out;rw [readL_yes hc, Pg.run_bind, F1] at hr;have HR1 := hid9 hr;clear HR hr F1;have eh0 := HL.out.l.h.x.cell 0 _ rfl;have eh1 := HL.out.l.h.x.cell 1 _ rfl;have eh2 := HL.out.l.h.x.cell 2 _ rfl;have zh0 := HL.out.l.h.x.free 0;have zh1 := HL.out.l.h.x.free 1;have zh2 := HL.out.l.h.x.free 2;go_wp2_with fail;refine KN.out.mono ?_;rintro ee wn ⟨r1, r2, r3, rfl, hmo, hb⟩;obtain ⟨z1, f1, z2, f2, z3, f3, rfl, rfl, rfl⟩ := hmo.openS HL.out.l.rd hb;clear eh0 eh1 eh2 zh0 zh1 zh2;have en0 := (HL.out.l.below hb).h.x.cell 0 _ rfl;have en1 := (HL.out.l.below hb).h.x.cell 1 _ rfl;have en2 := (HL.out.l.below hb).h.x.cell 2 _ rfl;have zn0 := (HL.out.l.below hb).h.x.free 0;have zn1 := (HL.out.l.below hb).h.x.free 1;have zn2 := (HL.out.l.below hb).h.x.free 2;have KA0 := hid9 (HL.out.num hmo hb);clear HL hmo hb KN HO;go_wp2;go_loopw [12, 15] (fun v i wr => ∃ k : Nat, k ≤ 8 ∧ k ≤ bx.size ∧ i = .int .i64 k ∧ Hid (KQ w (.slice a1 m.st.length q1) (.slice a2 m.rs.length q2) (.slice a3 m.ws.length q3) m (.slice z1 n1.st.length f1) (.slice z2 n1.rs.length f2) (.slice z3 n1.ws.length f3) n1 wr v (acc ++ pieceL bx p at_ (at_ + n) k))) (fun _ i _ => 8 - (intOf i).toNat)
       case atStart => exact ⟨0, by omega, by omega, rfl, hid9 (by rw [piece_zero, List.append_nil]; exact KA0.out)⟩
       case round =>
        obtain ⟨k, hk8, hkb, rfl, HK⟩ := hrel;clear en0 en1 en2 zn0 zn1 zn2 KA0;have hwk : IntKind.i64.wrap (p * 8 + (k : Int)) = p * 8 + k := by rw [IntKind.wrap_i64]; omega
        have hwk1 : IntKind.i64.wrap ((k : Int) + 1) = (k : Int) + 1 := by rw [IntKind.wrap_i64]; omega
        have pk : (0 : Int) ≤ (k : Int) := by omega
        have hpl := piece_len (b := bx) (p := p) (a := at_) (e := (at_ + n)) hk8;by_cases hs1 : k < bx.size
        ·have t1 : (k : Int) < (bx.size : Int) := by omega
         by_cases hs2 : k < 8
         ·have t2 : (k : Int) < 8 := by omega
          by_cases ha : at_ ≤ p * 8 + k
          ·by_cases hb2 : p * 8 + k < (at_ + n)
           ·have hsz := HK.out.l.sz;have hlen : (acc ++ pieceL bx p at_ (at_ + n) k).length ≤ 9000 := by rw [List.length_append]; omega
            go_wp2_with (at_builtin; refine wpList_append_own2 _ rfl _ _ 22 rfl (w.heap.size + 2) 5 i0 _ 1 1 underlying22 HI.out HZ.out.1 HZ.out.2.1 HZ.out.2.2 rfl (by decide) _ _ _ rfl (HK.out.o.alloc _) ⟨wr.heap.size, 0, none⟩ 1 1 [.int .u8 (bx[k].toNat : Int)] rfl rfl (box_news (Box.new _ _ _)) (by intro u hu; simp at hu; subst hu; rfl) (by unfold maxLen; omega) (by omega) (by simp; omega) ?_);intro v' w' o2 g2 or2;have HK4 := hid9 (show KQ w (.slice a1 m.st.length q1) (.slice a2 m.rs.length q2) (.slice a3 m.ws.length q3) m (.slice z1 n1.st.length f1) (.slice z2 n1.rs.length f2) (.slice z3 n1.ws.length f3) n1 w' v' (acc ++ pieceL bx p at_ (at_ + n) (k + 1)) from KQ.app (HK.out.below (show Below wr.heap.size wr (wr.alloc (.cells #[.int .u8 (bx[k].toNat : Int)] 5)) from bel9)) g2 or2 (by rw [piece_in hs2 hs1 ha hb2, ← List.append_assoc, List.length_append, List.flatMap_append]; simpa [List.append_assoc, encB, Nat.add_assoc] using o2));clear o2 g2 or2 HK;go_wp2;go_roundw
            case rel => exact ⟨k + 1, by omega, by omega, by go_num, HK4⟩
            case measure => simp [intOf]; omega
           ·have hno : ¬ (at_ ≤ p * 8 + k ∧ p * 8 + k < (at_ + n)) := fun h => hb2 h.2;have HK4 := hid9 (show KQ w (.slice a1 m.st.length q1) (.slice a2 m.rs.length q2) (.slice a3 m.ws.length q3) m (.slice z1 n1.st.length f1) (.slice z2 n1.rs.length f2) (.slice z3 n1.ws.length f3) n1 wr u12 (acc ++ pieceL bx p at_ (at_ + n) (k + 1)) from by rw [piece_out hno]; exact HK.out);clear HK;go_wp2;go_roundw
            case rel => exact ⟨k + 1, by omega, by omega, by go_num, HK4⟩
            case measure => simp [intOf]; omega
          ·have hno : ¬ (at_ ≤ p * 8 + k ∧ p * 8 + k < (at_ + n)) := fun h => ha h.1;have HK4 := hid9 (show KQ w (.slice a1 m.st.length q1) (.slice a2 m.rs.length q2) (.slice a3 m.ws.length q3) m (.slice z1 n1.st.length f1) (.slice z2 n1.rs.length f2) (.slice z3 n1.ws.length f3) n1 wr u12 (acc ++ pieceL bx p at_ (at_ + n) (k + 1)) from by rw [piece_out hno]; exact HK.out);clear HK;go_wp2;go_roundw
           case rel => exact ⟨k + 1, by omega, by omega, by go_num, HK4⟩
           case measure => simp [intOf]; omega
         ·have t2 : ¬ (k : Int) < 8 := by omega
          have HK4 := hid9 HK.out;have HR2 := hid9 (show (readL id at_ (at_ + n) g (p + 1) ⟨(acc ++ pieceL bx p at_ (at_ + n) k).toArray⟩).run n1 = (m2, x2) from by rw [← piece_end acc (k := k) (by omega)]; exact HR1.out);clear HK HR1;go_wp2;go_roundw
          case rel => exact ⟨p + 1, g, _, by first | rfl | go_num, hid9 ⟨_, _, _, _, _, _, _, HK4.out, P1.out.mono (by omega), by omega, by omega, by omega, by rw [List.length_append]; omega, HR2.out⟩⟩
          case measure => simp [intOf]; omega
        ·have t1 : ¬ (k : Int) < (bx.size : Int) := by omega
         have HK4 := hid9 HK.out;have HR2 := hid9 (show (readL id at_ (at_ + n) g (p + 1) ⟨(acc ++ pieceL bx p at_ (at_ + n) k).toArray⟩).run n1 = (m2, x2) from by rw [← piece_end acc (k := k) (by omega)]; exact HR1.out);clear HK HR1;go_wp2;go_roundw
         case rel => exact ⟨p + 1, g, _, by first | rfl | go_num, hid9 ⟨_, _, _, _, _, _, _, HK4.out, P1.out.mono (by omega), by omega, by omega, by omega, by rw [List.length_append]; omega, HR2.out⟩⟩
         case measure => simp [intOf]; omega
      ·have hr := HR.out;rw [readL_end hc] at hr;obtain ⟨e1, e2⟩ := Prod.mk.inj (show (m2, x2) = (mk, (⟨acc.toArray⟩ : ByteArray)) from hr.symm);subst e1 e2;clear HR hr;have cr0 : ∀ W, SH w w.heap.size (w.heap.size + 2) (.slice a1 m.st.length q1) (.slice a2 m.rs.length q2) (.slice a3 m.ws.length q3) m (.slice y1 m2.st.length d1) (.slice y2 m2.rs.length d2) (.slice y3 m2.ws.length d3) m2 W ∧ W.ownsRow (w.heap.size + 2) 5 1 u12 acc.length (acc.flatMap encB) → W.cell? ⟨w.heap.size, 0, none⟩ = some (.slice y1 m2.st.length d1) := fun W h => h.1.x.cell 0 _ rfl;have cr1 : ∀ W, SH w w.heap.size (w.heap.size + 2) (.slice a1 m.st.length q1) (.slice a2 m.rs.length q2) (.slice a3 m.ws.length q3) m (.slice y1 m2.st.length d1) (.slice y2 m2.rs.length d2) (.slice y3 m2.ws.length d3) m2 W ∧ W.ownsRow (w.heap.size + 2) 5 1 u12 acc.length (acc.flatMap encB) → W.cell? ⟨w.heap.size, 1, none⟩ = some (.slice y2 m2.rs.length d2) := fun W h => h.1.x.cell 1 _ rfl;have cr2 : ∀ W, SH w w.heap.size (w.heap.size + 2) (.slice a1 m.st.length q1) (.slice a2 m.rs.length q2) (.slice a3 m.ws.length q3) m (.slice y1 m2.st.length d1) (.slice y2 m2.rs.length d2) (.slice y3 m2.ws.length d3) m2 W ∧ W.ownsRow (w.heap.size + 2) 5 1 u12 acc.length (acc.flatMap encB) → W.cell? ⟨w.heap.size, 2, none⟩ = some (.slice y3 m2.ws.length d3) := fun W h => h.1.x.cell 2 _ rfl;have cnv : ∀ W, SH w w.heap.size (w.heap.size + 2) (.slice a1 m.st.length q1) (.slice a2 m.rs.length q2) (.slice a3 m.ws.length q3) m (.slice y1 m2.st.length d1) (.slice y2 m2.rs.length d2) (.slice y3 m2.ws.length d3) m2 W ∧ W.ownsRow (w.heap.size + 2) 5 1 u12 acc.length (acc.flatMap encB) → (convert 22 9 u12).run prog W = .ok (.string ⟨acc.toArray⟩) W := fun W h => convB W _ 0 _ acc _ rfl h.2;go_wp2;refine wp_region_Y (fun w' => SH w w.heap.size (w.heap.size + 2) (.slice a1 m.st.length q1) (.slice a2 m.rs.length q2) (.slice a3 m.ws.length q3) m (.slice y1 m2.st.length d1) (.slice y2 m2.rs.length d2) (.slice y3 m2.ws.length d3) m2 w' ∧ w'.ownsRow (w.heap.size + 2) 5 1 u12 acc.length (acc.flatMap encB)) [] (by kernel_rfl) ?_ (fun hS => ?_)
       ·exact ⟨(HL.out.below bel9).l.h, (HL.out.below bel9).o⟩
       refine wpAnyY_load (i := 0) (oi := _) (v := ?_) 12 rfl (by kernel_rfl) (by kernel_rfl) (by kernel_rfl) (by kernel_rfl) (fun _ _ _ h => h) (Or.inl ⟨by rfl, ?_⟩) hS (fun hS => ?_)
       rotate_left
       ·(intro w hSw; (try dsimp only at hSw); go_simp); all_goals with_reducible rfl
       try simp only [Act.put, List.getElem_toArray, List.getElem_cons_zero, List.getElem_cons_succ, List.setIfInBounds_toArray, List.set_cons_zero, List.set_cons_succ]
       refine wpAnyY_pure (i := 1) (oi := _) (v := ?_) rfl (by kernel_rfl) (by kernel_rfl) (by kernel_rfl) (by kernel_rfl) (fun _ _ _ h => h) (Or.inl ⟨by rfl, ?_⟩) (Or.inr hS) ?_
       rotate_left
       ·(intro w hSw; (try dsimp only at hSw); go_simp); all_goals with_reducible rfl
       try simp only [Act.put, List.getElem_toArray, List.getElem_cons_zero, List.getElem_cons_succ, List.setIfInBounds_toArray, List.set_cons_zero, List.set_cons_succ]
       refine wpAnyY_load (i := 2) (oi := _) (v := ?_) 12 rfl (by kernel_rfl) (by kernel_rfl) (by kernel_rfl) (by kernel_rfl) (fun _ _ _ h => h) (Or.inl ⟨by rfl, ?_⟩) hS (fun hS => ?_)
       rotate_left
       ·(intro w hSw; (try dsimp only at hSw); go_simp); all_goals with_reducible rfl
       try simp only [Act.put, List.getElem_toArray, List.getElem_cons_zero, List.getElem_cons_succ, List.setIfInBounds_toArray, List.set_cons_zero, List.set_cons_succ]
       have HX := hid9 HL.out.l;refine wpAnyY_one (i := 3) (o := _) (by kernel_rfl) rfl (fun K hK => ?_);have pc0 := HL.out.l.p.cell 0 _ rfl;have pc1 := HL.out.l.p.cell 1 _ rfl;have pc2 := HL.out.l.p.cell 2 _ rfl;have pf0 := HL.out.l.p.free 0;have pf1 := HL.out.l.p.free 1;have pf2 := HL.out.l.p.free 2;go_simp;have hS2 := (⟨((hS.1.set (b := w.heap.size + 1) (by omega) (by omega) (by omega) 0 (.slice y1 m2.st.length d1)).set (b := w.heap.size + 1) (by omega) (by omega) (by omega) 1 (.slice y2 m2.rs.length d2)).set (b := w.heap.size + 1) (by omega) (by omega) (by omega) 2 (.slice y3 m2.ws.length d3), own_set3 hS.2 (show w.heap.size + 1 < w.heap.size + 2 by omega) (.slice y1 m2.st.length d1) (.slice y2 m2.rs.length d2) (.slice y3 m2.ws.length d3)⟩ : _ ∧ _);refine hK.out _ _ (Or.inr hS2) ?_;have hS := hS2;clear hK K hS2
       try simp only [Act.put, List.getElem_toArray, List.getElem_cons_zero, List.getElem_cons_succ, List.setIfInBounds_toArray, List.set_cons_zero, List.set_cons_succ]
       refine wpAnyY_pure (i := 4) (oi := _) (v := ?_) rfl (by kernel_rfl) (by kernel_rfl) (by kernel_rfl) (by kernel_rfl) (fun _ _ _ h => h) (Or.inl ⟨by rfl, ?_⟩) (Or.inr hS) ?_
       rotate_left
       ·(intro w hSw; (try dsimp only at hSw); go_simp); all_goals with_reducible rfl
       try simp only [Act.put, List.getElem_toArray, List.getElem_cons_zero, List.getElem_cons_succ, List.setIfInBounds_toArray, List.set_cons_zero, List.set_cons_succ]
       refine wpAnyY_done (by kernel_rfl) ?_ _;have SE := hid9 (((HX.out.h.set (b := w.heap.size + 1) (by omega) (by omega) (by omega) 0 (.slice y1 m2.st.length d1)).set (b := w.heap.size + 1) (by omega) (by omega) (by omega) 1 (.slice y2 m2.rs.length d2)).set (b := w.heap.size + 1) (by omega) (by omega) (by omega) 2 (.slice y3 m2.ws.length d3));have BX := hid9 (box_put (box_put (box_put HX.out.p 0 (.slice y1 m2.st.length d1)) 1 (.slice y2 m2.rs.length d2)) 2 (.slice y3 m2.ws.length d3));have qc0 := BX.out.cell 0 _ rfl;have qc1 := BX.out.cell 1 _ rfl;have qc2 := BX.out.cell 2 _ rfl;clear HX BX;go_wp2;exact bodyPost_ret (v := .tuple #[.agg #[.slice y1 m2.st.length d1, .slice y2 m2.rs.length d2, .slice y3 m2.ws.length d3], .string ⟨acc.toArray⟩]) (by simp [results, results180, go_sem, *]) rfl ⟨_, _, _, rfl, SE.out.drew.mo.base (by omega), SE.out.drew.bel⟩
    ·have HEE := hid9 (show at_ + min n (x1 - at_) = x1 by omega);obtain ⟨m2, x2, HE2, O2⟩ := Pg.Cost.hop (readL id at_ x1 fuelN (at_ / 8) noB) ((readL_cost _ _ _ _ _ _)) O1;obtain ⟨rfl, rfl⟩ := leaf HE m2 (x2) (by rw [readP_eq]; simp only [pgz, ↓reduceIte, bz, HE1.out, (show ¬ (at_ < 0) from by first | exact c1 | omega | simpa using c1), (show ¬ (n < 1) from by first | exact c2 | omega | simpa using c2), (show ¬ (x1 ≤ at_) from by first | exact c3 | omega | simpa using c3), (show ¬ (n < x1 - at_) from by first | exact c4 | omega | simpa using c4), HEE.out, HE2.out]);obtain ⟨WL, hWL⟩ : ∃ W, W = (((w1.setCell ⟨w.heap.size, 0, none⟩ (.slice x1_1 m1.st.length k1_1)).setCell ⟨w.heap.size, 1, none⟩ (.slice x1_2 m1.rs.length k1_2)).setCell ⟨w.heap.size, 2, none⟩ (.slice x1_3 m1.ws.length k1_3)) := ⟨_, rfl⟩;have QL := hid9 (show SQ w (.slice a1 m.st.length q1) (.slice a2 m.rs.length q2) (.slice a3 m.ws.length q3) m (.slice x1_1 m1.st.length k1_1) (.slice x1_2 m1.rs.length k1_2) (.slice x1_3 m1.ws.length k1_3) m1 WL from by rw [hWL]; exact Q1.out);have hsw : WL.heap.size = w1.heap.size := by rw [hWL]; simp
     have hwl : w.heap.size + 2 ≤ WL.heap.size := QL.out.sz;have HO0 := hid9 (show (WL.alloc (.cells #[] 5)).ownsRow (w.heap.size + 2) 5 1 (.slice (some ⟨w1.heap.size, 0, none⟩) 0 0) 0 [] from ownsRow_base (by have h := own_empty0 WL 5 1; rw [hsw] at h ⊢; exact h) hwl);have K0 := hid9 (show KQ w (.slice a1 m.st.length q1) (.slice a2 m.rs.length q2) (.slice a3 m.ws.length q3) m (.slice x1_1 m1.st.length k1_1) (.slice x1_2 m1.rs.length k1_2) (.slice x1_3 m1.ws.length k1_3) m1 (WL.alloc (.cells #[] 5)) (.slice (some ⟨w1.heap.size, 0, none⟩) 0 0) [] from ⟨QL.out.below bel9, HO0.out, kid_off hsw QL.out.h.mo.o1, kid_off hsw QL.out.h.mo.o2, kid_off hsw QL.out.h.mo.o3⟩);have HWL := hid9 hWL;clear Q1 QL hsw hwl HO0 hWL;go_wp2;rw [← HWL.out];go_loopw [12, 13] (fun v vp wr => ∃ p : Int, ∃ f : Nat, ∃ acc : List UInt8, vp = .int .i64 p ∧ Hid (∃ y1 d1 y2 d2 y3 d3 mk, KQ w (.slice a1 m.st.length q1) (.slice a2 m.rs.length q2) (.slice a3 m.ws.length q3) m (.slice y1 mk.st.length d1) (.slice y2 mk.rs.length d2) (.slice y3 mk.ws.length d3) mk wr v acc ∧ MOk (900000000001 + p.toNat) mk ∧ at_ / 8 ≤ p ∧ p ≤ 1000 ∧ x1 ≤ (p + f) * 8 ∧ acc.length ≤ 8 * p.toNat ∧ (readL id at_ x1 f p ⟨acc.toArray⟩).run mk = (m2, x2))) (fun _ i _ => (1001 - intOf i).toNat)
     case atStart => exact ⟨at_ / 8, fuelN, [], rfl, hid9 ⟨_, _, _, _, _, _, _, K0.out, O1.out.mono (by omega), Int.le_refl _, by omega, by omega, Nat.zero_le _, HE2.out⟩⟩
     case round =>
      obtain ⟨p, f, acc, rfl, HI0⟩ := hrel;obtain ⟨y1, d1, y2, d2, y3, d3, mk, hl, ho, hp0, hp1, hp2, hacc, hr⟩ := HI0.out;have HL := hid9 hl;have HO := hid9 ho;have HR := hid9 hr;clear hl ho hr HI0 K0 F1;have hwp : IntKind.i64.wrap (p * 8) = p * 8 := by rw [IntKind.wrap_i64]; omega
      have hwp1 : IntKind.i64.wrap (p + 1) = p + 1 := by rw [IntKind.wrap_i64]; omega
      by_cases hc : p * 8 < x1
      ·obtain ⟨g, rfl⟩ : ∃ g, f = g + 1 := ⟨f - 1, by omega⟩;have hpi : I64 p := ⟨by omega, by omega⟩;obtain ⟨n1, bx, F1⟩ : ∃ aa bb, (blockP id p).run mk = (aa, bb) := ⟨_, _, rfl⟩;have sbx := block_sz HO.out F1;have P1 := hid9 ((blockP_cost _ _).okE HO.out F1);have KN := hid9 (tBlock_c (.slice y1 mk.st.length d1) (.slice y2 mk.rs.length d2) (.slice y3 mk.ws.length d3) mk n1 bx id p wr HL.out.l.rd (HO.out.mono (by omega)) hn hpi F1);have hr := HR.out;rw [readL_yes hc, Pg.run_bind, F1] at hr;have HR1 := hid9 hr;clear HR hr F1;have eh0 := HL.out.l.h.x.cell 0 _ rfl;have eh1 := HL.out.l.h.x.cell 1 _ rfl;have eh2 := HL.out.l.h.x.cell 2 _ rfl;have zh0 := HL.out.l.h.x.free 0;have zh1 := HL.out.l.h.x.free 1;have zh2 := HL.out.l.h.x.free 2;go_wp2_with fail;refine KN.out.mono ?_;rintro ee wn ⟨r1, r2, r3, rfl, hmo, hb⟩;obtain ⟨z1, f1, z2, f2, z3, f3, rfl, rfl, rfl⟩ := hmo.openS HL.out.l.rd hb;clear eh0 eh1 eh2 zh0 zh1 zh2;have en0 := (HL.out.l.below hb).h.x.cell 0 _ rfl;have en1 := (HL.out.l.below hb).h.x.cell 1 _ rfl;have en2 := (HL.out.l.below hb).h.x.cell 2 _ rfl;have zn0 := (HL.out.l.below hb).h.x.free 0;have zn1 := (HL.out.l.below hb).h.x.free 1;have zn2 := (HL.out.l.below hb).h.x.free 2;have KA0 := hid9 (HL.out.num hmo hb);clear HL hmo hb KN HO;go_wp2;go_loopw [12, 15] (fun v i wr => ∃ k : Nat, k ≤ 8 ∧ k ≤ bx.size ∧ i = .int .i64 k ∧ Hid (KQ w (.slice a1 m.st.length q1) (.slice a2 m.rs.length q2) (.slice a3 m.ws.length q3) m (.slice z1 n1.st.length f1) (.slice z2 n1.rs.length f2) (.slice z3 n1.ws.length f3) n1 wr v (acc ++ pieceL bx p at_ x1 k))) (fun _ i _ => 8 - (intOf i).toNat)
       case atStart => exact ⟨0, by omega, by omega, rfl, hid9 (by rw [piece_zero, List.append_nil]; exact KA0.out)⟩
       case round =>
        obtain ⟨k, hk8, hkb, rfl, HK⟩ := hrel;clear en0 en1 en2 zn0 zn1 zn2 KA0;have hwk : IntKind.i64.wrap (p * 8 + (k : Int)) = p * 8 + k := by rw [IntKind.wrap_i64]; omega
        have hwk1 : IntKind.i64.wrap ((k : Int) + 1) = (k : Int) + 1 := by rw [IntKind.wrap_i64]; omega
        have pk : (0 : Int) ≤ (k : Int) := by omega
        have hpl := piece_len (b := bx) (p := p) (a := at_) (e := x1) hk8;by_cases hs1 : k < bx.size
        ·have t1 : (k : Int) < (bx.size : Int) := by omega
         by_cases hs2 : k < 8
         ·have t2 : (k : Int) < 8 := by omega
          by_cases ha : at_ ≤ p * 8 + k
          ·by_cases hb2 : p * 8 + k < x1
           ·have hsz := HK.out.l.sz;have hlen : (acc ++ pieceL bx p at_ x1 k).length ≤ 9000 := by rw [List.length_append]; omega
            go_wp2_with (at_builtin; refine wpList_append_own2 _ rfl _ _ 22 rfl (w.heap.size + 2) 5 i0 _ 1 1 underlying22 HI.out HZ.out.1 HZ.out.2.1 HZ.out.2.2 rfl (by decide) _ _ _ rfl (HK.out.o.alloc _) ⟨wr.heap.size, 0, none⟩ 1 1 [.int .u8 (bx[k].toNat : Int)] rfl rfl (box_news (Box.new _ _ _)) (by intro u hu; simp at hu; subst hu; rfl) (by unfold maxLen; omega) (by omega) (by simp; omega) ?_);intro v' w' o2 g2 or2;have HK4 := hid9 (show KQ w (.slice a1 m.st.length q1) (.slice a2 m.rs.length q2) (.slice a3 m.ws.length q3) m (.slice z1 n1.st.length f1) (.slice z2 n1.rs.length f2) (.slice z3 n1.ws.length f3) n1 w' v' (acc ++ pieceL bx p at_ x1 (k + 1)) from KQ.app (HK.out.below (show Below wr.heap.size wr (wr.alloc (.cells #[.int .u8 (bx[k].toNat : Int)] 5)) from bel9)) g2 or2 (by rw [piece_in hs2 hs1 ha hb2, ← List.append_assoc, List.length_append, List.flatMap_append]; simpa [List.append_assoc, encB, Nat.add_assoc] using o2));clear o2 g2 or2 HK;go_wp2;go_roundw
            case rel => exact ⟨k + 1, by omega, by omega, by go_num, HK4⟩
            case measure => simp [intOf]; omega
           ·have hno : ¬ (at_ ≤ p * 8 + k ∧ p * 8 + k < x1) := fun h => hb2 h.2;have HK4 := hid9 (show KQ w (.slice a1 m.st.length q1) (.slice a2 m.rs.length q2) (.slice a3 m.ws.length q3) m (.slice z1 n1.st.length f1) (.slice z2 n1.rs.length f2) (.slice z3 n1.ws.length f3) n1 wr u12 (acc ++ pieceL bx p at_ x1 (k + 1)) from by rw [piece_out hno]; exact HK.out);clear HK;go_wp2;go_roundw
            case rel => exact ⟨k + 1, by omega, by omega, by go_num, HK4⟩
            case measure => simp [intOf]; omega
          ·have hno : ¬ (at_ ≤ p * 8 + k ∧ p * 8 + k < x1) := fun h => ha h.1;have HK4 := hid9 (show KQ w (.slice a1 m.st.length q1) (.slice a2 m.rs.length q2) (.slice a3 m.ws.length q3) m (.slice z1 n1.st.length f1) (.slice z2 n1.rs.length f2) (.slice z3 n1.ws.length f3) n1 wr u12 (acc ++ pieceL bx p at_ x1 (k + 1)) from by rw [piece_out hno]; exact HK.out);clear HK;go_wp2;go_roundw
           case rel => exact ⟨k + 1, by omega, by omega, by go_num, HK4⟩
           case measure => simp [intOf]; omega
         ·have t2 : ¬ (k : Int) < 8 := by omega
          have HK4 := hid9 HK.out;have HR2 := hid9 (show (readL id at_ x1 g (p + 1) ⟨(acc ++ pieceL bx p at_ x1 k).toArray⟩).run n1 = (m2, x2) from by rw [← piece_end acc (k := k) (by omega)]; exact HR1.out);clear HK HR1;go_wp2;go_roundw
          case rel => exact ⟨p + 1, g, _, by first | rfl | go_num, hid9 ⟨_, _, _, _, _, _, _, HK4.out, P1.out.mono (by omega), by omega, by omega, by omega, by rw [List.length_append]; omega, HR2.out⟩⟩
          case measure => simp [intOf]; omega
        ·have t1 : ¬ (k : Int) < (bx.size : Int) := by omega
         have HK4 := hid9 HK.out;have HR2 := hid9 (show (readL id at_ x1 g (p + 1) ⟨(acc ++ pieceL bx p at_ x1 k).toArray⟩).run n1 = (m2, x2) from by rw [← piece_end acc (k := k) (by omega)]; exact HR1.out);clear HK HR1;go_wp2;go_roundw
         case rel => exact ⟨p + 1, g, _, by first | rfl | go_num, hid9 ⟨_, _, _, _, _, _, _, HK4.out, P1.out.mono (by omega), by omega, by omega, by omega, by rw [List.length_append]; omega, HR2.out⟩⟩
         case measure => simp [intOf]; omega
      ·have hr := HR.out;rw [readL_end hc] at hr;obtain ⟨e1, e2⟩ := Prod.mk.inj (show (m2, x2) = (mk, (⟨acc.toArray⟩ : ByteArray)) from hr.symm);subst e1 e2;clear HR hr;have cr0 : ∀ W, SH w w.heap.size (w.heap.size + 2) (.slice a1 m.st.length q1) (.slice a2 m.rs.length q2) (.slice a3 m.ws.length q3) m (.slice y1 m2.st.length d1) (.slice y2 m2.rs.length d2) (.slice y3 m2.ws.length d3) m2 W ∧ W.ownsRow (w.heap.size + 2) 5 1 u12 acc.length (acc.flatMap encB) → W.cell? ⟨w.heap.size, 0, none⟩ = some (.slice y1 m2.st.length d1) := fun W h => h.1.x.cell 0 _ rfl;have cr1 : ∀ W, SH w w.heap.size (w.heap.size + 2) (.slice a1 m.st.length q1) (.slice a2 m.rs.length q2) (.slice a3 m.ws.length q3) m (.slice y1 m2.st.length d1) (.slice y2 m2.rs.length d2) (.slice y3 m2.ws.length d3) m2 W ∧ W.ownsRow (w.heap.size + 2) 5 1 u12 acc.length (acc.flatMap encB) → W.cell? ⟨w.heap.size, 1, none⟩ = some (.slice y2 m2.rs.length d2) := fun W h => h.1.x.cell 1 _ rfl;have cr2 : ∀ W, SH w w.heap.size (w.heap.size + 2) (.slice a1 m.st.length q1) (.slice a2 m.rs.length q2) (.slice a3 m.ws.length q3) m (.slice y1 m2.st.length d1) (.slice y2 m2.rs.length d2) (.slice y3 m2.ws.length d3) m2 W ∧ W.ownsRow (w.heap.size + 2) 5 1 u12 acc.length (acc.flatMap encB) → W.cell? ⟨w.heap.size, 2, none⟩ = some (.slice y3 m2.ws.length d3) := fun W h => h.1.x.cell 2 _ rfl;have cnv : ∀ W, SH w w.heap.size (w.heap.size + 2) (.slice a1 m.st.length q1) (.slice a2 m.rs.length q2) (.slice a3 m.ws.length q3) m (.slice y1 m2.st.length d1) (.slice y2 m2.rs.length d2) (.slice y3 m2.ws.length d3) m2 W ∧ W.ownsRow (w.heap.size + 2) 5 1 u12 acc.length (acc.flatMap encB) → (convert 22 9 u12).run prog W = .ok (.string ⟨acc.toArray⟩) W := fun W h => convB W _ 0 _ acc _ rfl h.2;go_wp2;refine wp_region_Y (fun w' => SH w w.heap.size (w.heap.size + 2) (.slice a1 m.st.length q1) (.slice a2 m.rs.length q2) (.slice a3 m.ws.length q3) m (.slice y1 m2.st.length d1) (.slice y2 m2.rs.length d2) (.slice y3 m2.ws.length d3) m2 w' ∧ w'.ownsRow (w.heap.size + 2) 5 1 u12 acc.length (acc.flatMap encB)) [] (by kernel_rfl) ?_ (fun hS => ?_)
       ·exact ⟨(HL.out.below bel9).l.h, (HL.out.below bel9).o⟩
       refine wpAnyY_load (i := 0) (oi := _) (v := ?_) 12 rfl (by kernel_rfl) (by kernel_rfl) (by kernel_rfl) (by kernel_rfl) (fun _ _ _ h => h) (Or.inl ⟨by rfl, ?_⟩) hS (fun hS => ?_)
       rotate_left
       ·(intro w hSw; (try dsimp only at hSw); go_simp); all_goals with_reducible rfl
       try simp only [Act.put, List.getElem_toArray, List.getElem_cons_zero, List.getElem_cons_succ, List.setIfInBounds_toArray, List.set_cons_zero, List.set_cons_succ]
       refine wpAnyY_pure (i := 1) (oi := _) (v := ?_) rfl (by kernel_rfl) (by kernel_rfl) (by kernel_rfl) (by kernel_rfl) (fun _ _ _ h => h) (Or.inl ⟨by rfl, ?_⟩) (Or.inr hS) ?_
       rotate_left
       ·(intro w hSw; (try dsimp only at hSw); go_simp); all_goals with_reducible rfl
       try simp only [Act.put, List.getElem_toArray, List.getElem_cons_zero, List.getElem_cons_succ, List.setIfInBounds_toArray, List.set_cons_zero, List.set_cons_succ]
       refine wpAnyY_load (i := 2) (oi := _) (v := ?_) 12 rfl (by kernel_rfl) (by kernel_rfl) (by kernel_rfl) (by kernel_rfl) (fun _ _ _ h => h) (Or.inl ⟨by rfl, ?_⟩) hS (fun hS => ?_)
       rotate_left
       ·(intro w hSw; (try dsimp only at hSw); go_simp); all_goals with_reducible rfl
       try simp only [Act.put, List.getElem_toArray, List.getElem_cons_zero, List.getElem_cons_succ, List.setIfInBounds_toArray, List.set_cons_zero, List.set_cons_succ]
       have HX := hid9 HL.out.l;refine wpAnyY_one (i := 3) (o := _) (by kernel_rfl) rfl (fun K hK => ?_);have pc0 := HL.out.l.p.cell 0 _ rfl;have pc1 := HL.out.l.p.cell 1 _ rfl;have pc2 := HL.out.l.p.cell 2 _ rfl;have pf0 := HL.out.l.p.free 0;have pf1 := HL.out.l.p.free 1;have pf2 := HL.out.l.p.free 2;go_simp;have hS2 := (⟨((hS.1.set (b := w.heap.size + 1) (by omega) (by omega) (by omega) 0 (.slice y1 m2.st.length d1)).set (b := w.heap.size + 1) (by omega) (by omega) (by omega) 1 (.slice y2 m2.rs.length d2)).set (b := w.heap.size + 1) (by omega) (by omega) (by omega) 2 (.slice y3 m2.ws.length d3), own_set3 hS.2 (show w.heap.size + 1 < w.heap.size + 2 by omega) (.slice y1 m2.st.length d1) (.slice y2 m2.rs.length d2) (.slice y3 m2.ws.length d3)⟩ : _ ∧ _);refine hK.out _ _ (Or.inr hS2) ?_;have hS := hS2;clear hK K hS2
       try simp only [Act.put, List.getElem_toArray, List.getElem_cons_zero, List.getElem_cons_succ, List.setIfInBounds_toArray, List.set_cons_zero, List.set_cons_succ]
       refine wpAnyY_pure (i := 4) (oi := _) (v := ?_) rfl (by kernel_rfl) (by kernel_rfl) (by kernel_rfl) (by kernel_rfl) (fun _ _ _ h => h) (Or.inl ⟨by rfl, ?_⟩) (Or.inr hS) ?_
       rotate_left
       ·(intro w hSw; (try dsimp only at hSw); go_simp); all_goals with_reducible rfl
       try simp only [Act.put, List.getElem_toArray, List.getElem_cons_zero, List.getElem_cons_succ, List.setIfInBounds_toArray, List.set_cons_zero, List.set_cons_succ]
       refine wpAnyY_done (by kernel_rfl) ?_ _;have SE := hid9 (((HX.out.h.set (b := w.heap.size + 1) (by omega) (by omega) (by omega) 0 (.slice y1 m2.st.length d1)).set (b := w.heap.size + 1) (by omega) (by omega) (by omega) 1 (.slice y2 m2.rs.length d2)).set (b := w.heap.size + 1) (by omega) (by omega) (by omega) 2 (.slice y3 m2.ws.length d3));have BX := hid9 (box_put (box_put (box_put HX.out.p 0 (.slice y1 m2.st.length d1)) 1 (.slice y2 m2.rs.length d2)) 2 (.slice y3 m2.ws.length d3));have qc0 := BX.out.cell 0 _ rfl;have qc1 := BX.out.cell 1 _ rfl;have qc2 := BX.out.cell 2 _ rfl;clear HX BX;go_wp2;exact bodyPost_ret (v := .tuple #[.agg #[.slice y1 m2.st.length d1, .slice y2 m2.rs.length d2, .slice y3 m2.ws.length d3], .string ⟨acc.toArray⟩]) (by simp [results, results180, go_sem, *]) rfl ⟨_, _, _, rfl, SE.out.drew.mo.base (by omega), SE.out.drew.bel⟩
set_option maxRecDepth 100000 in
theorem tFileOf_c (v1 v2 v3 : Value) (m m' : Mch) (x : Int) (name : ByteArray) (w : World) (h : MRd w v1 v2 v3 m) (O0 : Hid (MOk 1800000000000 m)) (hs : name.size ≤ 1000) (HE : Hid ((fileOfP name).run m = (m', x))) :
 Calls prog 175 #[.agg #[v1, v2, v3], .string name] w (SRet v1 v2 v3 m m' (.int .i64 x) w) := by
 obtain ⟨a1, q1, a2, q2, a3, q3, rfl, rfl, rfl, Q0⟩ := h.start;clear h;go_enter func175, ntmps175;by_cases c1 : nameOkB name = true
 ·have C1 := hid9 c1;clear c1;have KNname := hid9 (fun W => specNameOk_c name W (Nat.le_trans (hs) (by decide : (1000 : Nat) ≤ maxLen)));rw [C1.out] at KNname;have nnname : ¬ 9223372036854775807 < 2 + name.size := by omega
  obtain ⟨m1, x1, HE1, O1⟩ := Pg.Cost.hop (numP (nK name)) (numP_cost _) O0;have bx1 := numP_bounds HE1.out;go_wp2_with (first | (go_at_call 174; with_reducible refine (KNname.out _).mono ?_; rintro e w' ⟨rfl, rfl⟩) | fail);refine ne2 SQ.fr Q0 (tNum_c _ _ _ _ _ _ (nK name) _ Q0.out.rd (O0.out.mono (by omega)) HE1.out) fun _ _ _ _ _ _ w1 SE F1 => ?_;clear Q0;obtain ⟨rfl, rfl⟩ := leaf HE m1 (x1) (by unfold fileOfP; simp only [pgz, ↓reduceIte, bz, C1.out, HE1.out]);go_wp2_with fail;exact re2 SE (by simp [results, results175, go_sem, *])
 ·have C1 := hid9 (Bool.eq_false_iff.2 c1);clear c1;have KNname := hid9 (fun W => specNameOk_c name W (Nat.le_trans (hs) (by decide : (1000 : Nat) ≤ maxLen)));rw [C1.out] at KNname;obtain ⟨rfl, rfl⟩ := leaf HE m (0) (by unfold fileOfP; simp only [pgz, ↓reduceIte, bz, C1.out]);go_wp2_with (first | (go_at_call 174; with_reducible refine (KNname.out _).mono ?_; rintro e w' ⟨rfl, rfl⟩) | fail);exact rz2 (by simp [results, results175, go_sem, *]) bel9
set_option maxRecDepth 100000 in
theorem tMake_c (v1 v2 v3 : Value) (m m' : Mch) (x y : Int) (name : ByteArray) (w : World) (h : MRd w v1 v2 v3 m) (O0 : Hid (MOk 1700000000000 m)) (hs : name.size ≤ 900) (HE : Hid ((makeP name).run m = (m', (x, y)))) :
 Calls prog 128 #[.agg #[v1, v2, v3], .string name] w (SRet3 v1 v2 v3 m m' (.int .i64 x) (.int .i64 y) w) := by
 obtain ⟨a1, q1, a2, q2, a3, q3, rfl, rfl, rfl, Q0⟩ := h.start;clear h;go_enter func128, ntmps128;by_cases c1 : nameOkB name = true
 ·have C1 := hid9 c1;clear c1;have KNname := hid9 (fun W => specNameOk_c name W (Nat.le_trans ((Nat.le_trans hs (by decide))) (by decide : (1000 : Nat) ≤ maxLen)));rw [C1.out] at KNname;obtain ⟨m1, x1, HE1, O1⟩ := Pg.Cost.hop (fileOfP name) (fileOfP_cost _) O0;have bx1 := fileOfP_bounds HE1.out;go_wp2_with (first | (go_at_call 174; with_reducible refine (KNname.out _).mono ?_; rintro e w' ⟨rfl, rfl⟩) | fail);refine nx2 SQ.fr Q0 (tFileOf_c _ _ _ _ _ _ name _ Q0.out.rd (O0.out.mono (by omega)) (Nat.le_trans hs (by decide)) HE1.out) fun _ _ _ _ _ _ w1 Q1 F1 => ?_;clear Q0;by_cases c2 : x1 = 0
  ·subst c2;obtain ⟨m2, x2, HE2, O2⟩ := Pg.Cost.hop (numP (cFile)) (numP_cost _) O1;have bx2 := numP_bounds HE2.out;go_wp2_with fail;refine nx2 SQ.fr Q1 (tNum_c _ _ _ _ _ _ (cFile) _ Q1.out.rd (O1.out.mono (by omega)) HE2.out) fun _ _ _ _ _ _ w2 Q2 F2 => ?_;clear F1 Q1;by_cases c3 : 20 ≤ x2
   ·obtain ⟨rfl, rfl, rfl⟩ := leaf3 HE m2 (0) (3) (by unfold makeP; simp only [pgz, ↓reduceIte, bz, C1.out, HE1.out, HE2.out, (show 20 ≤ x2 from by first | exact c3 | omega | simpa using c3)]);go_wp2_with fail;exact rt3 SQ.fr Q2 (by simp [results, results128, go_sem, *])
   ·have nnname : ¬ 9223372036854775807 < 2 + name.size := by omega
    obtain ⟨m3, x3, HE3, O3⟩ := Pg.Cost.hop (bumpP (cFile)) (bumpP_cost _) O2;have bx3 := bumpP_bounds HE3.out;go_wp2_with fail;refine nx2 SQ.fr Q2 (tBump_c _ _ _ _ _ _ (cFile) _ Q2.out.rd (O2.out.mono (by omega)) (by decide) HE3.out) fun _ _ _ _ _ _ w3 Q3 F3 => ?_;clear F2 Q2;obtain ⟨m4, u4, HE4, O4⟩ := Pg.Cost.hop (setP (nK name) (x3)) (setP_cost _ _) O3;go_wp2_with fail;refine nx1 SQ.fr Q3 (tSet_c _ _ _ _ _ _ (nK name) (x3) _ Q3.out.rd (O3.out.mono (by omega)) (Nat.le_trans (show (nK name).size ≤ 1000 by have := @nK_size name; omega) (by decide : (1000 : Nat) ≤ maxLen)) HE4.out) fun _ _ _ _ _ _ w4 Q4 F4 => ?_;clear F3 Q3;obtain ⟨m5, u5, HE5, O5⟩ := Pg.Cost.hop (setP (linksK x3) (1)) (setP_cost _ _) O4;go_wp2_with fail;refine Q4.out.region [5] fun hS cr0 cr1 cr2 => ?_;clear F4;refine pL 0 hS ?_;refine pU 1 hS ?_;refine pU 4 hS ?_;refine pV 2 hS (tLinksKey_c x3 _ (i64_of bx3)) fun _ hS => ?_;refine pM1 SQ.fr 3 hS (tSet_c _ _ _ _ _ _ (linksK x3) (1) _ hS.rd (O4.out.mono (by omega)) (Nat.le_trans (linksK_size (i64_of bx3)) (by decide : (1000 : Nat) ≤ maxLen)) HE5.out) fun _ _ _ _ _ _ w5 hS hmo F5 => ?_;refine pS 5 ?_;refine pW 6 ?_;refine pW 7 ?_;refine wpAnyY_done (by kernel_rfl) ?_ _;have SE := hid9 (SQ.fr.finR hS hmo);clear hS hmo Q4 cr0 cr1 cr2;obtain ⟨rfl, rfl, rfl⟩ := leaf3 HE m5 (x3) (0) (by unfold makeP; simp only [pgz, ↓reduceIte, bz, C1.out, HE1.out, HE2.out, (show ¬ (20 ≤ x2) from by first | exact c3 | omega | simpa using c3), HE3.out, HE4.out, HE5.out]);go_wp2_with fail;exact re3 SE (by simp [results, results128, go_sem, *])
  ·obtain ⟨rfl, rfl, rfl⟩ := leaf3 HE m1 (0) (1) (by unfold makeP; simp only [pgz, ↓reduceIte, bz, C1.out, HE1.out, (show ¬ ((x1 : Int) = 0) from by first | exact c2 | omega | simpa using c2)]);go_wp2_with fail;exact rt3 SQ.fr Q1 (by simp [results, results128, go_sem, *])
 ·have C1 := hid9 (Bool.eq_false_iff.2 c1);clear c1;have KNname := hid9 (fun W => specNameOk_c name W (Nat.le_trans ((Nat.le_trans hs (by decide))) (by decide : (1000 : Nat) ≤ maxLen)));rw [C1.out] at KNname;obtain ⟨rfl, rfl, rfl⟩ := leaf3 HE m (0) (4) (by unfold makeP; simp only [pgz, ↓reduceIte, bz, C1.out]);go_wp2_with (first | (go_at_call 174; with_reducible refine (KNname.out _).mono ?_; rintro e w' ⟨rfl, rfl⟩) | fail);exact rz3 (by simp [results, results128, go_sem, *]) bel9
set_option maxRecDepth 100000 in
theorem tLink_c (v1 v2 v3 : Value) (m m' : Mch) (x : Int) (a : ByteArray) (b : ByteArray) (w : World) (h : MRd w v1 v2 v3 m) (O0 : Hid (MOk 1700000000000 m)) (hs : a.size ≤ 900) (hs2 : b.size ≤ 900) (HE : Hid ((linkP a b).run m = (m', x))) :
 Calls prog 129 #[.agg #[v1, v2, v3], .string a, .string b] w (SRet v1 v2 v3 m m' (.int .i64 x) w) := by
 obtain ⟨a1, q1, a2, q2, a3, q3, rfl, rfl, rfl, Q0⟩ := h.start;clear h;go_enter func129, ntmps129;by_cases c1 : nameOkB a = true
 ·have C1 := hid9 c1;clear c1;have KNa := hid9 (fun W => specNameOk_c a W (Nat.le_trans ((Nat.le_trans hs (by decide))) (by decide : (1000 : Nat) ≤ maxLen)));rw [C1.out] at KNa;by_cases c2 : nameOkB b = true
  ·have C2 := hid9 c2;clear c2;have KNb := hid9 (fun W => specNameOk_c b W (Nat.le_trans ((Nat.le_trans hs2 (by decide))) (by decide : (1000 : Nat) ≤ maxLen)));rw [C2.out] at KNb;obtain ⟨m1, x1, HE1, O1⟩ := Pg.Cost.hop (fileOfP a) (fileOfP_cost _) O0;have bx1 := fileOfP_bounds HE1.out;go_wp2_with (first | (go_at_call 174; with_reducible refine (KNa.out _).mono ?_; rintro e w' ⟨rfl, rfl⟩) | (go_at_call 174; with_reducible refine (KNb.out _).mono ?_; rintro e w' ⟨rfl, rfl⟩) | fail);refine nx2 SQ.fr Q0 (tFileOf_c _ _ _ _ _ _ a _ Q0.out.rd (O0.out.mono (by omega)) (Nat.le_trans hs (by decide)) HE1.out) fun _ _ _ _ _ _ w1 Q1 F1 => ?_;clear Q0;by_cases c3 : x1 = 0
   ·subst c3;obtain ⟨rfl, rfl⟩ := leaf HE m1 (2) (by unfold linkP; simp only [pgz, ↓reduceIte, bz, C1.out, C2.out, HE1.out]);go_wp2_with fail;exact rt2 SQ.fr Q1 (by simp [results, results129, go_sem, *])
   ·obtain ⟨m2, x2, HE2, O2⟩ := Pg.Cost.hop (fileOfP b) (fileOfP_cost _) O1;have bx2 := fileOfP_bounds HE2.out;go_wp2_with fail;refine nx2 SQ.fr Q1 (tFileOf_c _ _ _ _ _ _ b _ Q1.out.rd (O1.out.mono (by omega)) (Nat.le_trans hs2 (by decide)) HE2.out) fun _ _ _ _ _ _ w2 Q2 F2 => ?_;clear F1 Q1;by_cases c4 : x2 = 0
    ·subst c4;obtain ⟨m3, x3, HE3, O3⟩ := Pg.Cost.hop (numP (linksK x1)) (numP_cost _) O2;have bx3 := numP_bounds HE3.out;go_wp2_with fail;refine Q2.out.region [7] fun hS cr0 cr1 cr2 => ?_;clear F2;refine pL 0 hS ?_;refine pU 1 hS ?_;refine pV 2 hS (tLinksKey_c x1 _ (i64_of bx1)) fun _ hS => ?_;refine pM2 SQ.fr 3 hS (tNum_c _ _ _ _ _ _ (linksK x1) _ hS.rd (O2.out.mono (by omega)) HE3.out) fun _ _ _ _ _ _ w3 hS hmo F3 => ?_;refine pU 4 hS ?_;refine pU 5 hS ?_;refine pU 6 hS ?_;refine pS 7 ?_;refine pW 8 ?_;refine wpAnyY_done (by kernel_rfl) ?_ _;have Q3 := hid9 (hS.put hmo);clear hS hmo Q2 cr0 cr1 cr2;by_cases c5 : 4 ≤ x3
     ·obtain ⟨rfl, rfl⟩ := leaf HE m3 (3) (by unfold linkP; simp only [pgz, ↓reduceIte, bz, C1.out, C2.out, HE1.out, (show ¬ ((x1 : Int) = 0) from by first | exact c3 | omega | simpa using c3), HE2.out, HE3.out, (show 4 ≤ x3 from by first | exact c5 | omega | simpa using c5)]);go_wp2_with fail;exact rt2 SQ.fr Q3 (by simp [results, results129, go_sem, *])
     ·have hwx3 : IntKind.i64.wrap (x3 + 1) = x3 + 1 := by rw [IntKind.wrap_i64]; omega
      have nnb : ¬ 9223372036854775807 < 2 + b.size := by omega
      obtain ⟨m4, u4, HE4, O4⟩ := Pg.Cost.hop (setP (nK b) (x1)) (setP_cost _ _) O3;go_wp2_with fail;refine nx1 SQ.fr Q3 (tSet_c _ _ _ _ _ _ (nK b) (x1) _ Q3.out.rd (O3.out.mono (by omega)) (Nat.le_trans (show (nK b).size ≤ 1000 by have := @nK_size b; omega) (by decide : (1000 : Nat) ≤ maxLen)) HE4.out) fun _ _ _ _ _ _ w4 Q4 F4 => ?_;clear F3 Q3;obtain ⟨m5, u5, HE5, O5⟩ := Pg.Cost.hop (setP (linksK x1) (x3 + 1)) (setP_cost _ _) O4;go_wp2_with fail;refine Q4.out.region [6] fun hS cr0 cr1 cr2 => ?_;clear F4;refine pL 0 hS ?_;refine pU 1 hS ?_;refine pU 3 hS ?_;refine pU 4 hS ?_;refine pV 2 hS (tLinksKey_c x1 _ (i64_of bx1)) fun _ hS => ?_;refine pM1 SQ.fr 5 hS (tSet_c _ _ _ _ _ _ (linksK x1) (x3 + 1) _ hS.rd (O4.out.mono (by omega)) (Nat.le_trans (linksK_size (i64_of bx1)) (by decide : (1000 : Nat) ≤ maxLen)) HE5.out) fun _ _ _ _ _ _ w5 hS hmo F5 => ?_;refine pS 6 ?_;refine pW 7 ?_;refine wpAnyY_done (by kernel_rfl) ?_ _;have SE := hid9 (SQ.fr.finR hS hmo);clear hS hmo Q4 cr0 cr1 cr2;obtain ⟨rfl, rfl⟩ := leaf HE m5 (0) (by unfold linkP; simp only [pgz, ↓reduceIte, bz, C1.out, C2.out, HE1.out, (show ¬ ((x1 : Int) = 0) from by first | exact c3 | omega | simpa using c3), HE2.out, HE3.out, (show ¬ (4 ≤ x3) from by first | exact c5 | omega | simpa using c5), HE4.out, HE5.out]);go_wp2_with fail;exact re2 SE (by simp [results, results129, go_sem, *])
    ·obtain ⟨rfl, rfl⟩ := leaf HE m2 (1) (by unfold linkP; simp only [pgz, ↓reduceIte, bz, C1.out, C2.out, HE1.out, (show ¬ ((x1 : Int) = 0) from by first | exact c3 | omega | simpa using c3), HE2.out, (show ¬ ((x2 : Int) = 0) from by first | exact c4 | omega | simpa using c4)]);go_wp2_with fail;exact rt2 SQ.fr Q2 (by simp [results, results129, go_sem, *])
  ·have C2 := hid9 (Bool.eq_false_iff.2 c2);clear c2;have KNb := hid9 (fun W => specNameOk_c b W (Nat.le_trans ((Nat.le_trans hs2 (by decide))) (by decide : (1000 : Nat) ≤ maxLen)));rw [C2.out] at KNb;obtain ⟨rfl, rfl⟩ := leaf HE m (4) (by unfold linkP; simp only [pgz, ↓reduceIte, bz, C1.out, C2.out]);go_wp2_with (first | (go_at_call 174; with_reducible refine (KNa.out _).mono ?_; rintro e w' ⟨rfl, rfl⟩) | (go_at_call 174; with_reducible refine (KNb.out _).mono ?_; rintro e w' ⟨rfl, rfl⟩) | fail);exact rz2 (by simp [results, results129, go_sem, *]) bel9
 ·have C1 := hid9 (Bool.eq_false_iff.2 c1);clear c1;have KNa := hid9 (fun W => specNameOk_c a W (Nat.le_trans ((Nat.le_trans hs (by decide))) (by decide : (1000 : Nat) ≤ maxLen)));rw [C1.out] at KNa;obtain ⟨rfl, rfl⟩ := leaf HE m (4) (by unfold linkP; simp only [pgz, ↓reduceIte, bz, C1.out]);go_wp2_with (first | (go_at_call 174; with_reducible refine (KNa.out _).mono ?_; rintro e w' ⟨rfl, rfl⟩) | (go_at_call 174; with_reducible refine (KNb.out _).mono ?_; rintro e w' ⟨rfl, rfl⟩) | fail);exact rz2 (by simp [results, results129, go_sem, *]) bel9
end
end Go.Proofs.YtihghflppegnmaaGreatDoor
