/- Lemmas and contracts that the last text leans on, joined: KR, Wr, OwnG, KSK, KWr, DoF, DoAll, MachOf, CallOnI, PutFacts. Conditions: as each theorem says. -/
import Derived.Test.YtihghflppegnmaaGreatDoorCv0
import Derived.Test.YtihghflppegnmaaGreatDoorCv6
import Derived.Laws.AppendOwnNone
set_option linter.unusedSimpArgs false
set_option linter.unusedVariables false
set_option maxHeartbeats 40000000
namespace Go.Proofs.YtihghflppegnmaaGreatDoor
open Go.Proofs.Tryz
section
open Go.ChangeShapes Go.WideShapes Go.ChangeAt Go.RowKit
attribute [local go_sem ↓] Go.wp_at_zero Go.wp_at_succ
theorem ext_none {b : ByteArray} {i j : Nat} (h : j ≤ i) : b.extract i j = ByteArray.empty := by
 apply ByteArray.ext;apply Array.toList_inj.1;simp only [ByteArray.data_extract, Array.toList_extract, List.extract_eq_take_drop];rw [show j - i = 0 by omega];rfl
set_option maxRecDepth 100000 in
theorem pRead_c (p base : Nat) (v1 v2 v3 : Value) (m m' : Mch) (x : ByteArray) (id at_ n : Int) (w : World) (h : MAt w p base v1 v2 v3 m) (ho : MOk 800000000000 m) (hn : I64 id) (HT : ∀ W, Below base w W → Tabs W) (E : (readP id at_ n).run m = (m', x)) :
 Calls prog 161 #[.pointer (some ⟨p, 0, none⟩), .int .i64 id, .int .i64 at_, .int .i64 n] w (MStep p base v1 v2 v3 m' (.string x) w) := by
 have hfu := fuelN_is;obtain ⟨m1, x1, E1⟩ : ∃ aa bb, (numP (sizeK id)).run m = (aa, bb) := ⟨_, _, rfl⟩;have bx1 := numP_bounds E1;have O1 := hid9 ((numP_cost _).okE ho E1);have J0 := hid9 (JAt.first h);have HTJ := hid9 (fun W u1 u2 u3 k (d : JAt p base v1 v2 v3 w W u1 u2 u3 k) W' (hW : Below base W W') => HT W' ((d.bel h).trans hW));have KS := hid9 (fun W u1 u2 u3 k (d : JAt p base v1 v2 v3 w W u1 u2 u3 k) => sizeKey_c id W hn (HTJ.out W u1 u2 u3 k d W (Below.refl _ _)));have KN1 := hid9 (fun W (d : JAt p base v1 v2 v3 w W v1 v2 v3 m) => pNum_c p base v1 v2 v3 m m1 x1 (sizeK id) W d.at_ (ho.mono (by omega)) (fun X hX => HTJ.out _ _ _ _ _ d X hX) E1);have HER := hid9 (show (if at_ < 0 ∨ n < 1 ∨ x1 ≤ at_ then pure noB else readL id at_ (at_ + min n (x1 - at_)) fuelN (at_ / 8) noB : Pg ByteArray).run m1 = (m', x) from by rw [readP_eq, Pg.run_bind, E1] at E; exact E);clear h ho E E1 HT;go_enter func161, ntmps161;go_wp2_with fail;refine (KS.out _ _ _ _ _ J0.out).mono ?_;rintro e wk ⟨rfl, hb⟩;have Jk := hid9 (J0.out.below hb);clear hb;go_wp2_with fail;refine (KN1.out _ Jk.out).mono ?_;rintro e w1 ⟨u1, u2, u3, rfl, hm, hg, q1, q2, q3⟩;have J1 := hid9 (Jk.out.next hm hg q1 q2 q3);clear hm hg q1 q2 q3 Jk J0 KN1;by_cases c1 : at_ < 0
 ·obtain ⟨e1, e2⟩ := Prod.mk.inj (show (m1, noB) = (m', x) from by have h := HER.out; rw [if_pos (.inl c1)] at h; exact h);subst e1 e2;have HEND := hid9 (J1.out.done (.string ⟨#[]⟩));clear HER;go_wp2;go_ret;exact HEND.out
 ·by_cases c2 : n < 1
  ·obtain ⟨e1, e2⟩ := Prod.mk.inj (show (m1, noB) = (m', x) from by have h := HER.out; rw [if_pos (.inr (.inl c2))] at h; exact h);subst e1 e2;have HEND := hid9 (J1.out.done (.string ⟨#[]⟩));clear HER;go_wp2;go_ret;exact HEND.out
  ·by_cases c3 : x1 ≤ at_
   ·obtain ⟨e1, e2⟩ := Prod.mk.inj (show (m1, noB) = (m', x) from by have h := HER.out; rw [if_pos (.inr (.inr c3))] at h; exact h);subst e1 e2;have HEND := hid9 (J1.out.done (.string ⟨#[]⟩));clear HER;go_wp2;go_ret;exact HEND.out
   ·have hr := HER.out;rw [if_neg (by omega)] at hr;have hw1 : IntKind.i64.wrap (x1 - at_) = x1 - at_ := by rw [IntKind.wrap_i64]; omega
    have hwd : IntKind.i64.wrap (at_.tdiv 8) = at_ / 8 := by rw [IntKind.wrap_i64, Int.tdiv_eq_ediv_of_nonneg (by omega)]; omega
    obtain ⟨en, hen⟩ : ∃ en, at_ + min n (x1 - at_) = en := ⟨_, rfl⟩;have hb1 : at_ < en ∧ en ≤ 999 := by omega
    rw [hen] at hr;have hw2 : IntKind.i64.wrap (at_ + min n (x1 - at_)) = en := by rw [IntKind.wrap_i64]; omega
    have HR0 := hid9 hr;clear hr HER hen;go_wp2;go_loopw [11, 12] (fun v vp wr => ∃ pl : Int, ∃ f : Nat, ∃ acc : ByteArray, v = .string acc ∧ vp = .int .i64 pl ∧ Hid (∃ y1 y2 y3 mk, JAt p base v1 v2 v3 w wr y1 y2 y3 mk ∧ MOk (800000000001 + pl.toNat) mk ∧ at_ / 8 ≤ pl ∧ pl ≤ 1000 ∧ en ≤ (pl + f) * 8 ∧ acc.size ≤ 8 * pl.toNat ∧ (readL id at_ en f pl acc).run mk = (m', x))) (fun _ i _ => (1001 - intOf i).toNat)
    case atStart => exact ⟨at_ / 8, fuelN, noB, rfl, rfl, hid9 ⟨_, _, _, _, J1.out, O1.out.mono (by omega), Int.le_refl _, by omega, by omega, Nat.zero_le _, HR0.out⟩⟩
    case round =>
     obtain ⟨pl, f, acc, rfl, rfl, HI0⟩ := hrel;obtain ⟨y1, y2, y3, mk, hl, ho, hp0, hp1, hp2, hacc, hr⟩ := HI0.out;have HL := hid9 hl;have HO := hid9 ho;have HR := hid9 hr;clear hl ho hr HI0 J1 HR0 O1;have hwp : IntKind.i64.wrap (pl * 8) = pl * 8 := by rw [IntKind.wrap_i64]; omega
     have hwp1 : IntKind.i64.wrap (pl + 1) = pl + 1 := by rw [IntKind.wrap_i64]; omega
     by_cases hc : pl * 8 < en
     ·obtain ⟨g, rfl⟩ : ∃ g, f = g + 1 := ⟨f - 1, by omega⟩;have hpi : I64 pl := ⟨by omega, by omega⟩;obtain ⟨n1, bx, F1⟩ : ∃ aa bb, (blockP id pl).run mk = (aa, bb) := ⟨_, _, rfl⟩;have sbx := block_sz HO.out F1;have P1 := hid9 ((blockP_cost _ _).okE HO.out F1);have KB := hid9 (pBlock_c p base y1 y2 y3 mk n1 bx id pl wr HL.out.at_ (HO.out.mono (by omega)) hn hpi (fun X hX => HTJ.out _ _ _ _ _ HL.out X hX) F1);have hr := HR.out;rw [readL_yes hc, Pg.run_bind, F1] at hr;have HR1 := hid9 hr;clear HR hr F1;go_wp2_with fail;refine KB.out.mono ?_;rintro e wn ⟨r1, r2, r3, rfl, hm, hg, q1, q2, q3⟩;have JN := hid9 (HL.out.next hm hg q1 q2 q3);clear hm hg q1 q2 q3 HL KB HO;have hwf : IntKind.i64.wrap (at_ - pl * 8) = at_ - pl * 8 := by rw [IntKind.wrap_i64]; omega
      have hwt : IntKind.i64.wrap (en - pl * 8) = en - pl * 8 := by rw [IntKind.wrap_i64]; omega
      obtain ⟨fv, hfv⟩ : ∃ fv : Nat, max (at_ - pl * 8) 0 = (fv : Int) := ⟨(max (at_ - pl * 8) 0).toNat, by omega⟩;obtain ⟨tv, htv2⟩ : ∃ tv : Nat, min (en - pl * 8) (min 8 (bx.size : Int)) = (tv : Int) := ⟨(min (en - pl * 8) (min 8 (bx.size : Int))).toNat, by omega⟩;have htv : (if (bx.size : Int) < (if 8 < en - pl * 8 then 8 else en - pl * 8) then (bx.size : Int) else (if 8 < en - pl * 8 then 8 else en - pl * 8)) = (tv : Int) := by omega
      have htb : tv ≤ bx.size ∧ tv ≤ 8 := by omega
      have HPC := hid9 (show pieceOf bx pl at_ en = bx.extract fv tv from by unfold pieceOf; rw [hfv, htv2]; rfl);clear htv2;by_cases hft : fv < tv
      ·have t1 : (fv : Int) < (tv : Int) := by omega
       have t0 : (0 : Int) ≤ (fv : Int) := by omega
       have t2 : (fv : Int) ≤ (tv : Int) := by omega
       have t3 : (tv : Int) ≤ (bx.size : Int) := by omega
       have hadd : ∀ t, binOp .add t (.string acc) (.string (bx.extract fv tv)) = pure (.string (acc ++ bx.extract fv tv)) := fun t => add_run (by rw [ByteArray.size_extract]; omega);have HR2 := hid9 (show (readL id at_ en g (pl + 1) (acc ++ bx.extract fv tv)).run n1 = (m', x) from by rw [← HPC.out]; exact HR1.out);have hs2 := hid9 (show (acc ++ bx.extract fv tv).size ≤ 8 * (pl + 1).toNat from by rw [ByteArray.size_append, ByteArray.size_extract]; omega);clear HR1 HPC;go_wp2;go_roundw
       case rel => exact ⟨pl + 1, g, _, rfl, by first | rfl | go_num, hid9 ⟨_, _, _, _, JN.out, P1.out.mono (by omega), by omega, by omega, by omega, hs2.out, HR2.out⟩⟩
       case measure => simp [intOf]; omega
      ·have t1 : ¬ (fv : Int) < (tv : Int) := by omega
       have HR2 := hid9 (show (readL id at_ en g (pl + 1) acc).run n1 = (m', x) from by have h := HR1.out; rw [HPC.out, ext_none (by omega), ByteArray.append_empty] at h; exact h);clear HR1 HPC;go_wp2;go_roundw
       case rel => exact ⟨pl + 1, g, _, rfl, by first | rfl | go_num, hid9 ⟨_, _, _, _, JN.out, P1.out.mono (by omega), by omega, by omega, by omega, by omega, HR2.out⟩⟩
       case measure => simp [intOf]; omega
     ·obtain ⟨e1, e2⟩ := Prod.mk.inj (show (m', x) = (mk, acc) from by have h := HR.out; rw [readL_end hc] at h; exact h.symm);subst e1 e2;have HEND := hid9 (HL.out.done (.string x));clear HR HL HO;go_wp2;go_ret;exact HEND.out
set_option maxRecDepth 100000 in
theorem pCut_c (p base : Nat) (v1 v2 v3 : Value) (m m' : Mch) (x : Int) (id n : Int) (w : World) (h : MAt w p base v1 v2 v3 m) (ho : MOk 800000000000 m) (hn : I64 id) (HT : ∀ W, Below base w W → Tabs W) (E : (cutP id n).run m = (m', x)) :
 Calls prog 163 #[.pointer (some ⟨p, 0, none⟩), .int .i64 id, .int .i64 n] w (MStep p base v1 v2 v3 m' (.int .i64 x) w) := by
 have hfu := fuelN_is;obtain ⟨m1, x1, E1⟩ : ∃ aa bb, (numP (sizeK id)).run m = (aa, bb) := ⟨_, _, rfl⟩;have bx1 := numP_bounds E1;have O1 := hid9 ((numP_cost _).okE ho E1);have J0 := hid9 (JAt.first h);have HTJ := hid9 (fun W u1 u2 u3 k (d : JAt p base v1 v2 v3 w W u1 u2 u3 k) W' (hW : Below base W W') => HT W' ((d.bel h).trans hW));have KS := hid9 (fun W u1 u2 u3 k (d : JAt p base v1 v2 v3 w W u1 u2 u3 k) => sizeKey_c id W hn (HTJ.out W u1 u2 u3 k d W (Below.refl _ _)));have KN1 := hid9 (fun W (d : JAt p base v1 v2 v3 w W v1 v2 v3 m) => pNum_c p base v1 v2 v3 m m1 x1 (sizeK id) W d.at_ (ho.mono (by omega)) (fun X hX => HTJ.out _ _ _ _ _ d X hX) E1);have HER := hid9 (show (if inB n 0 x1 = true then (if 0 < n % 8 then (blockP id (n / 8) >>= fun b => layP (blockK id (n / 8)) (hexV (b.extract 0 (min (n % 8) b.size).toNat)) >>= fun _ => cutL id x1 fuelN (n / 8 + 1) >>= fun _ => setP (sizeK id) n >>= fun _ => pure 0) else (cutL id x1 fuelN (n / 8) >>= fun _ => setP (sizeK id) n >>= fun _ => pure 0)) else pure 4 : Pg Int).run m1 = (m', x) from by rw [cutP_eq, Pg.run_bind, E1] at E; exact E);clear h ho E E1 HT;have KW := hid9 (fun W => within_c n 0 x1 W);go_enter func163, ntmps163;go_wp2_with fail;refine (KS.out _ _ _ _ _ J0.out).mono ?_;rintro e wk ⟨rfl, hb⟩;have Jk := hid9 (J0.out.below hb);clear hb;go_wp2_with fail;refine (KN1.out _ Jk.out).mono ?_;rintro e w1 ⟨u1, u2, u3, rfl, hm, hg, q1, q2, q3⟩;have J1 := hid9 (Jk.out.next hm hg q1 q2 q3);clear hm hg q1 q2 q3 Jk J0 KN1;cases hb : inB n 0 x1 with
 | false =>
  rw [hb] at KW;obtain ⟨e1, e2⟩ := Prod.mk.inj (show (m1, (4 : Int)) = (m', x) from by have h := HER.out; rw [if_neg (by rw [hb]; decide)] at h; exact h);subst e1 e2;have HEND := hid9 (J1.out.done (.int .i64 4));clear HER;go_wp2_with fail;refine (KW.out _).mono ?_;rintro e w2 ⟨rfl, rfl⟩;go_wp2;go_ret;exact HEND.out
 | true =>
  rw [hb] at KW;have hnb := inB_iff.1 hb;have hr := HER.out;rw [if_pos hb] at hr;have HR0 := hid9 hr;clear HER hr hb;have hwd : IntKind.i64.wrap (n.tdiv 8) = n / 8 := by rw [IntKind.wrap_i64, Int.tdiv_eq_ediv_of_nonneg (by omega)]; omega
  have hwm : IntKind.i64.wrap (n.tmod 8) = n % 8 := by rw [IntKind.wrap_i64, Int.tmod_eq_emod_of_nonneg (by omega)]; omega
  have hpd : I64 (n / 8) := ⟨by omega, by omega⟩;have hwd1 : IntKind.i64.wrap (n / 8 + 1) = n / 8 + 1 := by rw [IntKind.wrap_i64]; omega
  go_wp2_with fail;refine (KW.out _).mono ?_;rintro e w2 ⟨rfl, rfl⟩;by_cases c8 : 0 < n % 8
  ·have c9 : 0 < n.tmod 8 := by rw [Int.tmod_eq_emod_of_nonneg (by omega)]; omega
   obtain ⟨n1, bx, F1⟩ : ∃ aa bb, (blockP id (n / 8)).run m1 = (aa, bb) := ⟨_, _, rfl⟩;have sbx := block_sz O1.out F1;have P1 := hid9 ((blockP_cost _ _).okE O1.out F1);obtain ⟨qv, hqv⟩ : ∃ qv : Nat, min (n % 8) (bx.size : Int) = (qv : Int) := ⟨(min (n % 8) (bx.size : Int)).toNat, by omega⟩;have hmn : min (n.tmod 8) (bx.size : Int) = (qv : Int) := by rw [Int.tmod_eq_emod_of_nonneg (by omega)]; exact hqv
   have hqb : qv ≤ bx.size := by omega
   have t2 : (qv : Int) ≤ (bx.size : Int) := by omega
   have t0 : (0 : Int) ≤ (qv : Int) := by omega
   obtain ⟨n2, ul, F2⟩ : ∃ aa bb, (layP (blockK id (n / 8)) (hexV (bx.extract 0 qv))).run n1 = (aa, bb) := ⟨_, _, rfl⟩;have P2 := hid9 ((layP_cost _ _).okE P1.out F2);have KB := hid9 (fun W (d : JAt p base v1 v2 v3 w W u1 u2 u3 m1) => pBlock_c p base u1 u2 u3 m1 n1 bx id (n / 8) W d.at_ (O1.out.mono (by omega)) hn hpd (fun X hX => HTJ.out _ _ _ _ _ d X hX) F1);have HR1 := hid9 (show (cutL id x1 fuelN (n / 8 + 1) >>= fun _ => setP (sizeK id) n >>= fun _ => pure 0 : Pg Int).run n2 = (m', x) from by have h := HR0.out; rw [if_pos c8, Pg.run_bind, F1] at h; simp only at h; rw [hqv, Int.toNat_natCast, Pg.run_bind, F2] at h; exact h);have KK := hid9 (fun W (h : Tabs W) => blockKey_c id (n / 8) W hn hpd h);have KH := hid9 (fun W => hexOf_c (bx.extract 0 qv) W);have hhz := hexV_size (bx.extract 0 qv);have HF2 := hid9 F2;clear HR0 F1 F2 hqv;go_wp2_with fail;refine (KB.out _ J1.out).mono ?_;rintro e wn ⟨r1, r2, r3, rfl, hm, hg, q1, q2, q3⟩;have JN := hid9 (J1.out.next hm hg q1 q2 q3);clear hm hg q1 q2 q3 J1 KB;have KL := hid9 (fun W (d : JAt p base v1 v2 v3 w W r1 r2 r3 n1) => pLay_c p base r1 r2 r3 n1 n2 ul (blockK id (n / 8)) (hexV (bx.extract 0 qv)) W d.at_ (P1.out.mono (by omega)) (kle (blockK_size hn hpd)) (by unfold maxLen; omega) HF2.out);go_wp2_with fail;refine wp_region_Y (fun _ => True) [] (by kernel_rfl) trivial (fun hS => ?_);refine wpAnyY_pure (i := 0) (oi := _) (v := ?_) rfl (by kernel_rfl) (by kernel_rfl) (by kernel_rfl) (by kernel_rfl) (fun _ _ _ h => h) (Or.inl ⟨by rfl, ?_⟩) (Or.inr hS) ?_
   rotate_left
   ·(intro w hSw; (try dsimp only at hSw); go_simp); all_goals with_reducible rfl
   try simp only [Act.put, List.getElem_toArray, List.getElem_cons_zero, List.getElem_cons_succ, List.setIfInBounds_toArray, List.set_cons_zero, List.set_cons_succ]
   refine wpAnyY_pure (i := 1) (oi := _) (v := ?_) rfl (by kernel_rfl) (by kernel_rfl) (by kernel_rfl) (by kernel_rfl) (fun _ _ _ h => h) (Or.inl ⟨by rfl, ?_⟩) (Or.inr hS) ?_
   rotate_left
   ·(intro w hSw; (try dsimp only at hSw); go_simp); all_goals with_reducible rfl
   try simp only [Act.put, List.getElem_toArray, List.getElem_cons_zero, List.getElem_cons_succ, List.setIfInBounds_toArray, List.set_cons_zero, List.set_cons_succ]
   refine wpAnyY_pure (i := 2) (oi := _) (v := ?_) rfl (by kernel_rfl) (by kernel_rfl) (by kernel_rfl) (by kernel_rfl) (fun _ _ _ h => h) (Or.inl ⟨by rfl, ?_⟩) (Or.inr hS) ?_
   rotate_left
   ·(intro w hSw; (try dsimp only at hSw); go_simp); all_goals with_reducible rfl
   try simp only [Act.put, List.getElem_toArray, List.getElem_cons_zero, List.getElem_cons_succ, List.setIfInBounds_toArray, List.set_cons_zero, List.set_cons_succ]
   refine wpAnyY_pure (i := 4) (oi := _) (v := ?_) rfl (by kernel_rfl) (by kernel_rfl) (by kernel_rfl) (by kernel_rfl) (fun _ _ _ h => h) (Or.inl ⟨by rfl, ?_⟩) (Or.inr hS) ?_
   rotate_left
   ·(intro w hSw; (try dsimp only at hSw); go_simp); all_goals with_reducible rfl
   try simp only [Act.put, List.getElem_toArray, List.getElem_cons_zero, List.getElem_cons_succ, List.setIfInBounds_toArray, List.set_cons_zero, List.set_cons_succ]
   refine wpAnyY_pure (i := 5) (oi := _) (v := ?_) rfl (by kernel_rfl) (by kernel_rfl) (by kernel_rfl) (by kernel_rfl) (fun _ _ _ h => h) (Or.inl ⟨by rfl, ?_⟩) (Or.inr hS) ?_
   rotate_left
   ·(intro w hSw; (try dsimp only at hSw); go_simp); all_goals with_reducible rfl
   try simp only [Act.put, List.getElem_toArray, List.getElem_cons_zero, List.getElem_cons_succ, List.setIfInBounds_toArray, List.set_cons_zero, List.set_cons_succ]
   refine wpAnyY_pure (i := 6) (oi := _) (v := ?_) rfl (by kernel_rfl) (by kernel_rfl) (by kernel_rfl) (by kernel_rfl) (fun _ _ _ h => h) (Or.inl ⟨by rfl, ?_⟩) (Or.inr hS) ?_
   rotate_left
   ·(intro w hSw; (try dsimp only at hSw); go_simp); all_goals with_reducible rfl
   try simp only [Act.put, List.getElem_toArray, List.getElem_cons_zero, List.getElem_cons_succ, List.setIfInBounds_toArray, List.set_cons_zero, List.set_cons_succ]
   refine wpAnyY_pure (i := 7) (oi := _) (v := ?_) rfl (by kernel_rfl) (by kernel_rfl) (by kernel_rfl) (by kernel_rfl) (fun _ _ _ h => h) (Or.inl ⟨by rfl, ?_⟩) (Or.inr hS) ?_
   rotate_left
   ·(intro w hSw; (try dsimp only at hSw); go_simp); all_goals with_reducible rfl
   try simp only [Act.put, List.getElem_toArray, List.getElem_cons_zero, List.getElem_cons_succ, List.setIfInBounds_toArray, List.set_cons_zero, List.set_cons_succ]
   refine wpAnyY_pure (i := 8) (oi := _) (v := ?_) rfl (by kernel_rfl) (by kernel_rfl) (by kernel_rfl) (by kernel_rfl) (fun _ _ _ h => h) (Or.inl ⟨by rfl, ?_⟩) (Or.inr hS) ?_
   rotate_left
   ·(intro w hSw; (try dsimp only at hSw); go_simp); all_goals with_reducible rfl
   try simp only [Act.put, List.getElem_toArray, List.getElem_cons_zero, List.getElem_cons_succ, List.setIfInBounds_toArray, List.set_cons_zero, List.set_cons_succ]
   refine wpAnyY_pure (i := 9) (oi := _) (v := ?_) rfl (by kernel_rfl) (by kernel_rfl) (by kernel_rfl) (by kernel_rfl) (fun _ _ _ h => h) (Or.inl ⟨by rfl, ?_⟩) (Or.inr hS) ?_
   rotate_left
   ·(intro w hSw; (try dsimp only at hSw); go_simp); all_goals with_reducible rfl
   try simp only [Act.put, List.getElem_toArray, List.getElem_cons_zero, List.getElem_cons_succ, List.setIfInBounds_toArray, List.set_cons_zero, List.set_cons_succ]
   refine wpAnyY_pure (i := 10) (oi := _) (v := ?_) rfl (by kernel_rfl) (by kernel_rfl) (by kernel_rfl) (by kernel_rfl) (fun _ _ _ h => h) (Or.inl ⟨by rfl, ?_⟩) (Or.inr hS) ?_
   rotate_left
   ·(intro w hSw; (try dsimp only at hSw); go_simp); all_goals with_reducible rfl
   try simp only [Act.put, List.getElem_toArray, List.getElem_cons_zero, List.getElem_cons_succ, List.setIfInBounds_toArray, List.set_cons_zero, List.set_cons_succ]
   refine wpAnyY_one (i := 3) (o := _) (by kernel_rfl) rfl (fun K hK => ?_);go_simp;go_at_call 206;refine (KK.out _ (HTJ.out _ _ _ _ _ JN.out _ (Below.drew (Below.refl _ _)))).mono ?_;rintro e wa ⟨rfl, hb⟩;have JA := hid9 ((JN.out.below (Below.drew (Below.refl _ _))).below hb);clear hb;go_wp2_with fail;refine hK.out _ _ (Or.inr hS) ?_;clear hK K
   try simp only [Act.put, List.getElem_toArray, List.getElem_cons_zero, List.getElem_cons_succ, List.setIfInBounds_toArray, List.set_cons_zero, List.set_cons_succ]
   refine wpAnyY_one (i := 11) (o := _) (by kernel_rfl) rfl (fun K hK => ?_);go_simp;go_at_call 166;refine (KH.out _).mono ?_;rintro e wb ⟨rfl, hb⟩;have JB := hid9 (JA.out.below hb);clear hb JA JN;go_wp2_with fail;refine hK.out _ _ (Or.inr hS) ?_;clear hK K
   try simp only [Act.put, List.getElem_toArray, List.getElem_cons_zero, List.getElem_cons_succ, List.setIfInBounds_toArray, List.set_cons_zero, List.set_cons_succ]
   refine wpAnyY_one (i := 12) (o := _) (by kernel_rfl) rfl (fun K hK => ?_);go_simp;go_at_call 157;refine (KL.out _ JB.out).mono ?_;rintro e wc ⟨z1, z2, z3, rfl, hm, hg, q1, q2, q3⟩;have JC := hid9 (JB.out.next hm hg q1 q2 q3);clear hm hg q1 q2 q3 JB KL KH KK;go_wp2_with fail;refine hK.out _ _ (Or.inr hS) ?_;clear hK K
   try simp only [Act.put, List.getElem_toArray, List.getElem_cons_zero, List.getElem_cons_succ, List.setIfInBounds_toArray, List.set_cons_zero, List.set_cons_succ]
   refine wpAnyY_done (by kernel_rfl) ?_ _;obtain ⟨m3, u3, G3⟩ : ∃ aa bb, (cutL id x1 fuelN (n / 8 + 1)).run n2 = (aa, bb) := ⟨_, _, rfl⟩;have hr := HR1.out;rw [Pg.run_bind, G3] at hr;have HR3 := hid9 (show (setP (sizeK id) n >>= fun _ => pure 0 : Pg Int).run m3 = (m', x) from hr);have HG3 := hid9 G3;clear hr HR1 G3;go_wp2;go_loopw [8] (fun vp wr => ∃ pl : Int, ∃ f : Nat, vp = .int .i64 pl ∧ Hid (∃ y1 y2 y3 mk, JAt p base v1 v2 v3 w wr y1 y2 y3 mk ∧ MOk (900000000000 + pl.toNat) mk ∧ 0 ≤ pl ∧ pl ≤ 1000 ∧ x1 ≤ (pl + f) * 8 ∧ (cutL id x1 f pl).run mk = (m3, u3))) (fun i _ => (1001 - intOf i).toNat)
   case atStart => exact ⟨n / 8 + 1, fuelN, rfl, hid9 ⟨_, _, _, _, JC.out, P2.out.mono (by omega), by omega, by omega, by omega, HG3.out⟩⟩
   case round =>
    obtain ⟨pl, f, rfl, HI0⟩ := hrel;obtain ⟨y1, y2, y3, mk, hl, ho, hp0, hp1, hp2, hr⟩ := HI0.out;have HL := hid9 hl;have HO := hid9 ho;have HR := hid9 hr;clear hl ho hr HI0 JC HG3;have hwp : IntKind.i64.wrap (pl * 8) = pl * 8 := by rw [IntKind.wrap_i64]; omega
    have hwp1 : IntKind.i64.wrap (pl + 1) = pl + 1 := by rw [IntKind.wrap_i64]; omega
    by_cases hc : pl * 8 < x1
    ·obtain ⟨g, rfl⟩ : ∃ g, f = g + 1 := ⟨f - 1, by omega⟩;have hpi : I64 pl := ⟨by omega, by omega⟩;obtain ⟨n1, u, F1⟩ : ∃ aa bb, (layP (blockK id pl) noB).run mk = (aa, bb) := ⟨_, _, rfl⟩;have P1 := hid9 ((layP_cost _ _).okE HO.out F1);have KB := hid9 (blockKey_c id pl wr hn hpi (HTJ.out _ _ _ _ _ HL.out _ (Below.refl _ _)));have KL := hid9 (fun W (d : JAt p base v1 v2 v3 w W y1 y2 y3 mk) => pLay_c p base y1 y2 y3 mk n1 u (blockK id pl) noB W d.at_ (HO.out.mono (by omega)) (kle (blockK_size hn hpi)) (by decide) F1);have HR1 := hid9 (show (cutL id x1 g (pl + 1)).run n1 = (m3, u3) from by have h := HR.out; rw [cutL_yes hc, Pg.run_bind, F1] at h; exact h);clear HR F1;go_wp2_with fail;refine KB.out.mono ?_;rintro e wa ⟨rfl, hb⟩;have JA := hid9 (HL.out.below hb);clear hb KB HL;go_wp2_with fail;refine (KL.out _ JA.out).mono ?_;rintro e wn ⟨r1, r2, r3, rfl, hm, hg, q1, q2, q3⟩;have JN := hid9 (JA.out.next hm hg q1 q2 q3);clear hm hg q1 q2 q3 JA KL HO;go_wp2;go_roundw
     case rel => exact ⟨pl + 1, g, by first | rfl | go_num, hid9 ⟨_, _, _, _, JN.out, P1.out.mono (by omega), by omega, by omega, by omega, HR1.out⟩⟩
     case measure => simp [intOf]; omega
    ·obtain ⟨e1, _⟩ := Prod.mk.inj (show (m3, u3) = (mk, ()) from by have h := HR.out; rw [cutL_end hc] at h; exact h.symm);subst e1;obtain ⟨m4, u4, G4⟩ : ∃ aa bb, (setP (sizeK id) n).run m3 = (aa, bb) := ⟨_, _, rfl⟩;obtain ⟨e1, e2⟩ := Prod.mk.inj (show (m4, (0 : Int)) = (m', x) from by have h := HR3.out; rw [Pg.run_bind, G4] at h; exact h);subst e1 e2;have KT := hid9 (fun W (d : JAt p base v1 v2 v3 w W y1 y2 y3 m3) => pSet_c p base y1 y2 y3 m3 m4 u4 (sizeK id) n W d.at_ (HO.out.mono (by omega)) (kle (sizeK_size hn)) (fun X hX => HTJ.out _ _ _ _ _ d X hX) G4);clear HR HR3 G4;go_wp2_with fail;refine (KS.out _ _ _ _ _ HL.out).mono ?_;rintro e wa ⟨rfl, hb⟩;have JA := hid9 (HL.out.below hb);clear hb HL;go_wp2_with fail;refine (KT.out _ JA.out).mono ?_;rintro e wn ⟨r1, r2, r3, rfl, hm, hg, q1, q2, q3⟩;have HEND := hid9 ((JA.out.next hm hg q1 q2 q3).done (.int .i64 0));clear hm hg q1 q2 q3 JA KT HO;go_wp2;go_ret;exact HEND.out
  ·have c9 : ¬ 0 < n.tmod 8 := by rw [Int.tmod_eq_emod_of_nonneg (by omega)]; omega
   have HR1 := hid9 (show (cutL id x1 fuelN (n / 8) >>= fun _ => setP (sizeK id) n >>= fun _ => pure 0 : Pg Int).run m1 = (m', x) from by have h := HR0.out; rw [if_neg c8] at h; exact h);clear HR0;obtain ⟨m3, u3, G3⟩ : ∃ aa bb, (cutL id x1 fuelN (n / 8)).run m1 = (aa, bb) := ⟨_, _, rfl⟩;have hr := HR1.out;rw [Pg.run_bind, G3] at hr;have HR3 := hid9 (show (setP (sizeK id) n >>= fun _ => pure 0 : Pg Int).run m3 = (m', x) from hr);have HG3 := hid9 G3;clear hr HR1 G3;go_wp2;go_loopw [8] (fun vp wr => ∃ pl : Int, ∃ f : Nat, vp = .int .i64 pl ∧ Hid (∃ y1 y2 y3 mk, JAt p base v1 v2 v3 w wr y1 y2 y3 mk ∧ MOk (900000000000 + pl.toNat) mk ∧ 0 ≤ pl ∧ pl ≤ 1000 ∧ x1 ≤ (pl + f) * 8 ∧ (cutL id x1 f pl).run mk = (m3, u3))) (fun i _ => (1001 - intOf i).toNat)
   case atStart => exact ⟨n / 8, fuelN, rfl, hid9 ⟨_, _, _, _, J1.out, O1.out.mono (by omega), by omega, by omega, by omega, HG3.out⟩⟩
   case round =>
    obtain ⟨pl, f, rfl, HI0⟩ := hrel;obtain ⟨y1, y2, y3, mk, hl, ho, hp0, hp1, hp2, hr⟩ := HI0.out;have HL := hid9 hl;have HO := hid9 ho;have HR := hid9 hr;clear hl ho hr HI0 J1 HG3;have hwp : IntKind.i64.wrap (pl * 8) = pl * 8 := by rw [IntKind.wrap_i64]; omega
    have hwp1 : IntKind.i64.wrap (pl + 1) = pl + 1 := by rw [IntKind.wrap_i64]; omega
    by_cases hc : pl * 8 < x1
    ·obtain ⟨g, rfl⟩ : ∃ g, f = g + 1 := ⟨f - 1, by omega⟩;have hpi : I64 pl := ⟨by omega, by omega⟩;obtain ⟨n1, u, F1⟩ : ∃ aa bb, (layP (blockK id pl) noB).run mk = (aa, bb) := ⟨_, _, rfl⟩;have P1 := hid9 ((layP_cost _ _).okE HO.out F1);have KB := hid9 (blockKey_c id pl wr hn hpi (HTJ.out _ _ _ _ _ HL.out _ (Below.refl _ _)));have KL := hid9 (fun W (d : JAt p base v1 v2 v3 w W y1 y2 y3 mk) => pLay_c p base y1 y2 y3 mk n1 u (blockK id pl) noB W d.at_ (HO.out.mono (by omega)) (kle (blockK_size hn hpi)) (by decide) F1);have HR1 := hid9 (show (cutL id x1 g (pl + 1)).run n1 = (m3, u3) from by have h := HR.out; rw [cutL_yes hc, Pg.run_bind, F1] at h; exact h);clear HR F1;go_wp2_with fail;refine KB.out.mono ?_;rintro e wa ⟨rfl, hb⟩;have JA := hid9 (HL.out.below hb);clear hb KB HL;go_wp2_with fail;refine (KL.out _ JA.out).mono ?_;rintro e wn ⟨r1, r2, r3, rfl, hm, hg, q1, q2, q3⟩;have JN := hid9 (JA.out.next hm hg q1 q2 q3);clear hm hg q1 q2 q3 JA KL HO;go_wp2;go_roundw
     case rel => exact ⟨pl + 1, g, by first | rfl | go_num, hid9 ⟨_, _, _, _, JN.out, P1.out.mono (by omega), by omega, by omega, by omega, HR1.out⟩⟩
     case measure => simp [intOf]; omega
    ·obtain ⟨e1, _⟩ := Prod.mk.inj (show (m3, u3) = (mk, ()) from by have h := HR.out; rw [cutL_end hc] at h; exact h.symm);subst e1;obtain ⟨m4, u4, G4⟩ : ∃ aa bb, (setP (sizeK id) n).run m3 = (aa, bb) := ⟨_, _, rfl⟩;obtain ⟨e1, e2⟩ := Prod.mk.inj (show (m4, (0 : Int)) = (m', x) from by have h := HR3.out; rw [Pg.run_bind, G4] at h; exact h);subst e1 e2;have KT := hid9 (fun W (d : JAt p base v1 v2 v3 w W y1 y2 y3 m3) => pSet_c p base y1 y2 y3 m3 m4 u4 (sizeK id) n W d.at_ (HO.out.mono (by omega)) (kle (sizeK_size hn)) (fun X hX => HTJ.out _ _ _ _ _ d X hX) G4);clear HR HR3 G4;go_wp2_with fail;refine (KS.out _ _ _ _ _ HL.out).mono ?_;rintro e wa ⟨rfl, hb⟩;have JA := hid9 (HL.out.below hb);clear hb HL;go_wp2_with fail;refine (KT.out _ JA.out).mono ?_;rintro e wn ⟨r1, r2, r3, rfl, hm, hg, q1, q2, q3⟩;have HEND := hid9 ((JA.out.next hm hg q1 q2 q3).done (.int .i64 0));clear hm hg q1 q2 q3 JA KT HO;go_wp2;go_ret;exact HEND.out
end
section
variable {t : ByteArray} {p a e : Int} {b l : List UInt8}
theorem pad_same {n : Nat} (h : n ≤ l.length) : padB l n = l := by
 unfold padB;rw [show n - l.length = 0 by omega];simp
theorem pad_more {n : Nat} (h : l.length < n) : padB (l ++ [0]) n = padB l n := by
 unfold padB;rw [List.length_append, List.length_singleton, List.append_assoc];congr 1;rw [show n - l.length = (n - (l.length + 1)) + 1 by omega, List.replicate_succ];rfl
theorem pad_len (l : List UInt8) (n : Nat) : (padB l n).length = max l.length n := by
 unfold padB;rw [List.length_append, List.length_replicate];omega
def wrL (t : ByteArray) (p a e : Int) (b : List UInt8) (k : Nat) : List UInt8 := (List.range k).foldl (stepB t p a e) b
theorem wr_succ (k : Nat) : wrL t p a e b (k + 1) = stepB t p a e (wrL t p a e b k) k := by
 unfold wrL;rw [List.range_succ, List.foldl_append];rfl
theorem wr_out {k : Nat} (h : ¬ (a ≤ p * 8 + k ∧ p * 8 + k < e)) : wrL t p a e b (k + 1) = wrL t p a e b k := by
 rw [wr_succ];unfold stepB;rw [if_neg h]
theorem wr_in {k : Nat} (h1 : a ≤ p * 8 + k) (h2 : p * 8 + k < e) (h3 : (p * 8 + k - a).toNat < t.size) : wrL t p a e b (k + 1) = (padB (wrL t p a e b k) (k + 1)).set k t[(p * 8 + k - a).toNat] := by
 rw [wr_succ];unfold stepB;rw [if_pos ⟨h1, h2⟩];congr 1;have hl : t.data.toList.length = t.size := Array.length_toList;rw [List.getD_eq_getElem?_getD, List.getElem?_eq_getElem (by rw [hl]; exact h3)];rfl
theorem wr_end {old : ByteArray} : newBlock old t p a e = ⟨(wrL t p a e old.data.toList 8).toArray⟩ := rfl
theorem wr_lo {k : Nat} (h : p * 8 + k ≤ a) : wrL t p a e b k = b := by
 induction k with
 | zero => rfl
 | succ k ih => rw [wr_out (by omega), ih (by omega)]
theorem wr_hi {k : Nat} (n : Nat) (h : e ≤ p * 8 + k) : wrL t p a e b (k + n) = wrL t p a e b k := by
 induction n with
 | zero => rfl
 | succ n ih => rw [← Nat.add_assoc, wr_out (by omega), ih]
theorem wr_len (k : Nat) : (wrL t p a e b k).length ≤ max b.length k := by
 induction k with
 | zero => simp [wrL]
 | succ k ih =>
  rw [wr_succ];unfold stepB;split
  ·rw [List.length_set, pad_len]; omega
  ·omega
end
section
open Go.ChangeShapes Go.WideShapes Go.ChangeAt Go.RowKit
def NoFz (fz : Nat × Nat) (n : Nat) : Prop := ∀ j, j < n → (decide (fz.1 ≤ j) && decide (j < fz.2)) = false
def valB (b : UInt8) : Value := .int .u8 (b.toNat : Int)
def GRow (w : World) (base : Nat) (v : Value) (l : List UInt8) : Prop :=
 ∃ g cap cur fz, v = .slice (some ⟨g, 0, none⟩) l.length cap ∧ base ≤ g ∧ w.heap[g]? = some (.cells cur 5 fz) ∧ NoFz fz cur.size ∧ l.length ≤ cap ∧ cap ≤ maxLen ∧ cur.size = cap ∧ cur.toList.take l.length = l.map valB
def sliceN : Value → Nat
 | .slice _ n _ => n
 | _ => 0
section
variable {w w' : World} {base : Nat} {v : Value} {l : List UInt8}
theorem GRow.lt (h : GRow w base v l) : ∀ k, v.ownBlock = some k → base ≤ k ∧ k < w.heap.size := by
 intro k hk;obtain ⟨g, cap, cur, fz, rfl, hb, hg, _⟩ := h;simp [Value.ownBlock] at hk;subst hk;exact ⟨hb, (Array.getElem?_eq_some_iff.1 hg).1⟩
theorem GRow.shape (h : GRow w base v l) : ∃ g cap, v = .slice (some ⟨g, 0, none⟩) l.length cap ∧ base ≤ g := by
 obtain ⟨g, cap, cur, fz, hv, hb, _⟩ := h;exact ⟨g, cap, hv, hb⟩
theorem GRow.below (h : GRow w base v l) (hb : Below w.heap.size w w') : GRow w' base v l := by
 obtain ⟨g, cap, cur, fz, hv, h1, hg, rest⟩ := h;exact ⟨g, cap, cur, fz, hv, h1, (hb.block g (Array.getElem?_eq_some_iff.1 hg).1).trans hg, rest⟩
theorem frozen_of_noFz {g j : Nat} {cur : Array Value} {e : TypeId} {fz : Nat × Nat} (hg : w.heap[g]? = some (.cells cur e fz)) (hf : NoFz fz cur.size) (hj : j < cur.size) : w.frozen? ⟨g, j, none⟩ = false := by
 obtain ⟨lo, hi⟩ := fz;simp only [World.frozen?, hg];exact hf j hj
theorem GRow.cell {g n cap : Nat} (h : GRow w base (.slice (some ⟨g, 0, none⟩) n cap) l) {j : Nat} (hj : j < l.length) : w.cell? ⟨g, j, none⟩ = some (valB l[j]) ∧ w.frozen? ⟨g, j, none⟩ = false := by
 obtain ⟨g', cap', cur, fz, hv, hb, hg, hf, hc, hm, hs, ht⟩ := h;simp only [Value.slice.injEq, Option.some.injEq, Addr.mk.injEq, and_true, true_and] at hv;obtain ⟨rfl, _, rfl⟩ := hv;have hjc : j < cur.size := by omega
 refine ⟨?_, frozen_of_noFz hg hf hjc⟩;rw [cell_of_row w g j cur _ fz hg];have h1 : cur.toList[j]? = (l.map valB)[j]? := by rw [← ht, List.getElem?_take, if_pos hj]
 rw [List.getElem?_map, List.getElem?_eq_getElem hj] at h1;rw [← Array.getElem?_toList];exact h1
theorem GRow.set {g n cap : Nat} (h : GRow w base (.slice (some ⟨g, 0, none⟩) n cap) l) (j : Nat) (x : UInt8) : GRow (w.setCell ⟨g, j, none⟩ (valB x)) base (.slice (some ⟨g, 0, none⟩) n cap) (l.set j x) ∧ w.grownBy (w.setCell ⟨g, j, none⟩ (valB x)) (some g) := by
 obtain ⟨g', cap', cur, fz, hv, hb, hg, hf, hc, hm, hs, ht⟩ := h;simp only [Value.slice.injEq, Option.some.injEq, Addr.mk.injEq, and_true, true_and] at hv;obtain ⟨rfl, rfl, rfl⟩ := hv;refine ⟨⟨g, cap, cur.setIfInBounds j (valB x), fz, by rw [List.length_set], hb, ?_, by rw [Array.size_setIfInBounds]; exact hf, by rw [List.length_set]; exact hc, hm, by rw [Array.size_setIfInBounds]; exact hs, ?_⟩, grownBy_setCell w g j (valB x)⟩
 ·have hlt := (Array.getElem?_eq_some_iff.1 hg).1;simp only [World.setCell];rw [Array.getElem?_modify, if_pos rfl, hg];rfl
 ·rw [Array.toList_setIfInBounds, List.length_set, List.map_set, ← ht, List.take_set]
theorem GRow.made (w : World) (s : ByteArray) (hs : s.size ≤ maxLen) : GRow (w.drew.alloc (.cells (bytesRow s (grownCap w s.size 0 5)) 5 ((bytesRow s (grownCap w s.size 0 5)).size, (bytesRow s (grownCap w s.size 0 5)).size + 1))) w.heap.size (.slice (some ⟨w.heap.size, 0, none⟩) s.size (grownCap w s.size 0 5)) s.data.toList := by
 have hge := grownCap_ge w s.size 0 5;have hcm := grownCap_le_maxLen w s.size 0 5 hs;generalize grownCap w s.size 0 5 = C at *;have hl : s.data.toList.length = s.size := Array.length_toList;refine ⟨w.heap.size, C, bytesRow s C, _, by rw [hl], Nat.le_refl _, heap_alloc_new w.drew _, fun j hj => ?_, by rw [hl]; exact hge, hcm, ?_, ?_⟩
 ·simp only [Bool.and_eq_false_iff, decide_eq_false_iff_not];omega
 ·unfold bytesRow;rw [Array.size_append, Array.size_map, Array.size_replicate];have : s.data.size = s.size := rfl;omega
 ·unfold bytesRow;rw [Array.toList_append, Array.toList_map, List.take_left' (by rw [List.length_map])];rfl
theorem GRow.conv (h : GRow w base v l) : (convert 22 9 v).run prog w = .ok (.string ⟨l.toArray⟩) w := by
 obtain ⟨g, cap, rfl, _⟩ := h.shape;exact run_convert_bytes_back w _ _ 5 ⟨g, 0, none⟩ cap l underlying22 underlying5 underlying9 (fun j hj => by
  rw [show (⟨g, 0, none⟩ : Addr).add j = ⟨g, j, none⟩ by unfold Addr.add; split <;> simp_all];exact (h.cell hj).1)
theorem run_store1 {P : Program} {g o : Nat} {t : TypeId} {fz : Nat × Nat} {x : Value} {cur : Array Value} (hg : w.heap[g]? = some (.cells cur t fz)) (hf : NoFz fz cur.size) (hl : o < cur.size) (h1 : x.oneCell' = true) :
 (storeCells ⟨g, o, none⟩ [x] 0).run P w = .ok () (w.setCell ⟨g, o, none⟩ x) := by
 have hadd : (⟨g, o, none⟩ : Addr).add 0 = ⟨g, o, none⟩ := by unfold Addr.add; split <;> simp_all
 have hcell : w.cell? ⟨g, o, none⟩ = some cur[o] := by simp [World.cell?, hg, hl]
 have hfro := frozen_of_noFz hg hf hl;have hst : (store ((⟨g, o, none⟩ : Addr).add 0) x).run P w = .ok () (w.setCell ⟨g, o, none⟩ x) := by
  rw [hadd, run_store P w _ x _ h1, hcell];simp [hfro]
 simp only [storeCells, Sem.run_bind, hst, Result.andThen_ok];rfl
theorem run_append_G {P : Program} (t ty : TypeId) (i : TypeInfo) (ht : P.underlying t = some (.slice 5)) (hi : P.info? 5 = some i) (hz : i.zero = some (.int .u8 0)) (hsize : i.size = 1) (hby : i.bytes = 1)
 (hown : GRow w base v l) (a : Addr) (c : Nat) (x : UInt8) (hnews : ∀ j u, [valB x][j]? = some u → w.cell? (a.add j) = some u) (hbytes : l.length + 1 ≤ 140737488355328) (hbase : base ≤ w.heap.size) :
 ∃ v' w', (Builtin.append_ #[t, t] ty #[v, .slice (some a) 1 c]).run P w = .ok v' w' ∧ GRow w' base v' (l ++ [x]) ∧ w.grownBy w' v.ownBlock := by
 obtain ⟨g, cap, cur, fz, rfl, hb, hg, hf, hc, hm, hs, htake⟩ := hown;have hlm : (l.map valB).length = l.length := List.length_map ..;by_cases hroom : l.length + 1 ≤ cap
 ·have hfc := run_firstCells_some (P := P) w i.size 1 a 1 c [valB x] (by rw [hsize]; rfl) hnews;rw [hsize] at hfc;have hst := run_store1 (P := P) (o := l.length) (x := valB x) hg hf (by omega) rfl;have hr : (Builtin.append_ #[t, t] ty #[.slice (some ⟨g, 0, none⟩) l.length cap, .slice (some a) 1 c]).run P w = .ok (.slice (some ⟨g, 0, none⟩) (l.length + 1) cap) (w.setCell ⟨g, l.length, none⟩ (valB x)) := by
   simp [Builtin.append_, run_underlying ht, sizeOf, typeInfo, hi, Builtin.lenOf, hroom, hfc, Addr.add_lit, hst, hsize]
  refine ⟨_, _, hr, ⟨g, cap, cur.setIfInBounds l.length (valB x), fz, by rw [List.length_append]; rfl, hb, ?_, by rw [Array.size_setIfInBounds]; exact hf, by rw [List.length_append]; exact hroom, hm, by rw [Array.size_setIfInBounds]; exact hs, ?_⟩, grownBy_setCell w g l.length (valB x)⟩
  ·simp only [World.setCell];rw [Array.getElem?_modify, if_pos rfl, hg];rfl
  ·rw [Array.toList_setIfInBounds, List.length_append, List.map_append, List.length_singleton];have hcl : l.length < cur.toList.length := by have h9 : cur.toList.length = cur.size := Array.length_toList; omega
   have hlt : (cur.toList.take l.length).length = l.length := by rw [List.length_take]; exact Nat.min_eq_left (Nat.le_of_lt hcl)
   rw [List.set_eq_take_append_cons_drop, if_pos hcl, show cur.toList.take l.length ++ valB x :: cur.toList.drop (l.length + 1) = (cur.toList.take l.length ++ [valB x]) ++ cur.toList.drop (l.length + 1) from by simp, List.take_left' (by rw [List.length_append, hlt]; rfl), htake];rfl
 ·have holds : ∀ j u, (l.map valB)[j]? = some u → w.cell? ((⟨g, 0, none⟩ : Addr).add j) = some u := fun j u hu => by
   rw [show (⟨g, 0, none⟩ : Addr).add j = ⟨g, j, none⟩ by unfold Addr.add; split <;> simp_all, cell_of_row w g j cur _ fz hg];rw [← htake, List.getElem?_take] at hu;split at hu
   ·simpa using hu
   ·cases hu
  have hr := run_append_grow (P := P) w t ty 5 i (.int .u8 0) ht hi hz ⟨g, 0, none⟩ l.length cap (l.map valB) (by rw [hsize, hlm, Nat.mul_one]) holds a 1 c [valB x] (by rw [hsize]; rfl) hnews (by omega) (by omega) (growslice_fits (by omega) (by rw [hby]; omega));have hge := grownCap_ge w (l.length + 1) cap 5;have hcm2 : grownCap w (l.length + 1) cap 5 ≤ maxLen := grownCap_le_maxLen w (l.length + 1) cap 5 (by unfold maxLen; omega);refine ⟨_, _, hr, ⟨w.heap.size, grownCap w (l.length + 1) cap 5, _, (0, 0), by rw [List.length_append]; rfl, hbase, heap_alloc_new w.drew _, fun j _ => by simp, by rw [List.length_append]; exact hge, hcm2, ?_, ?_⟩, ⟨rfl, rfl, rfl, by simp, fun k hk _ => heap_alloc_old w.drew _ hk⟩⟩
  ·have hz1 : (Value.int IntKind.u8 0).cells.size = 1 := rfl;simp only [Array.size_append, List.size_toArray, size_zeroCells, hz1, hlm, List.length_singleton];omega
  ·simp only [Array.toList_append, List.append_assoc];rw [← List.append_assoc, List.map_append, List.length_append, List.take_left' (by rw [List.length_append, hlm]; rfl)];rfl
theorem wpList_append_G {P : Program} (w : World) {ops : Array Oper} {rest : List Oper} {o : Oper} {a : Act} {Q : Exit → Act → World → Prop} (hgd : o.guard = none) (s x : Operand) (t : TypeId)
 (ho : o.op = .call { callee := .builtin .append, args := #[s, x], argTypes := #[t, t] }) (base : Nat) (i : TypeInfo) (ht : P.underlying t = some (.slice 5)) (hi : P.info? 5 = some i) (hz : i.zero = some (.int .u8 0)) (hsize : i.size = 1) (hby : i.bytes = 1)
 (v : Value) (l : List UInt8) (hs : a.eval s = v) (hown : GRow w base v l) (ad : Addr) (c : Nat) (b : UInt8) (hx : a.eval x = .slice (some ad) 1 c) (hnews : ∀ j u, [valB b][j]? = some u → w.cell? (ad.add j) = some u) (hbytes : l.length + 1 ≤ 140737488355328) (hbase : base ≤ w.heap.size)
 (h : ∀ v' w', GRow w' base v' (l ++ [b]) → w.grownBy w' v.ownBlock → wpList P ops Q rest (a.put o.dst v') w') : wpList P ops Q (o :: rest) a w := by
 obtain ⟨v', w', hr, h2, h3⟩ := run_append_G (P := P) t o.type i ht hi hz hsize hby hown ad c b hnews hbytes hbase;refine wpList_plain hgd fun K hK => ?_;unfold Oper.wp execOp;simp only [ho, resolve, invoke, builtin, Sem.run_bind, Sem.run_pure, Result.andThen_ok, List.map_toArray, List.map_cons, List.map_nil, hs, hx, hr];exact hK _ _ (h v' w' h2 h3)
end
theorem below_of_G {w W W' : World} {base : Nat} {v : Value} {l : List UInt8} (hb : Below base w W) (hr : GRow W base v l) (hg : W.grownBy W' v.ownBlock) : Below base w W' := by
 obtain ⟨g, cap, rfl, hge⟩ := hr.shape;exact hb.trans (below_of_grown hg hge (Nat.le_of_lt (Nat.lt_of_le_of_lt hge (hr.lt g rfl).2)))
end
section
open Go.ChangeShapes Go.WideShapes Go.ChangeAt Go.RowKit
attribute [local go_sem ↓] Go.wp_at_zero Go.wp_at_succ
theorem tLinksKey_c (id : Int) (W : World) (hn : I64 id) :
 Calls prog 176 #[.string ⟨#[105, 47]⟩, .int .i64 id, .string ⟨#[47, 108]⟩] W fun e w' => e = .returned (.string (linksK id)) ∧ Below W.heap.size W w' := specKeyNum2_c _ _ _ W hn (by decide) (by decide)
theorem tSizeKey_c (id : Int) (W : World) (hn : I64 id) :
 Calls prog 176 #[.string ⟨#[105, 47]⟩, .int .i64 id, .string ⟨#[47, 115]⟩] W fun e w' => e = .returned (.string (sizeK id)) ∧ Below W.heap.size W w' := specKeyNum2_c _ _ _ W hn (by decide) (by decide)
theorem tFileKey_c (id : Int) (W : World) (hn : I64 id) :
 Calls prog 176 #[.string ⟨#[105, 47]⟩, .int .i64 id, .string ⟨#[47]⟩] W fun e w' => e = .returned (.string (fileK id)) ∧ Below W.heap.size W w' := specKeyNum2_c _ _ _ W hn (by decide) (by decide)
theorem tTimerKey_c (id : Int) (W : World) (hn : I64 id) :
 Calls prog 176 #[.string ⟨#[116, 47]⟩, .int .i64 id, .string ⟨#[]⟩] W fun e w' => e = .returned (.string (timerK id)) ∧ Below W.heap.size W w' := specKeyNum2_c _ _ _ W hn (by decide) (by decide)
theorem tPageKey_c (id k : Int) (W : World) (hn : I64 id) (hk : I64 k) :
 Calls prog 176 #[.string (pagesK id), .int .i64 k, .string ⟨#[]⟩] W fun e w' => e = .returned (.string (pageK id k)) ∧ Below W.heap.size W w' := specKeyNum2_c _ _ _ W hk (Nat.le_trans (pagesK_size hn) (by decide)) (by decide)
theorem tOutKey_c (k : Int) (W : World) (hk : I64 k) :
 Calls prog 176 #[.string dK, .int .i64 k, .string ⟨#[]⟩] W fun e w' => e = .returned (.string (outK1 k)) ∧ Below W.heap.size W w' := specKeyNum2_c _ _ _ W hk (by decide) (by decide)
theorem tUnhexM_c (v : ByteArray) (W : World) (h : Lib.hasPrefix v.data.toList [45] = true) (hs : v.size ≤ 1048576) :
 Calls prog 188 #[.string (v.extract 1 v.size)] W fun e w' => e = .returned (.tuple #[.string (msgV v), .bool (unhexOk (v.extract 1 v.size))]) ∧ Below W.heap.size W w' := by
 have e : msgV v = unhexV (v.extract 1 v.size) := by unfold msgV; rw [h]; rfl
 rw [e];exact specUnhex_c _ W (Nat.le_trans (extract1_size v) (by unfold maxLen; omega))
theorem msg_no {v : ByteArray} (h : Lib.hasPrefix v.data.toList [45] = false) : msgV v = noB := by unfold msgV; rw [h]; rfl
theorem msg_run {k : ByteArray} {m m' : Mch} {v : ByteArray} (E : (lookP k).run m = (m', v)) : (msgP k).run m = (m', msgV v) := by
 obtain ⟨e1, e2⟩ := Prod.mk.inj (show (lookM m k, getKeyS m.st k) = (m', v) from E);subst e1 e2;rfl
theorem block_run {i j : Int} {m m' : Mch} {v : ByteArray} (E : (lookP (blockK i j)).run m = (m', v)) : (blockP i j).run m = (m', unhexV v) := by
 obtain ⟨e1, e2⟩ := Prod.mk.inj (show (lookM m (blockK i j), getKeyS m.st (blockK i j)) = (m', v) from E);subst e1 e2;rfl
theorem unhex_none {v : ByteArray} (h : unhexOk v = false) : unhexV v = noB := by
 unfold unhexV;rw [if_neg (by rw [h]; decide)];rfl
theorem lookS_sz {m m1 : Mch} {k x : ByteArray} {n : Nat} (ho : MOk n m) (E : (lookP k).run m = (m1, x)) : x.size ≤ 1048576 := by
 obtain ⟨e1, e2⟩ := Prod.mk.inj (show (lookM m k, getKeyS m.st k) = (m1, x) from E);subst e1 e2;exact get_sz ho.sz k
theorem byte_eq {a b : UInt8} {t : TypeId} (h : a = b) : binOp .eql t (.int .u8 (a.toNat : Int)) (.int .u8 (b.toNat : Int)) = pure (.bool true) := by
 rw [binOp_eql, h];simp
theorem byte_ne {a b : UInt8} {t : TypeId} (h : a ≠ b) : binOp .eql t (.int .u8 (a.toNat : Int)) (.int .u8 (b.toNat : Int)) = pure (.bool false) := by
 rw [binOp_eql];have hne : ((a.toNat : Int) == (b.toNat : Int)) = false := beq_eq_false_iff_ne.2 (fun e => h (UInt8.toNat_inj.1 (by omega)));rw [hne]
theorem eql_empty {v : ByteArray} {t : TypeId} (h : v.size = 0) : binOp .eql t (.string v) (.string ⟨#[]⟩) = pure (.bool true) := by
 rw [binOp_string_eql, empty_iff0.2 h, show (ByteArray.mk #[]).toList = [] from by kernel_rfl];rfl
theorem eql_some {v : ByteArray} {t : TypeId} (h : 0 < v.size) : binOp .eql t (.string v) (.string ⟨#[]⟩) = pure (.bool false) := by
 rw [binOp_string_eql];refine congrArg (fun b => pure (Value.bool b)) (beq_eq_false_iff_ne.2 (fun e => ?_));have := empty_iff0.1 (e.trans (show (ByteArray.mk #[]).toList = [] from by kernel_rfl));omega
set_option maxRecDepth 100000 in
theorem pWrite_c (p base : Nat) (v1 v2 v3 : Value) (m m' : Mch) (x : Int) (id at_ : Int) (text : ByteArray) (w : World) (h : MAt w p base v1 v2 v3 m) (ho : MOk 800000000000 m) (hn : I64 id) (ht : text.size ≤ 100000) (HT : ∀ W, Below base w W → Tabs W) (E : (writeP id at_ text).run m = (m', x)) :
 Calls prog 162 #[.pointer (some ⟨p, 0, none⟩), .int .i64 id, .int .i64 at_, .string text] w (MStep p base v1 v2 v3 m' (.int .i64 x) w) := by
 have hfu := fuelW_is;obtain ⟨i0, hi0, hzz⟩ := Option.map_eq_some_iff.1 infoByte;simp only [Prod.mk.injEq] at hzz;have HI := hid9 hi0;have HZ := hid9 hzz;clear hi0 hzz;obtain ⟨m1, x1, E1⟩ : ∃ aa bb, (numP (sizeK id)).run m = (aa, bb) := ⟨_, _, rfl⟩;have bx1 := numP_bounds E1;have O1 := hid9 ((numP_cost _).okE ho E1);have J0 := hid9 (JAt.first h);have HTJ := hid9 (fun W u1 u2 u3 k (d : JAt p base v1 v2 v3 w W u1 u2 u3 k) W' (hW : Below base W W') => HT W' ((d.bel h).trans hW));have KS := hid9 (fun W u1 u2 u3 k (d : JAt p base v1 v2 v3 w W u1 u2 u3 k) => sizeKey_c id W hn (HTJ.out W u1 u2 u3 k d W (Below.refl _ _)));have KN1 := hid9 (fun W (d : JAt p base v1 v2 v3 w W v1 v2 v3 m) => pNum_c p base v1 v2 v3 m m1 x1 (sizeK id) W d.at_ (ho.mono (by omega)) (fun X hX => HTJ.out _ _ _ _ _ d X hX) E1);have HER := hid9 (show (if (inB at_ 0 x1 && decide (0 < text.size)) = true then (if 64 < at_ + text.size then pure 3 else writeL id at_ (at_ + text.size) text fuelW (at_ / 8) >>= fun _ => if x1 < at_ + text.size then (setP (sizeK id) (at_ + text.size) >>= fun _ => pure 0) else pure 0) else pure 4 : Pg Int).run m1 = (m', x) from by rw [writeP_eq, Pg.run_bind, E1] at E; exact E);clear h ho E E1 HT;have KW := hid9 (fun W => within_c at_ 0 x1 W);go_enter func162, ntmps162;go_wp2_with fail;refine (KS.out _ _ _ _ _ J0.out).mono ?_;rintro e wk ⟨rfl, hb⟩;have Jk := hid9 (J0.out.below hb);clear hb;go_wp2_with fail;refine (KN1.out _ Jk.out).mono ?_;rintro e w1 ⟨u1, u2, u3, rfl, hm, hg, q1, q2, q3⟩;have J1 := hid9 (Jk.out.next hm hg q1 q2 q3);clear hm hg q1 q2 q3 Jk J0 KN1;cases hb : inB at_ 0 x1 with
 | false =>
  rw [hb] at KW;obtain ⟨e1, e2⟩ := Prod.mk.inj (show (m1, (4 : Int)) = (m', x) from by have h := HER.out; rw [if_neg (by simp [hb])] at h; exact h);subst e1 e2;have HEND := hid9 (J1.out.done (.int .i64 4));clear HER;go_wp2_with fail;refine (KW.out _).mono ?_;rintro e w2 ⟨rfl, rfl⟩;go_wp2;go_ret;exact HEND.out
 | true =>
  rw [hb] at KW;have hnb := inB_iff.1 hb;by_cases ht0 : text.size = 0
  ·have hzt : ∀ t, binOp .eql t (.string text) (.string ⟨#[]⟩) = pure (.bool true) := fun t => eql_empty ht0;obtain ⟨e1, e2⟩ := Prod.mk.inj (show (m1, (4 : Int)) = (m', x) from by have h := HER.out; rw [if_neg (by rw [hb, ht0]; decide)] at h; exact h);subst e1 e2;have HEND := hid9 (J1.out.done (.int .i64 4));clear HER;go_wp2_with fail;refine (KW.out _).mono ?_;rintro e w2 ⟨rfl, rfl⟩;go_wp2;go_ret;exact HEND.out
  ·have hzt : ∀ t, binOp .eql t (.string text) (.string ⟨#[]⟩) = pure (.bool false) := fun t => eql_some (by omega);have htp : (inB at_ 0 x1 && decide (0 < text.size)) = true := by rw [hb, decide_eq_true (show 0 < text.size by omega)]; rfl
   have hwe : IntKind.i64.wrap (at_ + (text.size : Int)) = at_ + (text.size : Int) := by rw [IntKind.wrap_i64]; omega
   clear hb;by_cases h64 : 64 < at_ + (text.size : Int)
   ·obtain ⟨e1, e2⟩ := Prod.mk.inj (show (m1, (3 : Int)) = (m', x) from by have h := HER.out; rw [if_pos htp, if_pos h64] at h; exact h);subst e1 e2;have HEND := hid9 (J1.out.done (.int .i64 3));clear HER;go_wp2_with fail;refine (KW.out _).mono ?_;rintro e w2 ⟨rfl, rfl⟩;go_wp2;go_ret;exact HEND.out
   ·obtain ⟨en, hen⟩ : ∃ en, at_ + (text.size : Int) = en := ⟨_, rfl⟩;obtain ⟨m2, uw, E2⟩ : ∃ aa bb, (writeL id at_ en text fuelW (at_ / 8)).run m1 = (aa, bb) := ⟨_, _, rfl⟩;have HR0 := hid9 (show (if x1 < en then (setP (sizeK id) en >>= fun _ => pure 0) else pure 0 : Pg Int).run m2 = (m', x) from by have h := HER.out; rw [if_pos htp, if_neg h64, hen, Pg.run_bind, E2] at h; exact h);have HE2 := hid9 E2;rw [hen] at hwe h64;have hwd : IntKind.i64.wrap (at_.tdiv 8) = at_ / 8 := by rw [IntKind.wrap_i64, Int.tdiv_eq_ediv_of_nonneg (by omega)]; omega
    have hlt : at_ < en := by omega
    clear HER E2 htp;go_wp2_with fail;refine (KW.out _).mono ?_;rintro e w2 ⟨rfl, rfl⟩;go_wp2;go_loopw [11] (fun vp wr => ∃ pl : Int, ∃ f : Nat, vp = .int .i64 pl ∧ Hid (∃ y1 y2 y3 mk, JAt p base v1 v2 v3 w wr y1 y2 y3 mk ∧ MOk (800000000001 + 2 * pl.toNat) mk ∧ at_ / 8 ≤ pl ∧ pl ≤ 1000 ∧ en ≤ (pl + f) * 8 ∧ (writeL id at_ en text f pl).run mk = (m2, uw))) (fun i _ => (1001 - intOf i).toNat)
    case atStart => exact ⟨at_ / 8, fuelW, rfl, hid9 ⟨_, _, _, _, J1.out, O1.out.mono (by omega), Int.le_refl _, by omega, by omega, HE2.out⟩⟩
    case round =>
     obtain ⟨pl, f, rfl, HI0⟩ := hrel;obtain ⟨y1, y2, y3, mk, hl, ho, hp0, hp1, hp2, hr⟩ := HI0.out;have HL := hid9 hl;have HO := hid9 ho;have HR := hid9 hr;clear hl ho hr HI0 J1 HE2 O1;have hwp : IntKind.i64.wrap (pl * 8) = pl * 8 := by rw [IntKind.wrap_i64]; omega
     have hwp1 : IntKind.i64.wrap (pl + 1) = pl + 1 := by rw [IntKind.wrap_i64]; omega
     have hwp8 : IntKind.i64.wrap (pl * 8 + 8) = pl * 8 + 8 := by rw [IntKind.wrap_i64]; omega
     by_cases hc : pl * 8 < en
     ·obtain ⟨g, rfl⟩ : ∃ g, f = g + 1 := ⟨f - 1, by omega⟩;have hpi : I64 pl := ⟨by omega, by omega⟩;obtain ⟨n1, bx, F1⟩ : ∃ aa bb, (blockP id pl).run mk = (aa, bb) := ⟨_, _, rfl⟩;have sbx := block_sz HO.out F1;have P1 := hid9 ((blockP_cost _ _).okE HO.out F1);obtain ⟨n2, ul, F2⟩ : ∃ aa bb, (layP (blockK id pl) (hexV (newBlock bx text pl at_ en))).run n1 = (aa, bb) := ⟨_, _, rfl⟩;have P2 := hid9 ((layP_cost _ _).okE P1.out F2);have KB := hid9 (pBlock_c p base y1 y2 y3 mk n1 bx id pl wr HL.out.at_ (HO.out.mono (by omega)) hn hpi (fun X hX => HTJ.out _ _ _ _ _ HL.out X hX) F1);have HR1 := hid9 (show (writeL id at_ en text g (pl + 1)).run n2 = (m2, uw) from by have h := HR.out; rw [writeL_yes hc, Pg.run_bind, F1] at h; simp only at h; rw [Pg.run_bind, F2] at h; exact h);have HF2 := hid9 F2;have KK := hid9 (fun W (h : Tabs W) => blockKey_c id pl W hn hpi h);clear HR F1 F2;go_wp2_with fail;refine KB.out.mono ?_;rintro e wn ⟨r1, r2, r3, rfl, hm, hg, q1, q2, q3⟩;have JN := hid9 (HL.out.next hm hg q1 q2 q3);clear hm hg q1 q2 q3 HL KB HO;obtain ⟨C, hC⟩ : ∃ C, C = grownCap wn bx.size 0 5 := ⟨_, rfl⟩;obtain ⟨W1, hW1⟩ : ∃ W1, W1 = wn.drew.alloc (.cells (bytesRow bx C) 5 ((bytesRow bx C).size, (bytesRow bx C).size + 1)) := ⟨_, rfl⟩;have hcv : (convert 9 22 (.string bx)).run prog wn = .ok (.slice (some ⟨wn.heap.size, 0, none⟩) bx.size C) W1 := by
       rw [hW1, hC];exact run_bytes_of_string wn 9 22 5 bx underlying9 underlying22 underlying5
      have HBW := hid9 (show Below wn.heap.size wn W1 by rw [hW1]; exact ((Below.refl _ _).drew).alloc (Nat.le_refl _) _);have HG0 := hid9 (show GRow W1 wn.heap.size (.slice (some ⟨wn.heap.size, 0, none⟩) bx.size C) bx.data.toList by rw [hW1, hC]; exact GRow.made wn bx (by unfold maxLen; omega));clear hW1 hC;obtain ⟨k0, hk0⟩ : ∃ k0 : Nat, max at_ (pl * 8) = pl * 8 + (k0 : Int) := ⟨(max at_ (pl * 8) - pl * 8).toNat, by omega⟩;have hk07 : k0 ≤ 7 := by omega
      have HW0 := hid9 (show wrL text pl at_ en bx.data.toList k0 = bx.data.toList from (Nat.eq_zero_or_pos k0).elim (fun h0 => by rw [h0]; rfl) (fun h0 => wr_lo (by omega)));have hsb : bx.data.toList.length = bx.size := Array.length_toList;obtain ⟨lim, hlim⟩ : ∃ lim, min en (pl * 8 + 8) = lim := ⟨_, rfl⟩;have hka : ∀ k : Nat, k0 ≤ k → at_ ≤ pl * 8 + (k : Int) := fun k hk => by omega
      have hl1 : lim ≤ en ∧ lim ≤ pl * 8 + 8 ∧ (lim = en ∨ lim = pl * 8 + 8) := by omega
      go_wp2;go_loopw [12, 14] (fun v i wr => ∃ k : Nat, i = .int .i64 (pl * 8 + (k : Int)) ∧ k0 ≤ k ∧ k ≤ 8 ∧ Hid (GRow wr wn.heap.size v (wrL text pl at_ en bx.data.toList k) ∧ Below wn.heap.size wn wr)) (fun _ i _ => (pl * 8 + 9 - intOf i).toNat)
      case atStart => exact ⟨k0, (by first | rfl | go_num), Nat.le_refl _, by omega, hid9 ⟨by rw [HW0.out]; exact HG0.out, HBW.out⟩⟩
      case round =>
       obtain ⟨k, rfl, hkk, hk8, HG⟩ := hrel;clear HG0 HBW hcv HW0 hk0;have hwi : IntKind.i64.wrap (pl * 8 + (k : Int) + 1) = pl * 8 + ((k + 1 : Nat) : Int) := by rw [IntKind.wrap_i64]; omega
       have hwj : IntKind.i64.wrap (pl * 8 + (k : Int) - pl * 8) = (k : Int) := by rw [IntKind.wrap_i64]; omega
       by_cases hc2 : pl * 8 + (k : Int) < lim
       ·have hin1 := hka k hkk;have hin2 : pl * 8 + (k : Int) < en := by omega
        have hk7 : k < 8 := by omega
        have h3 : (pl * 8 + (k : Int) - at_).toNat < text.size := by omega
        have h4 := wr_in (b := bx.data.toList) hin1 hin2 h3;have hq : IntKind.i64.wrap (pl * 8 + (k : Int) - at_) = (((pl * 8 + (k : Int) - at_).toNat : Nat) : Int) := by rw [IntKind.wrap_i64]; omega
        generalize (pl * 8 + (k : Int) - at_).toNat = q at h3 h4 hq;have hq0 : (0 : Int) ≤ (q : Int) := by omega
        have hq1 : (q : Int) < (text.size : Int) := by omega
        have htl := wr_len (t := text) (p := pl) (a := at_) (e := en) (b := bx.data.toList) k;obtain ⟨T, hT⟩ : ∃ T, wrL text pl at_ en bx.data.toList k = T := ⟨_, rfl⟩;have HGT := hid9 HG.out;rw [hT] at HGT h4 htl;have HWS := hid9 h4;clear HG h4 hT;go_wp2;go_loopw [12] (fun v wr => ∃ l : List UInt8, Hid (GRow wr wn.heap.size v l ∧ Below wn.heap.size wn wr ∧ padB l (k + 1) = padB T (k + 1) ∧ l.length ≤ max T.length (k + 1))) (fun v _ => k + 1 - sliceN v)
        case atStart => exact ⟨T, hid9 ⟨HGT.out.1, HGT.out.2, rfl, by omega⟩⟩
        case round =>
         obtain ⟨l, HP⟩ := hrel;obtain ⟨g, cap, hv, hge⟩ := HP.out.1.shape;subst hv;have hll := HP.out.2.2.2;clear HGT;by_cases hc3 : l.length ≤ k
         ·have t3 : (l.length : Int) ≤ (k : Int) := by omega
          have hsz := HP.out.2.1.size;go_wp2_with (at_builtin; refine wpList_append_G _ rfl _ _ 22 rfl wn.heap.size i0 underlying22 HI.out HZ.out.1 HZ.out.2.1 HZ.out.2.2 _ l rfl (HP.out.1.below (show Below wr.heap.size wr (wr.alloc (.cells #[.int .u8 0] 5)) from bel9)) ⟨wr.heap.size, 0, none⟩ 1 0 rfl (box_news (Box.new wr [valB 0] 5)) (by omega) (by simp; omega) ?_);intro v' w' g2 gr2;have HP2 := hid9 (show GRow w' wn.heap.size v' (l ++ [0]) ∧ Below wn.heap.size wn w' ∧ padB (l ++ [0]) (k + 1) = padB T (k + 1) ∧ (l ++ [0]).length ≤ max T.length (k + 1) from ⟨g2, below_of_G (Below.chain HP.out.2.1 (show Below wr.heap.size wr (wr.alloc (.cells #[.int .u8 0] 5)) from bel9)) (HP.out.1.below bel9) gr2, by rw [pad_more (by omega)]; exact HP.out.2.2.1, by rw [List.length_append, List.length_singleton]; omega⟩);obtain ⟨g', cap', hv', _⟩ := g2.shape;have hsn : sliceN v' = l.length + 1 := by rw [hv']; show (l ++ [0]).length = _; rw [List.length_append]; rfl
          clear g2 gr2 HP hv';go_wp2;go_roundw
          case rel => exact ⟨l ++ [0], HP2⟩
          case measure =>
           rw [hsn];simp only [sliceN];omega
         ·have hl : l = padB T (k + 1) := by rw [← HP.out.2.2.1, pad_same (by omega)]
          have HWS2 := hid9 (show wrL text pl at_ en bx.data.toList (k + 1) = l.set k text[q] from by rw [HWS.out, ← hl]);obtain ⟨hcell, hfr⟩ := HP.out.1.cell (j := k) (by omega);have t3 : ¬ (l.length : Int) ≤ (k : Int) := by omega
          have t4 : (k : Int) < (l.length : Int) := by omega
          have t5 : (0 : Int) ≤ (k : Int) := by omega
          have HN := hid9 (show GRow (wr.setCell ⟨g, k, none⟩ (.int .u8 (text[q].toNat : Int))) wn.heap.size (.slice (some ⟨g, 0, none⟩) l.length cap) (wrL text pl at_ en bx.data.toList (k + 1)) ∧ Below wn.heap.size wn (wr.setCell ⟨g, k, none⟩ (.int .u8 (text[q].toNat : Int))) from by
           have h := HP.out.1.set k text[q];exact ⟨by rw [HWS2.out]; exact h.1, HP.out.2.1.trans (below_of_grown h.2 hge HP.out.2.1.size)⟩)
          clear HP HWS HWS2 hl;go_wp2;go_roundw
          case rel => exact ⟨k + 1, (by first | rfl | go_num), by omega, by omega, HN⟩
          case measure => simp [intOf]; omega
       ·have hfin : wrL text pl at_ en bx.data.toList 8 = wrL text pl at_ en bx.data.toList k := by
         rcases Nat.lt_or_ge k 8 with h | h
         ·have h9 := wr_hi (t := text) (p := pl) (a := at_) (e := en) (b := bx.data.toList) (k := k) (8 - k) (by omega)
          rwa [show k + (8 - k) = 8 by omega] at h9
         ·rw [show k = 8 by omega]
        have HNB := hid9 (show newBlock bx text pl at_ en = ⟨(wrL text pl at_ en bx.data.toList k).toArray⟩ from by rw [wr_end, hfin]);clear hfin;obtain ⟨T, hT⟩ : ∃ T, wrL text pl at_ en bx.data.toList k = T := ⟨_, rfl⟩;rw [hT] at HNB;have HS0 := hid9 HG.out;rw [hT] at HS0;clear hT HG;have hlen := wr_len (t := text) (p := pl) (a := at_) (e := en) (b := bx.data.toList) k;clear hlen;have KH := hid9 (fun W => hexOf_c ⟨T.toArray⟩ W);have hhz := hexV_size ⟨T.toArray⟩;have KL := hid9 (fun W (d : JAt p base v1 v2 v3 w W r1 r2 r3 n1) => pLay_c p base r1 r2 r3 n1 n2 ul (blockK id pl) (hexV ⟨T.toArray⟩) W d.at_ (P1.out.mono (by omega)) (kle (blockK_size hn hpi)) (by unfold maxLen; omega) (by have h := HF2.out; rw [HNB.out] at h; exact h));have cnv : ∀ W, GRow W wn.heap.size u12 T ∧ Below wn.heap.size wn W → (convert 22 9 u12).run prog W = .ok (.string ⟨T.toArray⟩) W := fun W h => h.1.conv;go_wp2_with fail;refine wp_region_Y (fun W => GRow W wn.heap.size u12 T ∧ Below wn.heap.size wn W) [7] (by kernel_rfl) ⟨HS0.out.1.below bel9, Below.chain HS0.out.2 bel9⟩ (fun hS => ?_);refine wpAnyY_pure (i := 0) (oi := _) (v := ?_) rfl (by kernel_rfl) (by kernel_rfl) (by kernel_rfl) (by kernel_rfl) (fun _ _ _ h => h) (Or.inl ⟨by rfl, ?_⟩) (Or.inr hS) ?_
        rotate_left
        ·(intro w hSw; (try dsimp only at hSw); go_simp); all_goals with_reducible rfl
        try simp only [Act.put, List.getElem_toArray, List.getElem_cons_zero, List.getElem_cons_succ, List.setIfInBounds_toArray, List.set_cons_zero, List.set_cons_succ]
        refine wpAnyY_pure (i := 1) (oi := _) (v := ?_) rfl (by kernel_rfl) (by kernel_rfl) (by kernel_rfl) (by kernel_rfl) (fun _ _ _ h => h) (Or.inl ⟨by rfl, ?_⟩) (Or.inr hS) ?_
        rotate_left
        ·(intro w hSw; (try dsimp only at hSw); go_simp); all_goals with_reducible rfl
        try simp only [Act.put, List.getElem_toArray, List.getElem_cons_zero, List.getElem_cons_succ, List.setIfInBounds_toArray, List.set_cons_zero, List.set_cons_succ]
        refine wpAnyY_pure (i := 2) (oi := _) (v := ?_) rfl (by kernel_rfl) (by kernel_rfl) (by kernel_rfl) (by kernel_rfl) (fun _ _ _ h => h) (Or.inl ⟨by rfl, ?_⟩) (Or.inr hS) ?_
        rotate_left
        ·(intro w hSw; (try dsimp only at hSw); go_simp); all_goals with_reducible rfl
        try simp only [Act.put, List.getElem_toArray, List.getElem_cons_zero, List.getElem_cons_succ, List.setIfInBounds_toArray, List.set_cons_zero, List.set_cons_succ]
        refine wpAnyY_pure (i := 4) (oi := _) (v := ?_) rfl (by kernel_rfl) (by kernel_rfl) (by kernel_rfl) (by kernel_rfl) (fun _ _ _ h => h) (Or.inl ⟨by rfl, ?_⟩) (Or.inr hS) ?_
        rotate_left
        ·(intro w hSw; (try dsimp only at hSw); go_simp); all_goals with_reducible rfl
        try simp only [Act.put, List.getElem_toArray, List.getElem_cons_zero, List.getElem_cons_succ, List.setIfInBounds_toArray, List.set_cons_zero, List.set_cons_succ]
        refine wpAnyY_load (i := 5) (oi := _) (v := ?_) 12 rfl (by kernel_rfl) (by kernel_rfl) (by kernel_rfl) (by kernel_rfl) (fun _ _ _ h => h) (Or.inl ⟨by rfl, ?_⟩) hS (fun hS => ?_)
        rotate_left
        ·(intro w hSw; (try dsimp only at hSw); go_simp); all_goals with_reducible rfl
        try simp only [Act.put, List.getElem_toArray, List.getElem_cons_zero, List.getElem_cons_succ, List.setIfInBounds_toArray, List.set_cons_zero, List.set_cons_succ]
        refine wpAnyY_one (i := 3) (o := _) (by kernel_rfl) rfl (fun K hK => ?_);go_simp;go_at_call 206;refine (KK.out _ (HTJ.out _ _ _ _ _ JN.out _ (hS.2.mono JN.out.at_.hb))).mono ?_;rintro e wa ⟨rfl, hb⟩;have hS2 := (⟨hS.1.below hb, Below.chain hS.2 hb⟩ : _ ∧ _);clear hS hb;have hS := hS2;clear hS2;go_wp2_with fail;refine hK.out _ _ (Or.inr hS) ?_;clear hK K
        try simp only [Act.put, List.getElem_toArray, List.getElem_cons_zero, List.getElem_cons_succ, List.setIfInBounds_toArray, List.set_cons_zero, List.set_cons_succ]
        refine wpAnyY_one (i := 6) (o := _) (by kernel_rfl) rfl (fun K hK => ?_);go_simp;go_at_call 166;refine (KH.out _).mono ?_;rintro e wb ⟨rfl, hb⟩;have hS2 := (⟨hS.1.below hb, Below.chain hS.2 hb⟩ : _ ∧ _);clear hS hb;have hS := hS2;clear hS2;go_wp2_with fail;refine hK.out _ _ (Or.inr hS) ?_;clear hK K
        try simp only [Act.put, List.getElem_toArray, List.getElem_cons_zero, List.getElem_cons_succ, List.setIfInBounds_toArray, List.set_cons_zero, List.set_cons_succ]
        refine wpAnyY_one (i := 7) (o := _) (by kernel_rfl) rfl (fun K hK => ?_);go_simp;go_at_call 157;refine (KL.out _ (JN.out.below hS.2)).mono ?_;rintro e wc ⟨z1, z2, z3, rfl, hm, hg, q1, q2, q3⟩;have JC := hid9 ((JN.out.below hS.2).next hm hg q1 q2 q3);clear hm hg q1 q2 q3 KL KH KK JN hS;go_wp2_with fail;refine hK.out _ _ (Or.inl (by kernel_rfl)) ?_;clear hK K
        try simp only [Act.put, List.getElem_toArray, List.getElem_cons_zero, List.getElem_cons_succ, List.setIfInBounds_toArray, List.set_cons_zero, List.set_cons_succ]
        refine wpAnyY_done (by kernel_rfl) ?_ _;clear cnv HS0;go_wp2;go_roundw
        case rel => exact ⟨pl + 1, g, by first | rfl | go_num, hid9 ⟨_, _, _, _, JC.out, P2.out.mono (by omega), by omega, by omega, by omega, HR1.out⟩⟩
        case measure => simp [intOf]; omega
     ·obtain ⟨e1, _⟩ := Prod.mk.inj (show (m2, uw) = (mk, ()) from by have h := HR.out; rw [writeL_end hc] at h; exact h.symm);subst e1;clear HR;by_cases hgr : x1 < en
      ·obtain ⟨m4, u4, G4⟩ : ∃ aa bb, (setP (sizeK id) en).run m2 = (aa, bb) := ⟨_, _, rfl⟩;obtain ⟨e1, e2⟩ := Prod.mk.inj (show (m4, (0 : Int)) = (m', x) from by have h := HR0.out; rw [if_pos hgr, Pg.run_bind, G4] at h; exact h);subst e1 e2;have KT := hid9 (fun W (d : JAt p base v1 v2 v3 w W y1 y2 y3 m2) => pSet_c p base y1 y2 y3 m2 m4 u4 (sizeK id) en W d.at_ (HO.out.mono (by omega)) (kle (sizeK_size hn)) (fun X hX => HTJ.out _ _ _ _ _ d X hX) G4);clear HR0 G4;go_wp2_with fail;refine (KS.out _ _ _ _ _ HL.out).mono ?_;rintro e wa ⟨rfl, hb⟩;have JA := hid9 (HL.out.below hb);clear hb HL;go_wp2_with fail;refine (KT.out _ JA.out).mono ?_;rintro e wn ⟨r1, r2, r3, rfl, hm, hg, q1, q2, q3⟩;have HEND := hid9 ((JA.out.next hm hg q1 q2 q3).done (.int .i64 0));clear hm hg q1 q2 q3 JA KT HO;go_wp2;go_ret;exact HEND.out
      ·obtain ⟨e1, e2⟩ := Prod.mk.inj (show (m2, (0 : Int)) = (m', x) from by have h := HR0.out; rw [if_neg hgr] at h; exact h);subst e1 e2;have HEND := hid9 (HL.out.done (.int .i64 0));clear HR0 HL HO;go_wp2;go_ret;exact HEND.out
theorem three_of {ys : List Value} (h : ys.length = 3) : ∃ a b c, ys = [a, b, c] := by
 match ys, h with
 | [a, b, c], _ => exact ⟨a, b, c, rfl⟩
theorem words_snoc {x : List ByteArray} {k : Nat} {y : ByteArray} (h : x[k]? = some y) : wordsS (x.take (k + 1)) = wordsS (x.take k) ++ (y ++ ⟨#[32]⟩) := by
 unfold wordsS;rw [take_snoc_of h, List.foldl_append];exact ByteArray.append_assoc
theorem words_size {L : Nat} : ∀ (x : List ByteArray), (∀ y ∈ x, y.size ≤ L) → (wordsS x).size ≤ x.length * (L + 1) := by
 intro x hx;have key : ∀ (x : List ByteArray) (a : ByteArray), (∀ y ∈ x, y.size ≤ L) → (x.foldl (fun a x => a ++ x ++ spaceS) a).size ≤ a.size + x.length * (L + 1) := by
  intro x
  induction x with
  | nil => intro a _; simp
  | cons y ys ih =>
   intro a h;have h1 := ih (a ++ y ++ spaceS) (fun z hz => h z (List.mem_cons_of_mem _ hz));have h2 := h y List.mem_cons_self;have h3 : (a ++ y ++ spaceS).size = a.size + y.size + 1 := by rw [ByteArray.size_append, ByteArray.size_append]; rfl
   rw [List.foldl_cons, List.length_cons, Nat.add_mul];omega
 have h := key x noB hx;have h0 : noB.size = 0 := rfl;unfold wordsS;omega
theorem take_sz {L : Nat} {x : List ByteArray} (h : ∀ y ∈ x, y.size ≤ L) (k : Nat) (hk : k ≤ x.length) : (wordsS (x.take k)).size ≤ k * (L + 1) := by
 have := words_size (x.take k) (fun y hy => h y (List.mem_of_mem_take hy))
 rwa [List.length_take, Nat.min_eq_left hk] at this
theorem names_sz {m m' : Mch} {x : List ByteArray} {n : Nat} (ho : MOk n m) (E : namesP.run m = (m', x)) : (∀ y ∈ x, y.size ≤ 1048576) ∧ x.length ≤ n := by
 obtain ⟨m1, ks, E1⟩ : ∃ aa bb, (underP nHead).run m = (aa, bb) := ⟨_, _, rfl⟩;obtain ⟨e1, e2⟩ := Prod.mk.inj ((show (m1, ks.map drop2) = namesP.run m from by rw [namesP_eq, Pg.run_bind, E1]; rfl).trans E);subst e1 e2;obtain ⟨h1, h2⟩ := under_sz ho E1;refine ⟨fun y hy => ?_, by rw [List.length_map]; exact h2⟩;obtain ⟨k, hk, rfl⟩ := List.mem_map.1 hy;have := h1 k hk;unfold drop2;rw [ByteArray.size_extract];omega
theorem kidsL_ok (p : Int) : ∀ (ks : List ByteArray) (o : List Int) (m : Mch), (∀ z ∈ o, 0 ≤ z ∧ z ≤ 999) → (∀ z ∈ ((kidsL p ks o).run m).2, 0 ≤ z ∧ z ≤ 999) ∧ ((kidsL p ks o).run m).2.length ≤ o.length + ks.length := by
 intro ks
 induction ks with
 | nil => intro o m h; exact ⟨h, by show o.length ≤ _; omega⟩
 | cons k ks ih =>
  intro o m h;rw [kidsL_cons, List.length_cons];split
  ·rw [Pg.run_bind];split
   ·obtain ⟨h1, h2⟩ := ih (o ++ [numOfV (k.extract 2 (k.size - 2))]) ((numP k).run m).1 (fun z hz => by
     rcases List.mem_append.1 hz with hz | hz
     ·exact h z hz
     ·rw [List.mem_singleton.1 hz]; exact numOf_bounds _)
    rw [List.length_append, List.length_singleton] at h2;exact ⟨h1, by omega⟩
   ·obtain ⟨h1, h2⟩ := ih o ((numP k).run m).1 h;exact ⟨h1, by omega⟩
  ·obtain ⟨h1, h2⟩ := ih o m h;exact ⟨h1, by omega⟩
theorem kids_ok {m m' : Mch} {p : Int} {x : List Int} {n : Nat} (ho : MOk n m) (E : (kidsP p).run m = (m', x)) : (∀ z ∈ x, 0 ≤ z ∧ z ≤ 999) ∧ x.length ≤ n := by
 obtain ⟨m1, ks, E1⟩ : ∃ aa bb, (underP rHead).run m = (aa, bb) := ⟨_, _, rfl⟩;rw [kidsP_eq, Pg.run_bind, E1] at E;obtain ⟨_, h2⟩ := under_sz ho E1;obtain ⟨h3, h4⟩ := kidsL_ok p ks [] m1 (fun z hz => by simp at hz);rw [E] at h3 h4;simp only [List.length_nil] at h4;exact ⟨h3, by omega⟩
theorem own_reads {α : Type} {enc : α → List Value} {K e base n c : Nat} {a : Option Addr} {w : World} {xs : List α} (hk : ∀ x, (enc x).length = K) (h : w.ownsRow base e K (.slice a n c) xs.length (xs.flatMap enc)) : Reads w a K enc xs := by
 obtain ⟨a', c', hv, hr⟩ := reads_of_owns hk h;cases hv;exact hr
theorem own_setb {base e K n i : Nat} {v : Value} {xs : List Value} {w : World} (h : w.ownsRow base e K v n xs) {b : Nat} (hb : b < base) (u : Value) : (w.setCell ⟨b, i, none⟩ u).ownsRow base e K v n xs :=
 h.kept (grownBy_setCell w b i u) (by
  cases hv : v.ownBlock with
  | none => exact .inl rfl
  | some g => exact .inr (fun e => by cases e; have := (h.lt _ hv).1; omega))
theorem readFI {w wr : World} {a : Option Addr} {xs : List Int} (hr : Reads w a 1 encI xs) (hb : Below w.heap.size w wr) {k : Nat} {x : Int} (hx : xs[k]? = some x) :
 ∃ b off, a = some ⟨b, off, none⟩ ∧ wr.cell? ⟨b, off + k, none⟩ = some (.int .i64 x) := by
 rcases hr.below hb with rfl | ⟨b, off, h1, _, h3⟩
 ·simp at hx
 ·exact ⟨b, off, h1, by simpa using h3 k x hx 0 _ rfl⟩
theorem ok_kind {c : Cal} (h : callOkB c = true) : 1 ≤ c.kind ∧ c.kind ≤ 22 := by
 unfold callOkB at h;simp only [Bool.and_eq_true] at h;exact inB_iff.1 h.1
set_option maxRecDepth 100000 in
theorem pFile_c (p base : Nat) (v1 v2 v3 : Value) (m m' : Mch) (a : Ans) (c : Cal) (w : World) (h : MAt w p base v1 v2 v3 m) (ho : MOk 200000000000 m) (hc : COk c) (hz : c.name.size ≤ 900) (ht : c.text.size ≤ 100000) (hk : c.kind = 6 ∨ c.kind = 7 ∨ c.kind = 8) (HT : ∀ W, Below base w W → Tabs W) (E : (fileP c).run m = (m', a)) :
 Calls prog 103 #[.pointer (some ⟨p, 0, none⟩), .agg #[.int .i64 c.kind, .string c.name, .string c.dest, .int .i64 c.a, .int .i64 c.b, .string c.text]] w (MStep p base v1 v2 v3 m' (.agg #[.int .i64 a.code, .int .i64 a.n, .string a.text]) w) := by
 have D0 := hid9 (((PQ.first h).new w.heap.size rfl [.int .i64 c.kind, .string c.name, .string c.dest, .int .i64 c.a, .int .i64 c.b, .string c.text] 36).new (w.heap.size + 1) (by simp) [.int .i64 0, .int .i64 0, .string ⟨#[]⟩] 28);have HTQ := hid9 (fun W u1 u2 u3 k (d : JAt p base v1 v2 v3 w W u1 u2 u3 k) W' (hW : Below base W W') => HT W' ((d.bel h).trans hW));obtain ⟨m1, id, E1⟩ : ∃ aa bb, (fileOfP c.name).run m = (aa, bb) := ⟨_, _, rfl⟩;have bid := fileOfP_bounds E1;have O1 := hid9 ((fileOfP_cost _).okE ho E1);have KF := hid9 (fun W (d : PQ p base v1 v2 v3 w [(w.heap.size + 1, [.int .i64 0, .int .i64 0, .string ⟨#[]⟩]), (w.heap.size, [.int .i64 c.kind, .string c.name, .string c.dest, .int .i64 c.a, .int .i64 c.b, .string c.text])] W v1 v2 v3 m) => pFileOf_c p base v1 v2 v3 m m1 id c.name W d.j.at_ (ho.mono (by omega)) (by omega) (fun X hX => HTQ.out _ _ _ _ _ d.j X hX) E1);have HER := hid9 (show (if id = 0 then pure ⟨2, 0, noB⟩ else if c.kind = 6 then (readP id c.a c.b >>= fun t => pure ⟨0, 0, t⟩) else if c.kind = 7 then (writeP id c.a c.text >>= fun x => pure ⟨x, 0, noB⟩) else (cutP id c.a >>= fun x => pure ⟨x, 0, noB⟩) : Pg Ans).run m1 = (m', a) from by unfold fileP at E; rw [Pg.run_bind, E1] at E; exact E);have hid : I64 id := i64_of bid;clear h ho E E1 HT bid;go_enter func103, ntmps103;go_wp2_with fail;refine (KF.out _ D0.out).mono ?_;rintro e w1 ⟨u1, u2, u3, rfl, hm, hg, q1, q2, q3⟩;have D1 := hid9 (D0.out.next hm hg q1 q2 q3);clear hm hg q1 q2 q3 KF D0;have k10 := (D1.out.box 1 _ rfl).cell 0 _ rfl;have k11 := (D1.out.box 1 _ rfl).cell 1 _ rfl;have k12 := (D1.out.box 1 _ rfl).cell 2 _ rfl;have k13 := (D1.out.box 1 _ rfl).cell 3 _ rfl;have k14 := (D1.out.box 1 _ rfl).cell 4 _ rfl;have k15 := (D1.out.box 1 _ rfl).cell 5 _ rfl;by_cases h0 : id = 0
 ·subst h0;obtain ⟨e1, e2⟩ := Prod.mk.inj (show (m1, (⟨2, 0, noB⟩ : Ans)) = (m', a) from by have h := HER.out; rw [if_pos rfl] at h; exact h);subst e1 e2;clear HER;have r10 := (D1.out.box 0 _ rfl).cell 0 _ rfl;have r11 := (D1.out.box 0 _ rfl).cell 1 _ rfl;have r12 := (D1.out.box 0 _ rfl).cell 2 _ rfl;have s10 := (D1.out.box 0 _ rfl).free 0;have s11 := (D1.out.box 0 _ rfl).free 1;have s12 := (D1.out.box 0 _ rfl).free 2;have HEND := hid9 ((((D1.out.set 0 _ rfl 0 (.int .i64 2)).set 0 _ rfl 1 (.int .i64 0)).set 0 _ rfl 2 (.string ⟨#[]⟩)).j.done (.agg #[.int .i64 2, .int .i64 0, .string ⟨#[]⟩]));clear D1;go_wp2;exact bodyPost_ret (v := .agg #[.int .i64 2, .int .i64 0, .string ⟨#[]⟩]) (by simp [results, results103, go_sem, *]) rfl HEND.out
 ·rcases hk with hk | hk | hk
  ·obtain ⟨m2, x, E2⟩ : ∃ aa bb, (readP id c.a c.b).run m1 = (aa, bb) := ⟨_, _, rfl⟩;obtain ⟨e1, e2⟩ := Prod.mk.inj (show (m2, (⟨0, 0, x⟩ : Ans)) = (m', a) from by have h := HER.out; rw [if_neg h0, if_pos hk, Pg.run_bind, E2] at h; exact h);subst e1 e2;have KM := hid9 (fun W (d : PQ p base v1 v2 v3 w [(w.heap.size + 1, [.int .i64 0, .int .i64 0, .string ⟨#[]⟩]), (w.heap.size, [.int .i64 c.kind, .string c.name, .string c.dest, .int .i64 c.a, .int .i64 c.b, .string c.text])] W u1 u2 u3 m1) => pRead_c p base u1 u2 u3 m1 m2 x id c.a c.b W d.j.at_ (O1.out.mono (by omega)) hid (fun X hX => HTQ.out _ _ _ _ _ d.j X hX) E2);rw [hk] at k10;clear HER hk;go_wp2_with fail;refine (KM.out _ D1.out).mono ?_;rintro e w2 ⟨u4, u5, u6, rfl, hm, hg, q1, q2, q3⟩;have D2 := hid9 (D1.out.next hm hg q1 q2 q3);clear hm hg q1 q2 q3 KM D1 k10 k11 k12 k13 k14 k15;have r20 := (D2.out.box 0 _ rfl).cell 0 _ rfl;have r21 := (D2.out.box 0 _ rfl).cell 1 _ rfl;have r22 := (D2.out.box 0 _ rfl).cell 2 _ rfl;have s20 := (D2.out.box 0 _ rfl).free 0;have s21 := (D2.out.box 0 _ rfl).free 1;have s22 := (D2.out.box 0 _ rfl).free 2;have HEND := hid9 ((((D2.out.set 0 _ rfl 0 (.int .i64 0)).set 0 _ rfl 1 (.int .i64 0)).set 0 _ rfl 2 (.string x)).j.done (.agg #[.int .i64 0, .int .i64 0, .string x]));clear D2;go_wp2;exact bodyPost_ret (v := .agg #[.int .i64 0, .int .i64 0, .string x]) (by simp [results, results103, go_sem, *]) rfl HEND.out
  ·obtain ⟨m2, x, E2⟩ : ∃ aa bb, (writeP id c.a c.text).run m1 = (aa, bb) := ⟨_, _, rfl⟩;obtain ⟨e1, e2⟩ := Prod.mk.inj (show (m2, (⟨x, 0, noB⟩ : Ans)) = (m', a) from by have h := HER.out; rw [if_neg h0, if_neg (by omega), if_pos hk, Pg.run_bind, E2] at h; exact h);subst e1 e2;have KM := hid9 (fun W (d : PQ p base v1 v2 v3 w [(w.heap.size + 1, [.int .i64 0, .int .i64 0, .string ⟨#[]⟩]), (w.heap.size, [.int .i64 c.kind, .string c.name, .string c.dest, .int .i64 c.a, .int .i64 c.b, .string c.text])] W u1 u2 u3 m1) => pWrite_c p base u1 u2 u3 m1 m2 x id c.a c.text W d.j.at_ (O1.out.mono (by omega)) hid ht (fun X hX => HTQ.out _ _ _ _ _ d.j X hX) E2);rw [hk] at k10;clear HER hk;go_wp2_with fail;refine (KM.out _ D1.out).mono ?_;rintro e w2 ⟨u4, u5, u6, rfl, hm, hg, q1, q2, q3⟩;have D2 := hid9 (D1.out.next hm hg q1 q2 q3);clear hm hg q1 q2 q3 KM D1 k10 k11 k12 k13 k14 k15;have r20 := (D2.out.box 0 _ rfl).cell 0 _ rfl;have r21 := (D2.out.box 0 _ rfl).cell 1 _ rfl;have r22 := (D2.out.box 0 _ rfl).cell 2 _ rfl;have s20 := (D2.out.box 0 _ rfl).free 0;have s21 := (D2.out.box 0 _ rfl).free 1;have s22 := (D2.out.box 0 _ rfl).free 2;have HEND := hid9 ((((D2.out.set 0 _ rfl 0 (.int .i64 x)).set 0 _ rfl 1 (.int .i64 0)).set 0 _ rfl 2 (.string ⟨#[]⟩)).j.done (.agg #[.int .i64 x, .int .i64 0, .string ⟨#[]⟩]));clear D2;go_wp2;exact bodyPost_ret (v := .agg #[.int .i64 x, .int .i64 0, .string ⟨#[]⟩]) (by simp [results, results103, go_sem, *]) rfl HEND.out
  ·obtain ⟨m2, x, E2⟩ : ∃ aa bb, (cutP id c.a).run m1 = (aa, bb) := ⟨_, _, rfl⟩;obtain ⟨e1, e2⟩ := Prod.mk.inj (show (m2, (⟨x, 0, noB⟩ : Ans)) = (m', a) from by have h := HER.out; rw [if_neg h0, if_neg (by omega), if_neg (by omega), Pg.run_bind, E2] at h; exact h);subst e1 e2;have KM := hid9 (fun W (d : PQ p base v1 v2 v3 w [(w.heap.size + 1, [.int .i64 0, .int .i64 0, .string ⟨#[]⟩]), (w.heap.size, [.int .i64 c.kind, .string c.name, .string c.dest, .int .i64 c.a, .int .i64 c.b, .string c.text])] W u1 u2 u3 m1) => pCut_c p base u1 u2 u3 m1 m2 x id c.a W d.j.at_ (O1.out.mono (by omega)) hid (fun X hX => HTQ.out _ _ _ _ _ d.j X hX) E2);rw [hk] at k10;clear HER hk;go_wp2_with fail;refine (KM.out _ D1.out).mono ?_;rintro e w2 ⟨u4, u5, u6, rfl, hm, hg, q1, q2, q3⟩;have D2 := hid9 (D1.out.next hm hg q1 q2 q3);clear hm hg q1 q2 q3 KM D1 k10 k11 k12 k13 k14 k15;have r20 := (D2.out.box 0 _ rfl).cell 0 _ rfl;have r21 := (D2.out.box 0 _ rfl).cell 1 _ rfl;have r22 := (D2.out.box 0 _ rfl).cell 2 _ rfl;have s20 := (D2.out.box 0 _ rfl).free 0;have s21 := (D2.out.box 0 _ rfl).free 1;have s22 := (D2.out.box 0 _ rfl).free 2;have HEND := hid9 ((((D2.out.set 0 _ rfl 0 (.int .i64 x)).set 0 _ rfl 1 (.int .i64 0)).set 0 _ rfl 2 (.string ⟨#[]⟩)).j.done (.agg #[.int .i64 x, .int .i64 0, .string ⟨#[]⟩]));clear D2;go_wp2;exact bodyPost_ret (v := .agg #[.int .i64 x, .int .i64 0, .string ⟨#[]⟩]) (by simp [results, results103, go_sem, *]) rfl HEND.out
section
variable {p base : Nat} {v1 v2 v3 u1 u2 u3 x1 x2 x3 : Value} {w W W' : World} {cs xs : List Value} {m k k' : Mch}
theorem DAt.cfx {y1 y2 y3 y4 y5 y6 : Value} (d : DAt p base v1 v2 v3 w [y1, y2, y3, y4, y5, y6] xs W u1 u2 u3 k) : W.cell? ⟨w.heap.size, 0, none⟩ = some y1 ∧ W.cell? ⟨w.heap.size, 1, none⟩ = some y2 ∧ W.cell? ⟨w.heap.size, 2, none⟩ = some y3 ∧ W.cell? ⟨w.heap.size, 3, none⟩ = some y4 ∧ W.cell? ⟨w.heap.size, 4, none⟩ = some y5 ∧ W.cell? ⟨w.heap.size, 5, none⟩ = some y6 :=
 ⟨d.bc.cell 0 _ rfl, d.bc.cell 1 _ rfl, d.bc.cell 2 _ rfl, d.bc.cell 3 _ rfl, d.bc.cell 4 _ rfl, d.bc.cell 5 _ rfl⟩
theorem DAt.afx {y1 y2 y3 : Value} (d : DAt p base v1 v2 v3 w cs [y1, y2, y3] W u1 u2 u3 k) : W.cell? ⟨w.heap.size + 2, 0, none⟩ = some y1 ∧ W.cell? ⟨w.heap.size + 2, 1, none⟩ = some y2 ∧ W.cell? ⟨w.heap.size + 2, 2, none⟩ = some y3 ∧ W.frozen? ⟨w.heap.size + 2, 0, none⟩ = false ∧ W.frozen? ⟨w.heap.size + 2, 1, none⟩ = false ∧ W.frozen? ⟨w.heap.size + 2, 2, none⟩ = false :=
 ⟨d.ba.cell 0 _ rfl, d.ba.cell 1 _ rfl, d.ba.cell 2 _ rfl, d.ba.free 0, d.ba.free 1, d.ba.free 2⟩
theorem DAt.rfx (d : DAt p base v1 v2 v3 w cs xs W u1 u2 u3 k) : ∃ y1 y2 y3, W.cell? ⟨w.heap.size + 1, 0, none⟩ = some y1 ∧ W.cell? ⟨w.heap.size + 1, 1, none⟩ = some y2 ∧ W.cell? ⟨w.heap.size + 1, 2, none⟩ = some y3 ∧ W.frozen? ⟨w.heap.size + 1, 0, none⟩ = false ∧ W.frozen? ⟨w.heap.size + 1, 1, none⟩ = false ∧ W.frozen? ⟨w.heap.size + 1, 2, none⟩ = false := by
 obtain ⟨ys, hy, b⟩ := d.br;obtain ⟨y1, y2, y3, rfl⟩ := three_of hy;exact ⟨y1, y2, y3, b.cell 0 _ rfl, b.cell 1 _ rfl, b.cell 2 _ rfl, b.free 0, b.free 1, b.free 2⟩
theorem DAt.got (d : Hid (DAt p base v1 v2 v3 w cs xs W u1 u2 u3 k)) {P : Program} {f : FuncId} {args : Array Value} {r : Value} {R : Ending → World → Prop} (K : Calls P f args W (MStep p base u1 u2 u3 k' r W))
 (h : ∀ x1 x2 x3 w', Hid (DAt p base v1 v2 v3 w cs xs w' x1 x2 x3 k') → R (.returned r) w') : Calls P f args W R := K.mono (by
 rintro e w' ⟨x1, x2, x3, rfl, hm, hg, q1, q2, q3⟩;exact h _ _ _ _ (d.out.next hm hg q1 q2 q3))
end
theorem hop2 {α : Type} {x : Pg α} {f : α → Ans} {m m' : Mch} {a : Ans} (h : (do let r ← x; pure (f r)).run m = (m', a)) : ∃ r, x.run m = (m', r) ∧ f r = a := by
 rw [Pg.run_bind] at h;obtain ⟨h1, h2⟩ := Prod.mk.inj h;exact ⟨_, Prod.ext h1 rfl, h2⟩
set_option maxRecDepth 100000 in
theorem pDo_c (p base : Nat) (v1 v2 v3 : Value) (m m' : Mch) (a : Ans) (proc : Int) (c : Cal) (w : World) (h : MAt w p base v1 v2 v3 m) (ho : MOk 100000000000 m) (hp : I64 proc) (hc : COk c) (HT : ∀ W, Below base w W → Tabs W) (E : (callP proc c).run m = (m', a)) :
 Calls prog 60 #[.pointer (some ⟨p, 0, none⟩), .int .i64 proc, .agg #[.int .i64 c.kind, .string c.name, .string c.dest, .int .i64 c.a, .int .i64 c.b, .string c.text]] w (MStep p base v1 v2 v3 m' (.agg #[.int .i64 a.code, .int .i64 a.n, .string a.text]) w) := by
 have D0 := hid9 (DAt.first h [.int .i64 c.kind, .string c.name, .string c.dest, .int .i64 c.a, .int .i64 c.b, .string c.text] 36 28 28);have HTD := hid9 (fun W u1 u2 u3 k xs (d : DAt p base v1 v2 v3 w [.int .i64 c.kind, .string c.name, .string c.dest, .int .i64 c.a, .int .i64 c.b, .string c.text] xs W u1 u2 u3 k) X (hX : Below base W X) => HT X ((d.bel h).trans hX));have O0 := hid9 ho;have HE := hid9 E;have HC := hid9 hc;obtain ⟨m1, s1, E1⟩ : ∃ aa bb, (stateP proc).run m = (aa, bb) := ⟨_, _, rfl⟩;have O1 := hid9 ((stateP_cost _).okE ho E1);have HE1 := hid9 E1;clear h ho HT E E1 hc;go_enter func60, ntmps60;go_wp2_with fail;refine DAt.got D0 (pState_c p base v1 v2 v3 m m1 s1 proc _ D0.out.at_ (O0.out.mono (by omega)) hp (HTD.out _ _ _ _ _ _ D0.out) HE1.out) fun u1 u2 u3 w1 D1 => ?_;clear D0;by_cases hs1 : s1 = 1
 ·subst hs1;have KC := hid9 (fun W => implCallOk_c c HC.out.n HC.out.d HC.out.t W);have C1 := D1.out.cfx;go_wp2_with fail;refine (KC.out _).mono ?_;rintro e w2 ⟨rfl, hb⟩;clear C1 KC;have D2 := hid9 (D1.out.below hb);clear hb D1;cases hk : callOkB c with
  | false =>
   obtain ⟨rfl, rfl⟩ := Prod.mk.inj (show (m1, (⟨4, 0, noB⟩ : Ans)) = (m', a) from by have h := HE.out; unfold callP at h; rw [Pg.run_bind, HE1.out] at h; simp only [↓reduceIte, hk, Bool.false_eq_true] at h; exact h);obtain ⟨y1, y2, y3, C4⟩ := D2.out.rfx;go_wp2;refine bodyPost_ret ?_ rfl (D2.out.done _ _ _ _);simp [results, results60, go_sem, ansN, ansC, ansT, noB, *]
  | true =>
   have hz := ok_sizes hk;have hb9 := ok_kind hk;have HK0 := hid9 (show (kindP proc c).run m1 = (m', a) from by have h := HE.out; unfold callP at h; rw [Pg.run_bind, HE1.out] at h; simp only [↓reduceIte, hk] at h; exact h);have C2 := D2.out.cfx;clear HE hk;rcases (show c.kind = 1 ∨ c.kind = 2 ∨ c.kind = 3 ∨ c.kind = 4 ∨ c.kind = 5 ∨ c.kind = 6 ∨ c.kind = 7 ∨ c.kind = 8 ∨ c.kind = 9 ∨ c.kind = 10 ∨ c.kind = 11 ∨ c.kind = 12 ∨ c.kind = 13 ∨ c.kind = 14 ∨ c.kind = 15 ∨ c.kind = 16 ∨ c.kind = 17 ∨ c.kind = 18 ∨ c.kind = 19 ∨ c.kind = 20 ∨ c.kind = 21 ∨ c.kind = 22 by omega) with h9 | h9 | h9 | h9 | h9 | h9 | h9 | h9 | h9 | h9 | h9 | h9 | h9 | h9 | h9 | h9 | h9 | h9 | h9 | h9 | h9 | h9
   all_goals
    have HKK := hid9 h9;rw [h9] at C2;clear h9 hb9;go_wp2_with fail
   ·have HK := HK0;rw [kind1 HKK.out] at HK;obtain ⟨⟨x, y⟩, HE2, rfl⟩ := hop2 HK.out;refine DAt.got D2 (pMake_c p base u1 u2 u3 m1 m' x y c.name _ D2.out.at_ (O1.out.mono (by omega)) (Nat.le_trans hz.1 (by decide)) (HTD.out _ _ _ _ _ _ D2.out) HE2) fun u4 u5 u6 w3 D3 => ?_;clear C2 D2;have C3 := D3.out.afx;obtain ⟨y1, y2, y3, C4⟩ := D3.out.rfx;go_wp2;refine bodyPost_ret ?_ rfl (((D3.out.seta _ _).seta _ _).done _ _ _ _);simp [results, results60, go_sem, ansN, ansC, ansT, noB, *]
   have HK := HK0;rw [kind2 HKK.out] at HK;obtain ⟨x, HE2, rfl⟩ := hop2 HK.out;refine DAt.got D2 (pLink_c p base u1 u2 u3 m1 m' x c.name c.dest _ D2.out.at_ (O1.out.mono (by omega)) (Nat.le_trans hz.1 (by decide)) (Nat.le_trans hz.2.1 (by decide)) (HTD.out _ _ _ _ _ _ D2.out) HE2) fun u4 u5 u6 w3 D3 => ?_
   rotate_left
   have HK := HK0;rw [kind3 HKK.out] at HK;obtain ⟨x, HE2, rfl⟩ := hop2 HK.out;refine DAt.got D2 (pUnlink_c p base u1 u2 u3 m1 m' x c.name _ D2.out.at_ (O1.out.mono (by omega)) (Nat.le_trans hz.1 (by decide)) (HTD.out _ _ _ _ _ _ D2.out) HE2) fun u4 u5 u6 w3 D3 => ?_
   rotate_left
   have HK := HK0;rw [kind4 HKK.out] at HK;obtain ⟨x, HE2, rfl⟩ := hop2 HK.out;refine DAt.got D2 (pRename_c p base u1 u2 u3 m1 m' x c.name c.dest _ D2.out.at_ (O1.out.mono (by omega)) (Nat.le_trans hz.1 (by decide)) (Nat.le_trans hz.2.1 (by decide)) (HTD.out _ _ _ _ _ _ D2.out) HE2) fun u4 u5 u6 w3 D3 => ?_
   rotate_left
   ·have HK := HK0;rw [kind5 HKK.out] at HK;obtain ⟨x, E2, rfl⟩ := hop2 HK.out;obtain ⟨hsx, hnx⟩ := names_sz O1.out E2;have HSX := hid9 hsx;clear hsx;refine (pNames_c p base u1 u2 u3 m1 m' x _ D2.out.at_ (O1.out.mono (by omega)) E2).mono ?_;rintro e w3 ⟨u4, u5, u6, a, ca, rfl, hj, hok⟩;have hw2 : w.heap.size + 3 ≤ w2.heap.size := (D2.out.ba).1;have D3 := hid9 (D2.out.next hj.at_ hj.gr hj.q1 hj.q2 hj.q3);have HK3 := hid9 hok;clear C2 hj hok D2 E2 HK;go_wp2;go_loopw [66] (fun i wr => ∃ k : Nat, k ≤ x.length ∧ i = .int .i64 k ∧ Hid (DAt p base v1 v2 v3 w [.int .i64 c.kind, .string c.name, .string c.dest, .int .i64 c.a, .int .i64 c.b, .string c.text] [.int .i64 0, .int .i64 0, .string (wordsS (x.take k))] wr u4 u5 u6 m' ∧ wr.ownsRow w2.heap.size 9 1 (.slice a x.length ca) x.length (x.flatMap encS))) (fun i _ => x.length - (intOf i).toNat)
    case atStart => exact ⟨0, Nat.zero_le _, rfl, hid9 ⟨D3.out, HK3.out⟩⟩
    case round =>
     obtain ⟨k, hk, rfl, HI⟩ := hrel;clear D3 HK3;by_cases hlt : k < x.length
     ·obtain ⟨y, hy⟩ := some_of_lt hlt;obtain ⟨b, off, hab, c0⟩ := readFS (own_reads encS_len HI.out.2) (Below.refl _ _) hy;subst hab;have p1 : (0 : Int) ≤ (k : Int) := by omega
      have p2 : (k : Int) < (x.length : Int) := by omega
      have hyz := HSX.out y (List.mem_of_getElem? hy);have htz := take_sz HSX.out k hk;have HWD := hid9 (words_snoc hy);obtain ⟨T, hT⟩ : ∃ T, wordsS (x.take k) = T := ⟨_, rfl⟩;rw [hT] at HWD htz;have HI2 := hid9 HI.out;rw [hT] at HI2;have had1 : ∀ t, binOp .add t (.string y) (.string ⟨#[32]⟩) = pure (.string (y ++ ⟨#[32]⟩)) := fun t => add_run (by have : (ByteArray.mk #[32]).size = 1 := rfl; omega);have had2 : ∀ t, binOp .add t (.string T) (.string (y ++ ⟨#[32]⟩)) = pure (.string (T ++ (y ++ (⟨#[32]⟩ : ByteArray)))) := fun t => add_run (by rw [ByteArray.size_append]; have : (ByteArray.mk #[32]).size = 1 := rfl; have h5 : k * (1048576 + 1) ≤ 200000000000 * 1048577 := Nat.mul_le_mul (by omega) (by omega); omega);have C3 := (HI2.out.1).afx;have HN := hid9 (show DAt p base v1 v2 v3 w [.int .i64 c.kind, .string c.name, .string c.dest, .int .i64 c.a, .int .i64 c.b, .string c.text] [.int .i64 0, .int .i64 0, .string (wordsS (x.take (k + 1)))] (wr.setCell ⟨w.heap.size + 2, 2, none⟩ (.string (T ++ (y ++ (⟨#[32]⟩ : ByteArray))))) u4 u5 u6 m' ∧ (wr.setCell ⟨w.heap.size + 2, 2, none⟩ (.string (T ++ (y ++ (⟨#[32]⟩ : ByteArray))))).ownsRow w2.heap.size 9 1 (.slice (some ⟨b, off, none⟩) x.length ca) x.length (x.flatMap encS) from by
       rw [HWD.out];exact ⟨HI2.out.1.seta 2 (.string (T ++ (y ++ (⟨#[32]⟩ : ByteArray)))), own_setb HI2.out.2 (by omega) _⟩)
      clear HI HI2 HWD hT hy htz hyz;go_wp2;go_roundw
      case rel => exact ⟨k + 1, by omega, by go_num, HN⟩
      case measure => simp [intOf]; omega
     ·obtain rfl : k = x.length := by omega
      have p2 : ¬ ((x.length : Nat) : Int) < (x.length : Int) := by omega
      have D3 := hid9 HI.out.1;rw [List.take_length] at D3;clear HI;have C3 := D3.out.afx;obtain ⟨y1, y2, y3, C4⟩ := D3.out.rfx;obtain ⟨T, hT⟩ : ∃ T, wordsS (x) = T := ⟨_, rfl⟩;rw [hT] at D3 C3;have HT2 := hid9 hT;clear hT;have HEND := hid9 (show MStep p base v1 v2 v3 m' (.agg #[.int .i64 0, .int .i64 0, .string (wordsS (x))]) w (.returned (.agg #[.int .i64 0, .int .i64 0, .string T])) _ from by rw [HT2.out]; exact D3.out.done (.agg #[.int .i64 0, .int .i64 0, .string T]) (.int .i64 0) (.int .i64 0) (.string T));clear D3;go_wp2;exact bodyPost_ret (v := .agg #[.int .i64 0, .int .i64 0, .string T]) (by simp [results, results60, go_sem, *]) rfl HEND.out
   ·have HK := HK0;rw [kind6 HKK.out] at HK;obtain ⟨xc, xn, xt⟩ := a;have KM := hid9 (show Calls prog 103 #[.pointer (some ⟨p, 0, none⟩), .agg #[.int .i64 6, .string c.name, .string c.dest, .int .i64 c.a, .int .i64 c.b, .string c.text]] w2 (MStep p base u1 u2 u3 m' (.agg #[.int .i64 xc, .int .i64 xn, .string xt]) w2) from by
     have h := pFile_c p base u1 u2 u3 m1 m' ⟨xc, xn, xt⟩ c _ D2.out.at_ (O1.out.mono (by omega)) HC.out (by omega) (by omega) (by rw [HKK.out]; decide) (HTD.out _ _ _ _ _ _ D2.out) HK.out;rw [HKK.out] at h;exact h)
    refine DAt.got D2 KM.out fun u4 u5 u6 w3 D3 => ?_;clear KM;clear C2 D2;obtain ⟨y1, y2, y3, C4⟩ := D3.out.rfx;go_wp2;refine bodyPost_ret ?_ rfl (D3.out.done _ _ _ _);simp [results, results60, go_sem, ansN, ansC, ansT, noB, *]
   ·have HK := HK0;rw [kind7 HKK.out] at HK;obtain ⟨xc, xn, xt⟩ := a;have KM := hid9 (show Calls prog 103 #[.pointer (some ⟨p, 0, none⟩), .agg #[.int .i64 7, .string c.name, .string c.dest, .int .i64 c.a, .int .i64 c.b, .string c.text]] w2 (MStep p base u1 u2 u3 m' (.agg #[.int .i64 xc, .int .i64 xn, .string xt]) w2) from by
     have h := pFile_c p base u1 u2 u3 m1 m' ⟨xc, xn, xt⟩ c _ D2.out.at_ (O1.out.mono (by omega)) HC.out (by omega) (by omega) (by rw [HKK.out]; decide) (HTD.out _ _ _ _ _ _ D2.out) HK.out;rw [HKK.out] at h;exact h)
    refine DAt.got D2 KM.out fun u4 u5 u6 w3 D3 => ?_;clear KM;clear C2 D2;obtain ⟨y1, y2, y3, C4⟩ := D3.out.rfx;go_wp2;refine bodyPost_ret ?_ rfl (D3.out.done _ _ _ _);simp [results, results60, go_sem, ansN, ansC, ansT, noB, *]
   ·have HK := HK0;rw [kind8 HKK.out] at HK;obtain ⟨xc, xn, xt⟩ := a;have KM := hid9 (show Calls prog 103 #[.pointer (some ⟨p, 0, none⟩), .agg #[.int .i64 8, .string c.name, .string c.dest, .int .i64 c.a, .int .i64 c.b, .string c.text]] w2 (MStep p base u1 u2 u3 m' (.agg #[.int .i64 xc, .int .i64 xn, .string xt]) w2) from by
     have h := pFile_c p base u1 u2 u3 m1 m' ⟨xc, xn, xt⟩ c _ D2.out.at_ (O1.out.mono (by omega)) HC.out (by omega) (by omega) (by rw [HKK.out]; decide) (HTD.out _ _ _ _ _ _ D2.out) HK.out;rw [HKK.out] at h;exact h)
    refine DAt.got D2 KM.out fun u4 u5 u6 w3 D3 => ?_;clear KM;clear C2 D2;obtain ⟨y1, y2, y3, C4⟩ := D3.out.rfx;go_wp2;refine bodyPost_ret ?_ rfl (D3.out.done _ _ _ _);simp [results, results60, go_sem, ansN, ansC, ansT, noB, *]
   ·have HK := HK0;rw [kind9 HKK.out] at HK;obtain ⟨⟨x, y⟩, HE2, rfl⟩ := hop2 HK.out;refine DAt.got D2 (pMkPipe_c p base u1 u2 u3 m1 m' x y  _ D2.out.at_ (O1.out.mono (by omega))  (HTD.out _ _ _ _ _ _ D2.out) HE2) fun u4 u5 u6 w3 D3 => ?_;clear C2 D2;have C3 := D3.out.afx;obtain ⟨y1, y2, y3, C4⟩ := D3.out.rfx;go_wp2;refine bodyPost_ret ?_ rfl (((D3.out.seta _ _).seta _ _).done _ _ _ _);simp [results, results60, go_sem, ansN, ansC, ansT, noB, *]
   have HK := HK0;rw [kind10 HKK.out] at HK;obtain ⟨x, HE2, rfl⟩ := hop2 HK.out;refine DAt.got D2 (pPutPipe_c p base u1 u2 u3 m1 m' x c.a c.text _ D2.out.at_ (O1.out.mono (by omega)) HC.out.a (HTD.out _ _ _ _ _ _ D2.out) HE2) fun u4 u5 u6 w3 D3 => ?_
   rotate_left
   ·have HK := HK0;rw [kind11 HKK.out] at HK;obtain ⟨⟨x, y⟩, HE2, rfl⟩ := hop2 HK.out;refine DAt.got D2 (pTakePipe_c p base u1 u2 u3 m1 m' x y c.a _ D2.out.at_ (O1.out.mono (by omega)) HC.out.a (HTD.out _ _ _ _ _ _ D2.out) HE2) fun u4 u5 u6 w3 D3 => ?_;clear C2 D2;have C3 := D3.out.afx;obtain ⟨y1, y2, y3, C4⟩ := D3.out.rfx;go_wp2;refine bodyPost_ret ?_ rfl (((D3.out.seta _ _).seta _ _).done _ _ _ _);simp [results, results60, go_sem, ansN, ansC, ansT, noB, *]
   ·have HK := HK0;rw [kind12 HKK.out] at HK;obtain ⟨m2, ⟨x, y⟩, E2⟩ : ∃ aa bb, (spawnP proc).run m1 = (aa, bb) := ⟨_, _, rfl⟩;have hx := spawn_bounds E2;have O2 := hid9 ((spawnP_cost _).okE O1.out E2);have HK2 := hid9 (show (if y = 0 then (do let _ ← forkP proc x; pure (⟨y, x, noB⟩ : Ans)) else pure (⟨y, x, noB⟩ : Ans)).run m2 = (m', a) from by have h := HK.out; unfold spawnAllP at h; rw [Pg.run_bind, E2] at h; exact h);have HE2 := hid9 E2;clear E2;refine DAt.got D2 (pSpawn_c p base u1 u2 u3 m1 m2 x y proc _ D2.out.at_ (O1.out.mono (by omega)) (HTD.out _ _ _ _ _ _ D2.out) HE2.out) fun u4 u5 u6 w3 D3 => ?_;clear C2 D2;have C3 := D3.out.afx;by_cases hy0 : y = 0
    ·subst hy0;have h := HK2.out;rw [if_pos rfl] at h;obtain ⟨u, HE3, rfl⟩ := hop2 h;have D4 := hid9 ((D3.out.seta 1 (.int .i64 x)).seta 0 (.int .i64 0));clear D3;go_wp2_with fail;refine DAt.got D4 (pFork_c p base u4 u5 u6 m2 m' u proc x _ D4.out.at_ (O2.out.mono (by omega)) hp (i64_of hx) (HTD.out _ _ _ _ _ _ D4.out) HE3) fun u7 u8 u9 w5 D5 => ?_;clear C3 D4;have C5 := D5.out.afx;obtain ⟨y1, y2, y3, C4⟩ := D5.out.rfx;go_wp2;refine bodyPost_ret ?_ rfl (D5.out.done _ _ _ _);simp [results, results60, go_sem, ansN, ansC, ansT, noB, *]
    ·obtain ⟨rfl, rfl⟩ := Prod.mk.inj (show (m2, _) = (m', a) from by have h := HK2.out; rw [if_neg hy0] at h; exact h);have D4 := hid9 ((D3.out.seta 1 (.int .i64 x)).seta 0 (.int .i64 y));obtain ⟨y1, y2, y3, C4⟩ := D3.out.rfx;clear D3;go_wp2;refine bodyPost_ret ?_ rfl (D4.out.done _ _ _ _);simp [results, results60, go_sem, ansN, ansC, ansT, noB, *]
   ·have HK := HK0;rw [kind13 HKK.out] at HK;obtain ⟨m2, y, E2⟩ : ∃ aa bb, (endP proc c.a).run m1 = (aa, bb) := ⟨_, _, rfl⟩;have O2 := hid9 ((endP_cost _ _).okE O1.out E2);have HK2 := hid9 (show (if y = 0 then (do let _ ← dropPagesP proc; pure (⟨y, 0, noB⟩ : Ans)) else pure (⟨y, 0, noB⟩ : Ans)).run m2 = (m', a) from by have h := HK.out; unfold endAllP at h; rw [Pg.run_bind, E2] at h; exact h);have HE2 := hid9 E2;clear E2;refine DAt.got D2 (pEnd_c p base u1 u2 u3 m1 m2 y proc c.a _ D2.out.at_ (O1.out.mono (by omega)) hp (HTD.out _ _ _ _ _ _ D2.out) HE2.out) fun u4 u5 u6 w3 D3 => ?_;clear C2 D2;have C3 := D3.out.afx;by_cases hy0 : y = 0
    ·subst hy0;have h := HK2.out;rw [if_pos rfl] at h;obtain ⟨u, HE3, rfl⟩ := hop2 h;have D4 := hid9 (D3.out.seta 0 (.int .i64 0));clear D3;go_wp2_with fail;refine DAt.got D4 (pDrop_c p base u4 u5 u6 m2 m' u proc _ D4.out.at_ (O2.out.mono (by omega)) hp (HTD.out _ _ _ _ _ _ D4.out) HE3) fun u7 u8 u9 w5 D5 => ?_;clear C3 D4;have C5 := D5.out.afx;obtain ⟨y1, y2, y3, C4⟩ := D5.out.rfx;go_wp2;refine bodyPost_ret ?_ rfl (D5.out.done _ _ _ _);simp [results, results60, go_sem, ansN, ansC, ansT, noB, *]
    ·obtain ⟨rfl, rfl⟩ := Prod.mk.inj (show (m2, _) = (m', a) from by have h := HK2.out; rw [if_neg hy0] at h; exact h);have D4 := hid9 (D3.out.seta 0 (.int .i64 y));obtain ⟨y1, y2, y3, C4⟩ := D3.out.rfx;clear D3;go_wp2;refine bodyPost_ret ?_ rfl (D4.out.done _ _ _ _);simp [results, results60, go_sem, ansN, ansC, ansT, noB, *]
   ·have HK := HK0;rw [kind14 HKK.out] at HK;obtain ⟨⟨x, y⟩, HE2, rfl⟩ := hop2 HK.out;refine DAt.got D2 (pReap_c p base u1 u2 u3 m1 m' x y proc c.a _ D2.out.at_ (O1.out.mono (by omega)) HC.out.a (HTD.out _ _ _ _ _ _ D2.out) HE2) fun u4 u5 u6 w3 D3 => ?_;clear C2 D2;have C3 := D3.out.afx;obtain ⟨y1, y2, y3, C4⟩ := D3.out.rfx;go_wp2;refine bodyPost_ret ?_ rfl (((D3.out.seta _ _).seta _ _).done _ _ _ _);simp [results, results60, go_sem, ansN, ansC, ansT, noB, *]
   ·have HK := HK0;rw [kind15 HKK.out] at HK;obtain ⟨x, E2, rfl⟩ := hop2 HK.out;obtain ⟨hsx, hnx⟩ := kids_ok O1.out E2;have HSX := hid9 hsx;clear hsx;refine (pKids_c p base u1 u2 u3 m1 m' x proc _ D2.out.at_ (O1.out.mono (by omega)) (HTD.out _ _ _ _ _ _ D2.out) E2).mono ?_;rintro e w3 ⟨u4, u5, u6, a, ca, rfl, hj, hok⟩;have hw2 : w.heap.size + 3 ≤ w2.heap.size := (D2.out.ba).1;have D3 := hid9 (D2.out.next hj.at_ hj.gr hj.q1 hj.q2 hj.q3);have HK3 := hid9 hok;clear C2 hj hok D2 E2 HK;go_wp2;go_loopw [163] (fun i wr => ∃ k : Nat, k ≤ x.length ∧ i = .int .i64 k ∧ Hid (DAt p base v1 v2 v3 w [.int .i64 c.kind, .string c.name, .string c.dest, .int .i64 c.a, .int .i64 c.b, .string c.text] [.int .i64 0, .int .i64 0, .string (wordsS ((x.take k).map decS))] wr u4 u5 u6 m' ∧ wr.ownsRow w2.heap.size 3 1 (.slice a x.length ca) x.length (x.flatMap encI))) (fun i _ => x.length - (intOf i).toNat)
    case atStart => exact ⟨0, Nat.zero_le _, rfl, hid9 ⟨D3.out, HK3.out⟩⟩
    case round =>
     obtain ⟨k, hk, rfl, HI⟩ := hrel;clear D3 HK3;by_cases hlt : k < x.length
     ·obtain ⟨y, hy⟩ := some_of_lt hlt;obtain ⟨b, off, hab, c0⟩ := readFI (own_reads encI_len HI.out.2) (Below.refl _ _) hy;subst hab;have p1 : (0 : Int) ≤ (k : Int) := by omega
      have p2 : (k : Int) < (x.length : Int) := by omega
      have hyz := HSX.out y (List.mem_of_getElem? hy);have hdz := decS_size y (by omega) (by omega);have HWD := hid9 (words_snoc (x := x.map decS) (k := k) (y := decS y) (by rw [List.getElem?_map, hy]; rfl));have htz := take_sz (x := x.map decS) (L := 1000) (fun z hz => by obtain ⟨q, hq, rfl⟩ := List.mem_map.1 hz; have := HSX.out q hq; have := decS_size q (by omega) (by omega); omega) k (by rw [List.length_map]; exact hk);rw [← List.map_take, ← List.map_take] at HWD;rw [← List.map_take] at htz;obtain ⟨T, hT⟩ : ∃ T, wordsS ((x.take k).map decS) = T := ⟨_, rfl⟩;rw [hT] at HWD htz;have HI2 := hid9 HI.out;rw [hT] at HI2;have KD := hid9 (fun W (h : Tabs W) => implDecimal_c y W (by omega) (by omega) h.1);obtain ⟨dv, hdv⟩ : ∃ dv, decS y = dv := ⟨_, rfl⟩;rw [hdv] at hdz HWD KD;have had1 : ∀ t, binOp .add t (.string dv) (.string ⟨#[32]⟩) = pure (.string (dv ++ ⟨#[32]⟩)) := fun t => add_run (by have : (ByteArray.mk #[32]).size = 1 := rfl; omega);have had2 : ∀ t, binOp .add t (.string T) (.string (dv ++ ⟨#[32]⟩)) = pure (.string (T ++ (dv ++ (⟨#[32]⟩ : ByteArray)))) := fun t => add_run (by rw [ByteArray.size_append]; have : (ByteArray.mk #[32]).size = 1 := rfl; have h5 : k * (1000 + 1) ≤ 200000000000 * 1001 := Nat.mul_le_mul (by omega) (by omega); omega);have cra : ∀ W, (fun W => DAt p base v1 v2 v3 w [.int .i64 c.kind, .string c.name, .string c.dest, .int .i64 c.a, .int .i64 c.b, .string c.text] [.int .i64 0, .int .i64 0, .string T] W u4 u5 u6 m' ∧ W.ownsRow w2.heap.size 3 1 (.slice (some ⟨b, off, none⟩) x.length ca) x.length (x.flatMap encI)) W → W.cell? ⟨w.heap.size + 2, 2, none⟩ = some (.string T) := fun W h => h.1.ba.cell 2 _ rfl;clear HI hT hy htz hyz hdz hdv;go_wp2;refine wp_region_Y (fun W => DAt p base v1 v2 v3 w [.int .i64 c.kind, .string c.name, .string c.dest, .int .i64 c.a, .int .i64 c.b, .string c.text] [.int .i64 0, .int .i64 0, .string T] W u4 u5 u6 m' ∧ W.ownsRow w2.heap.size 3 1 (.slice (some ⟨b, off, none⟩) x.length ca) x.length (x.flatMap encI)) [7] (by kernel_rfl) ⟨HI2.out.1.below bel9, ownsRow_below HI2.out.2 bel9⟩ (fun hS => ?_);refine wpAnyY_pure (i := 0) (oi := _) (v := ?_) rfl (by kernel_rfl) (by kernel_rfl) (by kernel_rfl) (by kernel_rfl) (fun _ _ _ h => h) (Or.inl ⟨by rfl, ?_⟩) (Or.inr hS) ?_
      rotate_left
      ·(intro w hSw; (try dsimp only at hSw); go_simp); all_goals with_reducible rfl
      try simp only [Act.put, List.getElem_toArray, List.getElem_cons_zero, List.getElem_cons_succ, List.setIfInBounds_toArray, List.set_cons_zero, List.set_cons_succ]
      refine wpAnyY_load (i := 1) (oi := _) (v := ?_) 12 rfl (by kernel_rfl) (by kernel_rfl) (by kernel_rfl) (by kernel_rfl) (fun _ _ _ h => h) (Or.inl ⟨by rfl, ?_⟩) hS (fun hS => ?_)
      rotate_left
      ·(intro w hSw; (try dsimp only at hSw); go_simp); all_goals with_reducible rfl
      try simp only [Act.put, List.getElem_toArray, List.getElem_cons_zero, List.getElem_cons_succ, List.setIfInBounds_toArray, List.set_cons_zero, List.set_cons_succ]
      refine wpAnyY_pure (i := 2) (oi := _) (v := ?_) rfl (by kernel_rfl) (by kernel_rfl) (by kernel_rfl) (by kernel_rfl) (fun _ _ _ h => h) (Or.inl ⟨by rfl, ?_⟩) (Or.inr hS) ?_
      rotate_left
      ·(intro w hSw; (try dsimp only at hSw); go_simp); all_goals with_reducible rfl
      try simp only [Act.put, List.getElem_toArray, List.getElem_cons_zero, List.getElem_cons_succ, List.setIfInBounds_toArray, List.set_cons_zero, List.set_cons_succ]
      refine wpAnyY_one (i := 3) (o := _) (by kernel_rfl) rfl (fun K hK => ?_);go_simp;refine (KD.out _ (HTD.out _ _ _ _ _ _ hS.1 _ (Below.refl _ _))).mono ?_;rintro e wd ⟨rfl, hb⟩;have hS2 := (⟨hS.1.below hb, ownsRow_below hS.2 hb⟩ : _ ∧ _);clear hS hb;have hS := hS2;clear hS2;go_wp2_with fail;refine hK.out _ _ (Or.inr hS) ?_;clear hK K
      try simp only [Act.put, List.getElem_toArray, List.getElem_cons_zero, List.getElem_cons_succ, List.setIfInBounds_toArray, List.set_cons_zero, List.set_cons_succ]
      refine wpAnyY_pure (i := 4) (oi := _) (v := ?_) rfl (by kernel_rfl) (by kernel_rfl) (by kernel_rfl) (by kernel_rfl) (fun _ _ _ h => h) (Or.inl ⟨by rfl, ?_⟩) (Or.inr hS) ?_
      rotate_left
      ·(intro w hSw; (try dsimp only at hSw); go_simp); all_goals with_reducible rfl
      try simp only [Act.put, List.getElem_toArray, List.getElem_cons_zero, List.getElem_cons_succ, List.setIfInBounds_toArray, List.set_cons_zero, List.set_cons_succ]
      refine wpAnyY_pure (i := 5) (oi := _) (v := ?_) rfl (by kernel_rfl) (by kernel_rfl) (by kernel_rfl) (by kernel_rfl) (fun _ _ _ h => h) (Or.inl ⟨by rfl, ?_⟩) (Or.inr hS) ?_
      rotate_left
      ·(intro w hSw; (try dsimp only at hSw); go_simp); all_goals with_reducible rfl
      try simp only [Act.put, List.getElem_toArray, List.getElem_cons_zero, List.getElem_cons_succ, List.setIfInBounds_toArray, List.set_cons_zero, List.set_cons_succ]
      refine wpAnyY_pure (i := 6) (oi := _) (v := ?_) rfl (by kernel_rfl) (by kernel_rfl) (by kernel_rfl) (by kernel_rfl) (fun _ _ _ h => h) (Or.inl ⟨by rfl, ?_⟩) (Or.inr hS) ?_
      rotate_left
      ·(intro w hSw; (try dsimp only at hSw); go_simp); all_goals with_reducible rfl
      try simp only [Act.put, List.getElem_toArray, List.getElem_cons_zero, List.getElem_cons_succ, List.setIfInBounds_toArray, List.set_cons_zero, List.set_cons_succ]
      have HS9 := hid9 hS;have C3 := (HS9.out.1).afx;refine wpAnyY_one (i := 7) (o := _) (by kernel_rfl) rfl (fun K hK => ?_);go_simp;refine hK.out _ _ (Or.inl (by kernel_rfl)) ?_;clear hK K
      try simp only [Act.put, List.getElem_toArray, List.getElem_cons_zero, List.getElem_cons_succ, List.setIfInBounds_toArray, List.set_cons_zero, List.set_cons_succ]
      refine wpAnyY_done (by kernel_rfl) ?_ _;have HN := hid9 (show DAt p base v1 v2 v3 w [.int .i64 c.kind, .string c.name, .string c.dest, .int .i64 c.a, .int .i64 c.b, .string c.text] [.int .i64 0, .int .i64 0, .string (wordsS ((x.take (k + 1)).map decS))] (wd.setCell ⟨w.heap.size + 2, 2, none⟩ (.string (T ++ (dv ++ (⟨#[32]⟩ : ByteArray))))) u4 u5 u6 m' ∧ (wd.setCell ⟨w.heap.size + 2, 2, none⟩ (.string (T ++ (dv ++ (⟨#[32]⟩ : ByteArray))))).ownsRow w2.heap.size 3 1 (.slice (some ⟨b, off, none⟩) x.length ca) x.length (x.flatMap encI) from by
       rw [HWD.out];exact ⟨HS9.out.1.seta 2 (.string (T ++ (dv ++ (⟨#[32]⟩ : ByteArray)))), own_setb HS9.out.2 (by omega) _⟩)
      clear HI2 HWD HS9 KD cra;go_wp2;go_roundw
      case rel => exact ⟨k + 1, by omega, by go_num, HN⟩
      case measure => simp [intOf]; omega
     ·obtain rfl : k = x.length := by omega
      have p2 : ¬ ((x.length : Nat) : Int) < (x.length : Int) := by omega
      have D3 := hid9 HI.out.1;rw [List.take_length] at D3;clear HI;have C3 := D3.out.afx;obtain ⟨y1, y2, y3, C4⟩ := D3.out.rfx;obtain ⟨T, hT⟩ : ∃ T, wordsS (x.map decS) = T := ⟨_, rfl⟩;rw [hT] at D3 C3;have HT2 := hid9 hT;clear hT;have HEND := hid9 (show MStep p base v1 v2 v3 m' (.agg #[.int .i64 0, .int .i64 0, .string (wordsS (x.map decS))]) w (.returned (.agg #[.int .i64 0, .int .i64 0, .string T])) _ from by rw [HT2.out]; exact D3.out.done (.agg #[.int .i64 0, .int .i64 0, .string T]) (.int .i64 0) (.int .i64 0) (.string T));clear D3;go_wp2;exact bodyPost_ret (v := .agg #[.int .i64 0, .int .i64 0, .string T]) (by simp [results, results60, go_sem, *]) rfl HEND.out
   have HK := HK0;rw [kind16 HKK.out] at HK;obtain ⟨x, HE2, rfl⟩ := hop2 HK.out;refine DAt.got D2 (pSend_c p base u1 u2 u3 m1 m' x c.a c.b _ D2.out.at_ (O1.out.mono (by omega)) HC.out.a (HTD.out _ _ _ _ _ _ D2.out) HE2) fun u4 u5 u6 w3 D3 => ?_
   rotate_left
   ·have HK := HK0;rw [kind17 HKK.out] at HK;obtain ⟨⟨x, y⟩, HE2, rfl⟩ := hop2 HK.out;refine DAt.got D2 (pTakeSig_c p base u1 u2 u3 m1 m' x y proc _ D2.out.at_ (O1.out.mono (by omega)) hp (HTD.out _ _ _ _ _ _ D2.out) HE2) fun u4 u5 u6 w3 D3 => ?_;clear C2 D2;have C3 := D3.out.afx;obtain ⟨y1, y2, y3, C4⟩ := D3.out.rfx;go_wp2;refine bodyPost_ret ?_ rfl (((D3.out.seta _ _).seta _ _).done _ _ _ _);simp [results, results60, go_sem, ansN, ansC, ansT, noB, *]
   have HK := HK0;rw [kind18 HKK.out] at HK;obtain ⟨x, HE2, rfl⟩ := hop2 HK.out;refine DAt.got D2 (pTimer_c p base u1 u2 u3 m1 m' x proc c.a _ D2.out.at_ (O1.out.mono (by omega)) hp (HTD.out _ _ _ _ _ _ D2.out) HE2) fun u4 u5 u6 w3 D3 => ?_
   rotate_left
   ·have HK := HK0;rw [kind19 HKK.out] at HK;obtain ⟨⟨x, y⟩, HE2, rfl⟩ := hop2 HK.out;refine DAt.got D2 (pTick_c p base u1 u2 u3 m1 m' x y c.a _ D2.out.at_ (O1.out.mono (by omega)) HC.out.a (HTD.out _ _ _ _ _ _ D2.out) HE2) fun u4 u5 u6 w3 D3 => ?_;clear C2 D2;have C3 := D3.out.afx;obtain ⟨y1, y2, y3, C4⟩ := D3.out.rfx;go_wp2;refine bodyPost_ret ?_ rfl (((D3.out.seta _ _).seta _ _).done _ _ _ _);simp [results, results60, go_sem, ansN, ansC, ansT, noB, *]
   have HK := HK0;rw [kind20 HKK.out] at HK;obtain ⟨x, HE2, rfl⟩ := hop2 HK.out;refine DAt.got D2 (pStore_c p base u1 u2 u3 m1 m' x proc c.a c.text _ D2.out.at_ (O1.out.mono (by omega)) hp (HTD.out _ _ _ _ _ _ D2.out) HE2) fun u4 u5 u6 w3 D3 => ?_
   rotate_left
   ·have HK := HK0;rw [kind21 HKK.out] at HK;obtain ⟨⟨x, y⟩, HE2, rfl⟩ := hop2 HK.out;refine DAt.got D2 (pLoad_c p base u1 u2 u3 m1 m' x y proc c.a _ D2.out.at_ (O1.out.mono (by omega)) hp (HTD.out _ _ _ _ _ _ D2.out) HE2) fun u4 u5 u6 w3 D3 => ?_;clear C2 D2;have C3 := D3.out.afx;obtain ⟨y1, y2, y3, C4⟩ := D3.out.rfx;go_wp2;refine bodyPost_ret ?_ rfl (((D3.out.seta _ _).seta _ _).done _ _ _ _);simp [results, results60, go_sem, ansN, ansC, ansT, noB, *]
   have HK := HK0;rw [kind22 HKK.out] at HK;obtain ⟨x, HE2, rfl⟩ := hop2 HK.out;refine DAt.got D2 (pPutOut_c p base u1 u2 u3 m1 m' x c.text _ D2.out.at_ (O1.out.mono (by omega)) (Nat.le_trans hz.2.2 (by decide)) (HTD.out _ _ _ _ _ _ D2.out) HE2) fun u4 u5 u6 w3 D3 => ?_
   rotate_left
   all_goals
    clear C2 D2;have C3 := D3.out.afx;obtain ⟨y1, y2, y3, C4⟩ := D3.out.rfx;go_wp2;refine bodyPost_ret ?_ rfl ((D3.out.seta _ _).done _ _ _ _);simp [results, results60, go_sem, ansN, ansC, ansT, noB, *]
 ·obtain ⟨rfl, rfl⟩ := Prod.mk.inj (show (m1, (⟨2, 0, noB⟩ : Ans)) = (m', a) from by have h := HE.out; unfold callP at h; rw [Pg.run_bind, HE1.out] at h; simp only [if_neg hs1] at h; exact h);obtain ⟨y1, y2, y3, C4⟩ := D1.out.rfx;go_wp2;refine bodyPost_ret ?_ rfl (D1.out.done _ _ _ _);simp [results, results60, go_sem, ansN, ansC, ansT, noB, *]
end
section
open Go.RowKit
attribute [local go_sem ↓] Go.wp_at_zero Go.wp_at_succ
def FreshMO (T : Nat) (xs : List (ByteArray × ByteArray)) (w : World) (e : Ending) (w' : World) : Prop :=
 ∃ v, e = .returned (.agg #[v, .slice none 0 0, .slice none 0 0]) ∧ w'.ownsRow (w.heap.size + 1) T 2 v xs.length (xs.flatMap encC) ∧ Below w.heap.size w w'
theorem below_of_own1 {W w' : World} {B T K n : Nat} {v : Value} {cells : List Value} (ho : W.ownsRow B T K v n cells) (hg : W.grownBy w' v.ownBlock) (hB : B ≤ W.heap.size) : Below B W w' := by
 rcases ho.2 with ⟨rfl, _⟩ | ⟨g, cap, cur, rfl, hge, _⟩
 ·exact ⟨hg.os, hg.tape, hg.output, hg.size, fun k hk => hg.block k (by omega) (by simp [Value.ownBlock])⟩
 ·exact below_of_grown hg hge hB
theorem implMachOf_c (a : Option Addr) (cap : Nat) (xs : List (ByteArray × ByteArray)) (w : World) (hlen : xs.length ≤ 2100000000000) (hr : Reads w a 2 encC xs) :
 Calls prog 59 #[.slice a xs.length cap] w (FreshMO 99 xs w) := by
 have HB : Below w.heap.size w (w.alloc (.cells #[.slice none 0 0, .slice none 0 0, .slice none 0 0] 87)) := bel9;have HR := hid9 (hr.below HB);have HBB := hid9 HB;clear hr HB;go_enter func59, ntmps59;go_wp2_with fail;refine (cloneC_c _ _ _ _ hlen HR.out).mono ?_;rintro e w1 ⟨v1, rfl, o1, hb1⟩;have O1 := hid9 o1;obtain ⟨ar, cr, rfl⟩ := ownsRow_shape o1;have X := (Box.new w [.slice none 0 0, .slice none 0 0, .slice none 0 0] 87).below hb1;have H1 := hid9 hb1;clear o1 hb1;have f0 := X.cell 0 _ rfl;have f1 := X.cell 1 _ rfl;have f2 := X.cell 2 _ rfl;have z0 := X.free 0;have z1 := X.free 1;have z2 := X.free 2;clear X;go_wp2;have g1 : Below w.heap.size w w1 := HBB.out.trans (H1.out.mono HBB.out.size);refine bodyPost_ret (v := .agg #[.slice ar xs.length cr, .slice none 0 0, .slice none 0 0]) (by simp [results, results59, go_sem, f0, f1, f2]) rfl ⟨_, rfl, ?_, ?_⟩
 ·have h1 := O1.out;simp only [World.size_alloc] at h1;exact ownsRow_setCell_below (ownsRow_setCell_below (ownsRow_setCell_below h1 (a := ⟨w.heap.size, 0, none⟩) (by show w.heap.size < _; omega) _) (a := ⟨w.heap.size, 1, none⟩) (by show w.heap.size < _; omega) _) (a := ⟨w.heap.size, 2, none⟩) (by show w.heap.size < _; omega) _
 ·exact Below.setCell (Below.setCell (Below.setCell g1 (Nat.le_refl _) _) (Nat.le_refl _) _) (Nat.le_refl _) _
theorem specMachOf_c (a : Option Addr) (cap : Nat) (xs : List (ByteArray × ByteArray)) (w : World) (hlen : xs.length ≤ 2100000000000) (hc : a = none → cap = 0) (hr : Reads w a 2 encC xs) :
 Calls prog 74 #[.slice a xs.length cap] w (FreshMO 99 xs w) := by
 obtain ⟨i0, hi, hzz⟩ := Option.map_eq_some_iff.1 infoCell;simp only [Prod.mk.injEq] at hzz;have HI := hid9 hi;have HZ := hid9 hzz;clear hi hzz;have HB : Below w.heap.size w ((w.alloc (.cells #[.slice none 0 0, .slice none 0 0, .slice none 0 0] 87)).alloc (.cells #[] 99)) := bel9;have HR := hid9 (hr.below HB);have HBB := hid9 HB;have HO := hid9 (show ((w.alloc (.cells #[.slice none 0 0, .slice none 0 0, .slice none 0 0] 87)).alloc (.cells #[] 99)).ownsRow (w.heap.size + 1) 99 2 (.slice (some ⟨w.heap.size + 1, 0, none⟩) 0 0) 0 [] from ⟨rfl, .inr ⟨w.heap.size + 1, 0, #[], rfl, Nat.le_refl _, by have := heap_alloc_new (w.alloc (.cells #[.slice none 0 0, .slice none 0 0, .slice none 0 0] 87)) (.cells #[] 99); simpa using this, Nat.le_refl _, Nat.zero_le _, rfl, rfl⟩⟩);have X := (Box.new w [.slice none 0 0, .slice none 0 0, .slice none 0 0] 87).alloc (.cells #[] 99);have HX := hid9 X;clear hr HB X;cases a with
 | none =>
  have hcap := hc rfl;subst hcap;have hx : xs = [] := by
   rcases HR.out with h | ⟨_, _, e, _⟩
   ·exact h
   ·cases e
  subst hx;have X1 := HX.out;have f0 := X1.cell 0 _ rfl;have f1 := X1.cell 1 _ rfl;have f2 := X1.cell 2 _ rfl;have z0 := X1.free 0;have z1 := X1.free 1;have z2 := X1.free 2;clear X1 hc hlen;go_enter func74, ntmps74;go_wp2_with (at_builtin; refine wpList_append_own_none rfl _ _ 26 rfl (w.heap.size + 1) 99 i0 2 underlying26 HI.out _ _ _ rfl HO.out rfl ?_);go_wp2;refine bodyPost_ret (v := .agg #[.slice (some ⟨w.heap.size + 1, 0, none⟩) 0 0, .slice none 0 0, .slice none 0 0]) (by simp [results, results74, go_sem]) rfl ⟨.slice (some ⟨w.heap.size + 1, 0, none⟩) 0 0, rfl, ?_, bel9⟩;exact ⟨rfl, .inr ⟨w.heap.size + 1, 0, #[], rfl, Nat.le_refl _, by have := heap_alloc_new (w.alloc (.cells #[.slice (some ⟨w.heap.size + 1, 0, none⟩) 0 0, .slice none 0 0, .slice none 0 0] 87)) (.cells #[] 99); simpa using this, Nat.le_refl _, Nat.zero_le _, rfl, rfl⟩⟩
 | some ad =>
  have HN := hid9 (reads_news encC_len (by decide) HR.out);go_enter func74, ntmps74;go_wp2_with (at_builtin; refine wpList_append_own _ rfl _ _ 26 rfl (w.heap.size + 1) 99 i0 (.agg #[.string ⟨#[]⟩, .string ⟨#[]⟩]) 2 32 underlying26 HI.out HZ.out.1 HZ.out.2.1 HZ.out.2.2 rfl (by decide) _ _ _ rfl HO.out ad xs.length cap (xs.flatMap encC) rfl (length_flatMap_const encC_len xs) HN.out ?c2 ?c3 ?c4 ?c5 ?_)
  case c2 =>
   intro u hu;obtain ⟨x, _, hx⟩ := List.mem_flatMap.1 hu;simp [encC] at hx;rcases hx with rfl | rfl <;> rfl
  case c3 => unfold maxLen; omega
  case c4 => omega
  case c5 => simp
  intro v1 w1 hown' hgrow _;have O1 := hid9 hown';have HG := hid9 hgrow;have hbl : (w.alloc (.cells #[.slice none 0 0, .slice none 0 0, .slice none 0 0] 87)).heap.size ≤ w.heap.size + 1 := by simp
  have hbx := hid9 (below_of_own1 (B := w.heap.size + 1) HO.out hgrow (by simp));obtain ⟨ar, cr, rfl⟩ := ownsRow_shape hown';have X1 : Box w1 w.heap.size [.slice none 0 0, .slice none 0 0, .slice none 0 0] := by
   obtain ⟨q1, T, q2⟩ := HX.out;exact ⟨Nat.lt_of_lt_of_le q1 hbx.out.size, T, (hbx.out.block _ (by omega)).trans q2⟩
  clear hown' hgrow hbl;have f0 := X1.cell 0 _ rfl;have f1 := X1.cell 1 _ rfl;have f2 := X1.cell 2 _ rfl;have z0 := X1.free 0;have z1 := X1.free 1;have z2 := X1.free 2;clear X1;go_wp2;have g1 : Below w.heap.size w w1 := HBB.out.trans (hbx.out.mono (by omega));refine bodyPost_ret (v := .agg #[.slice ar (0 + xs.length) cr, .slice none 0 0, .slice none 0 0]) (by simp [results, results74, go_sem, f0, f1, f2]) rfl ⟨.slice ar (0 + xs.length) cr, rfl, ?_, ?_⟩
  ·have h1 := O1.out;have h2 := ownsRow_setCell_below (ownsRow_setCell_below (ownsRow_setCell_below h1 (a := ⟨w.heap.size, 0, none⟩) (by show w.heap.size < _; omega) (.slice ar (0 + xs.length) cr)) (a := ⟨w.heap.size, 1, none⟩) (by show w.heap.size < _; omega) (.slice none 0 0)) (a := ⟨w.heap.size, 2, none⟩) (by show w.heap.size < _; omega) (.slice none 0 0);simp only [Nat.zero_add] at h2 ⊢;exact h2
  ·exact Below.setCell (Below.setCell (Below.setCell g1 (Nat.le_refl _) _) (Nat.le_refl _) _) (Nat.le_refl _) _
end
section
open Go.ChangeShapes Go.WideShapes Go.ChangeAt Go.RowKit
attribute [local go_sem ↓] Go.wp_at_zero Go.wp_at_succ
def CRet (m' : Mch) (an : Ans) (w : World) (e : Ending) (w' : World) : Prop :=
 ∃ u1 u2 u3, e = .returned (.tuple #[u1, .agg #[.int .i64 an.code, .int .i64 an.n, .string an.text], .agg #[u2, u3]]) ∧ Below w.heap.size w w' ∧
  w'.ownsRow w.heap.size 99 2 u1 m'.st.length (m'.st.flatMap encC) ∧ w'.ownsRow w.heap.size 9 1 u2 m'.rs.length (m'.rs.flatMap encS) ∧ w'.ownsRow w.heap.size 9 1 u3 m'.ws.length (m'.ws.flatMap encS) ∧
  (∀ k, u1.ownBlock = some k → u2.ownBlock ≠ some k) ∧ (∀ k, u1.ownBlock = some k → u3.ownBlock ≠ some k) ∧ (∀ k, u2.ownBlock = some k → u3.ownBlock ≠ some k)
structure CS (w : World) (bm ba : Nat) (u1 u2 u3 : Value) (m' : Mch) (ys : List Value) (W : World) : Prop where
 m : Box W bm [u1, u2, u3]
 a : Box W ba ys
 o1 : W.ownsRow w.heap.size 99 2 u1 m'.st.length (m'.st.flatMap encC)
 o2 : W.ownsRow w.heap.size 9 1 u2 m'.rs.length (m'.rs.flatMap encS)
 o3 : W.ownsRow w.heap.size 9 1 u3 m'.ws.length (m'.ws.flatMap encS)
 far : ∀ b, w.heap.size ≤ b → b < w.heap.size + 3 → u1.ownBlock ≠ some b ∧ u2.ownBlock ≠ some b ∧ u3.ownBlock ≠ some b
 bel : Below w.heap.size w W
theorem CS.set {w W : World} {bm ba : Nat} {u1 u2 u3 : Value} {m' : Mch} {ys : List Value} (h : CS w bm ba u1 u2 u3 m' ys W) {b : Nat} (h1 : bm ≠ b) (h2 : ba ≠ b) (h3 : w.heap.size ≤ b) (h4 : b < w.heap.size + 3) (i : Nat) (v : Value) : CS w bm ba u1 u2 u3 m' ys (W.setCell ⟨b, i, none⟩ v) := by
 have gs := grownBy_setCell W b i v;obtain ⟨f1, f2, f3⟩ := h.far b h3 h4;exact ⟨box_far2 h.m h1 i v, box_far2 h.a h2 i v, h.o1.kept gs (.inr f1), h.o2.kept gs (.inr f2), h.o3.kept gs (.inr f3), h.far, h.bel.trans (below_of_grown gs h3 h.bel.size)⟩
theorem CS.drew {w W : World} {bm ba : Nat} {u1 u2 u3 : Value} {m' : Mch} {ys : List Value} (h : CS w bm ba u1 u2 u3 m' ys W) : CS w bm ba u1 u2 u3 m' ys W.drew := by
 have hb : Below W.heap.size W W.drew := bel9;exact ⟨h.m.drew, h.a.drew, ownsRow_below h.o1 hb, ownsRow_below h.o2 hb, ownsRow_below h.o3 hb, h.far, h.bel.trans (hb.mono h.bel.size)⟩
theorem mach_at {w W : World} {xs : List (ByteArray × ByteArray)} {v : Value} {base : Nat} (hb : base ≤ w.heap.size) (ho : w.ownsRow base 99 2 v xs.length (xs.flatMap encC)) (hW : W = w.alloc (.cells #[v, .slice none 0 0, .slice none 0 0] 87)) :
 MAt W w.heap.size base v (.slice none 0 0) (.slice none 0 0) ⟨xs, [], []⟩ := by
 subst hW;have hB : Below w.heap.size w (w.alloc (.cells #[v, .slice none 0 0, .slice none 0 0] 87)) := bel9;have on : ∀ T, (w.alloc (.cells #[v, .slice none 0 0, .slice none 0 0] 87)).ownsRow base T 1 (.slice none 0 0) 0 [] := fun T => ⟨by simp, .inl ⟨rfl, rfl⟩⟩;refine ⟨Box.new w [v, .slice none 0 0, .slice none 0 0] _, ownsRow_below ho hB, on _, on _, fun e => by have := (ho.lt _ e).2; omega, by simp [Value.ownBlock], by simp [Value.ownBlock], ?_, ?_, ?_, hb, Nat.le_trans hb hB.size⟩
 all_goals simp [Value.ownBlock]
end
abbrev Sto := List (ByteArray × ByteArray)
theorem insK_cons (c y : ByteArray × ByteArray) (ys : Sto) : insK c (y :: ys) = if ltB c.1 y.1 then c :: y :: ys else y :: insK c ys := by rw [insK]
theorem delK_none' {xs : Sto} {k : ByteArray} : ∀ x ∈ delK xs k, x.1 ≠ k := fun x hx => by
 have := (List.mem_filter.1 hx).2;simp only [Bool.not_eq_true'] at this;exact eqB_false.1 this
def Rising (xs : Sto) : Prop := xs.Pairwise (fun a b => ltB a.1 b.1 = true)
theorem rising_del {xs : Sto} (h : Rising xs) (k : ByteArray) : Rising (delK xs k) := List.Pairwise.filter _ h
theorem rising_ins {xs : Sto} {c : ByteArray × ByteArray} (hs : Rising xs) (h : ∀ x ∈ xs, x.1 ≠ c.1) : Rising (insK c xs) := by
 induction xs with
 | nil => exact List.pairwise_singleton _ _
 | cons y ys ih =>
  have h1 := List.pairwise_cons.1 hs;rw [insK_cons];cases e : ltB c.1 y.1 with
  | true =>
   rw [if_pos rfl];refine List.pairwise_cons.2 ⟨fun x hx => ?_, hs⟩;rcases List.mem_cons.1 hx with rfl | hx
   ·exact e
   ·exact ltB_trans e (h1.1 x hx)
  | false =>
   rw [if_neg (by simp)];refine List.pairwise_cons.2 ⟨fun x hx => ?_, ih h1.2 (fun x hx => h x (List.mem_cons_of_mem _ hx))⟩;rcases insK_mem hx with rfl | hx
   ·exact ltB_tri' e (h y List.mem_cons_self).symm
   ·exact h1.1 x hx
theorem rising_put {xs : Sto} (hs : Rising xs) (key val : ByteArray) : Rising (putV xs key val) := by
 unfold putV;split
 ·exact rising_del hs _
 ·exact rising_ins (rising_del hs _) delK_none'
def cellOk (x : ByteArray × ByteArray) : Prop := keyOkB x.1 = true ∧ inB (x.2.size : Int) 1 60 = true
end Go.Proofs.YtihghflppegnmaaGreatDoor
