/- Contract of the reference's l09SpawnProc. Conditions: the machine's slices can be read; bounds that any machine of this size meets. -/
import Derived.Test.YtjlmoghifkgehaaDoorMachS
namespace Go.Proofs.YtjlmoghifkgehaaDoor
open Go.ChangeShapes Go.WideShapes Go.ChangeAt Go.RowKit
attribute [local go_sem ↓] Go.wp_at_zero Go.wp_at_succ
def SRet3 (v1 v2 v3 : Value) (m m' : Mch) (r r2 : Value) (w : World) (e : Ending) (w' : World) : Prop :=
  ∃ u1 u2 u3, e = .returned (.tuple #[.agg #[u1, u2, u3], r, r2]) ∧ MOut w.heap.size w' v1 v2 v3 m u1 u2 u3 m' ∧ Below w.heap.size w w'
set_option maxRecDepth 100000 in
set_option maxHeartbeats 8000000 in
theorem sSpawn_c (v1 v2 v3 : Value) (m : Mch) (parent : Int) (w : World) (h : MRd w v1 v2 v3 m) (ho : MOk 800000 m) :
    Calls Tryd.prog 9 #[.agg #[v1, v2, v3], .int .i64 parent] w (SRet3 v1 v2 v3 m (spawnM m parent) (.int .i64 (spawnId m)) (.int .i64 (spawnCode m)) w) := by
  obtain ⟨a1, c1, hv1, R1, l1, L1⟩ := h.r1
  obtain ⟨a2, c2, hv2, R2, l2, L2⟩ := h.r2
  obtain ⟨a3, c3, hv3, R3, l3, L3⟩ := h.r3
  subst hv1 hv2 hv3
  have HR := Lib.hid h
  have HR1 := Lib.hid R1
  have HR2 := Lib.hid R2
  have HR3 := Lib.hid R3
  have B0 := Lib.hid ((Box.new w [.slice a1 m.st.length c1, .slice a2 m.rs.length c2, .slice a3 m.ws.length c3] 31).alloc (.cells #[.slice none 0 0, .slice none 0 0, .slice none 0 0] 31))
  have P0 := Lib.hid (show Box ((w.alloc (.cells #[.slice a1 m.st.length c1, .slice a2 m.rs.length c2, .slice a3 m.ws.length c3] 31)).alloc (.cells #[.slice none 0 0, .slice none 0 0, .slice none 0 0] 31)) (w.heap.size + 1) [.slice none 0 0, .slice none 0 0, .slice none 0 0] from by
    have h := Box.new (w.alloc (.cells #[.slice a1 m.st.length c1, .slice a2 m.rs.length c2, .slice a3 m.ws.length c3] 31)) [.slice none 0 0, .slice none 0 0, .slice none 0 0] 31
    rw [show (w.alloc (.cells #[.slice a1 m.st.length c1, .slice a2 m.rs.length c2, .slice a3 m.ws.length c3] 31)).heap.size = w.heap.size + 1 by simp] at h
    exact h)
  have hsz : (((w.alloc (.cells #[.slice a1 m.st.length c1, .slice a2 m.rs.length c2, .slice a3 m.ws.length c3] 31)).alloc (.cells #[.slice none 0 0, .slice none 0 0, .slice none 0 0] 31))).heap.size = w.heap.size + 2 := by simp
  have HS0 := Lib.hid (show SH w w.heap.size (w.heap.size + 2) (.slice a1 m.st.length c1) (.slice a2 m.rs.length c2) (.slice a3 m.ws.length c3) m (.slice a1 m.st.length c1) (.slice a2 m.rs.length c2) (.slice a3 m.ws.length c3) m ((w.alloc (.cells #[.slice a1 m.st.length c1, .slice a2 m.rs.length c2, .slice a3 m.ws.length c3] 31)).alloc (.cells #[.slice none 0 0, .slice none 0 0, .slice none 0 0] 31)) from ⟨B0.out, (by repeat (first | exact Below.refl _ _ | refine Below.drew ?_ | refine below_drewN ?_ _ | refine Below.allocC ?_ _ | refine Below.setCell ?_ (by first | (simp; done) | (simp; omega)) _ | refine Below.chain ?_ (by assumption))), MOut.refl⟩)
  have K1 := Lib.hid ((sNumAt_c (.slice a1 m.st.length c1) (.slice a2 m.rs.length c2) (.slice a3 m.ws.length c3) m kProc ((w.alloc (.cells #[.slice a1 m.st.length c1, .slice a2 m.rs.length c2, .slice a3 m.ws.length c3] 31)).alloc (.cells #[.slice none 0 0, .slice none 0 0, .slice none 0 0] 31)) (HR.out.below (by repeat (first | exact Below.refl _ _ | refine Below.drew ?_ | refine below_drewN ?_ _ | refine Below.allocC ?_ _ | refine Below.setCell ?_ (by first | (simp; done) | (simp; omega)) _ | refine Below.chain ?_ (by assumption)))) (ho.mono (by omega))).mono fun e w' hx => hx.op (HR.out.below (show Below w.heap.size w ((w.alloc (.cells #[.slice a1 m.st.length c1, .slice a2 m.rs.length c2, .slice a3 m.ws.length c3] 31)).alloc (.cells #[.slice none 0 0, .slice none 0 0, .slice none 0 0] 31)) from (by repeat (first | exact Below.refl _ _ | refine Below.drew ?_ | refine below_drewN ?_ _ | refine Below.allocC ?_ _ | refine Below.setCell ?_ (by first | (simp; done) | (simp; omega)) _ | refine Below.chain ?_ (by assumption))))))
  have O1 := Lib.hid (ho.look kProc)
  have hkp : kProc.size ≤ 1000 := by decide
  have O2 := Lib.hid ((ho.look kProc).bump hkp)
  have hid := bumpN_bounds (lookM m kProc) kProc
  have HM := Lib.hid (show ∀ b, fullB m = b → spawnM m parent = if b then lookM m kProc else setM (setM (bumpM (lookM m kProc) kProc) (procK (bumpN (lookM m kProc) kProc) kS) 1) (procK (bumpN (lookM m kProc) kProc) kP) parent from fun b e => by subst e; rfl)
  have HI := Lib.hid (show ∀ b, fullB m = b → spawnId m = if b then 0 else bumpN (lookM m kProc) kProc from fun b e => by subst e; rfl)
  have HC := Lib.hid (show ∀ b, fullB m = b → spawnCode m = if b then 3 else 0 from fun b e => by subst e; rfl)
  have HF := Lib.hid (show fullB m = decide (12 ≤ numOfV (getKeyS m.st kProc)) from rfl)
  generalize spawnM m parent = sm at *
  generalize spawnId m = si at *
  generalize spawnCode m = sc at *
  generalize numOfV (getKeyS m.st kProc) = n at *
  clear h R1 R2 R3 ho
  go_enter Tryd.func9, Tryd.ntmps9
  go_wp2_with fail
  refine K1.out.mono ?_
  rintro e w1 ⟨x1, xc1, x2, xc2, x3, xc3, rfl, hmo, hb⟩
  have Sb := HS0.out.below hb
  have hBa := P0.out.1
  have HX1 := Lib.hid (Sb.put3 (Nat.le_refl _) (by omega) (by omega) hmo)
  have HP1 := Lib.hid (box_far (box_far (box_far (P0.out.below hb) (show w.heap.size + 1 ≠ w.heap.size by omega) 0 (.slice x1 (lookM m kProc).st.length xc1)) (show w.heap.size + 1 ≠ w.heap.size by omega) 1 (.slice x2 (lookM m kProc).rs.length xc2)) (show w.heap.size + 1 ≠ w.heap.size by omega) 2 (.slice x3 (lookM m kProc).ws.length xc3))
  have Bp := P0.out.below hb
  have e0 := Sb.x.cell 0 _ rfl
  have z0 := Sb.x.free 0
  have pc0 := Bp.cell 0 _ rfl
  have pf0 := Bp.free 0
  have e1 := Sb.x.cell 1 _ rfl
  have z1 := Sb.x.free 1
  have pc1 := Bp.cell 1 _ rfl
  have pf1 := Bp.free 1
  have e2 := Sb.x.cell 2 _ rfl
  have z2 := Sb.x.free 2
  have pc2 := Bp.cell 2 _ rfl
  have pf2 := Bp.free 2
  clear hmo hb Sb hBa Bp
  clear HS0 B0 P0 K1
  by_cases hp : 12 ≤ n
  · have hf : fullB m = true := HF.out.trans (decide_eq_true hp)
    have e5 : sm = lookM m kProc := HM.out _ hf
    have e6 : si = 0 := HI.out _ hf
    have e7 : sc = 3 := HC.out _ hf
    subst e5 e6 e7
    have SE := Lib.hid (((HX1.out.set (b := w.heap.size + 1) (by omega) (by omega) (by omega) 0 (.slice x1 (lookM m kProc).st.length xc1)).set (b := w.heap.size + 1) (by omega) (by omega) (by omega) 1 (.slice x2 (lookM m kProc).rs.length xc2)).set (b := w.heap.size + 1) (by omega) (by omega) (by omega) 2 (.slice x3 (lookM m kProc).ws.length xc3))
    clear HM HI HC HF
    go_wp2
    exact bodyPost_ret (v := .tuple #[.agg #[.slice x1 (lookM m kProc).st.length xc1, .slice x2 (lookM m kProc).rs.length xc2, .slice x3 (lookM m kProc).ws.length xc3], .int .i64 0, .int .i64 3]) (by simp [results, Tryd.results9, go_sem, *]) rfl ⟨_, _, _, rfl, SE.out.mo.base (by omega), SE.out.bel⟩
  · have hf : fullB m = false := HF.out.trans (decide_eq_false hp)
    have e5 := HM.out _ hf
    have e6 : si = bumpN (lookM m kProc) kProc := HI.out _ hf
    have e7 : sc = 0 := HC.out _ hf
    rw [if_neg Bool.false_ne_true] at e5
    obtain ⟨id, hde⟩ : ∃ i, bumpN (lookM m kProc) kProc = i := ⟨_, rfl⟩
    obtain ⟨m2, hm2⟩ : ∃ x, bumpM (lookM m kProc) kProc = x := ⟨_, rfl⟩
    have KB := Lib.hid (fun W (hS : SH w w.heap.size (w.heap.size + 2) (.slice a1 m.st.length c1) (.slice a2 m.rs.length c2) (.slice a3 m.ws.length c3) m (.slice x1 (lookM m kProc).st.length xc1) (.slice x2 (lookM m kProc).rs.length xc2) (.slice x3 (lookM m kProc).ws.length xc3) (lookM m kProc) W) => (sBumped_c (.slice x1 (lookM m kProc).st.length xc1) (.slice x2 (lookM m kProc).rs.length xc2) (.slice x3 (lookM m kProc).ws.length xc3) (lookM m kProc) kProc W (hS.mo.rd HR.out hS.bel) (O1.out.mono (by omega)) (by decide)).mono fun e w' hx => hx.op (hS.mo.rd HR.out hS.bel))
    rw [hde, hm2] at KB
    rw [hde, hm2] at e5
    rw [hde] at e6 hid
    rw [hm2] at O2
    have hk1 := procK_size id kS (by omega) (by omega) (by decide)
    have hk2 := procK_size id kP (by omega) (by omega) (by decide)
    have KK1 := Lib.hid (fun W => sKey_c id kS W (by omega) (by omega) (by decide))
    have KK2 := Lib.hid (fun W => sKey_c id kP W (by omega) (by omega) (by decide))
    obtain ⟨j1, e8⟩ : ∃ x, procK id kS = x := ⟨_, rfl⟩
    obtain ⟨j2, e9⟩ : ∃ x, procK id kP = x := ⟨_, rfl⟩
    rw [e8] at hk1 KK1 e5
    rw [e9] at hk2 KK2 e5
    subst e5 e6 e7
    have O3 := Lib.hid (O2.out.set hk1 1)
    have HK1 := Lib.hid hk1
    have HK2 := Lib.hid hk2
    clear e8 e9 hk1 hk2 hid hde hm2 HM HI HC HF hf pc0 pc1 pc2 pf0 pf1 pf2
    go_wp2_with fail
    refine (KB.out _ HX1.out).mono ?_
    rintro e w4 ⟨y1, yc1, y2, yc2, y3, yc3, rfl, hmo, hb⟩
    clear e0 e1 e2 z0 z1 z2
    have Sb := HX1.out.below hb
    have hBa := HP1.out.1
    have HX4 := Lib.hid (Sb.put3 (Nat.le_refl _) (by omega) (by omega) hmo)
    have HP4 := Lib.hid (box_far (box_far (box_far (HP1.out.below hb) (show w.heap.size + 1 ≠ w.heap.size by omega) 0 (.slice y1 (m2).st.length yc1)) (show w.heap.size + 1 ≠ w.heap.size by omega) 1 (.slice y2 (m2).rs.length yc2)) (show w.heap.size + 1 ≠ w.heap.size by omega) 2 (.slice y3 (m2).ws.length yc3))
    have Bp := HP1.out.below hb
    have e0 := Sb.x.cell 0 _ rfl
    have z0 := Sb.x.free 0
    have pc0 := Bp.cell 0 _ rfl
    have pf0 := Bp.free 0
    have e1 := Sb.x.cell 1 _ rfl
    have z1 := Sb.x.free 1
    have pc1 := Bp.cell 1 _ rfl
    have pf1 := Bp.free 1
    have e2 := Sb.x.cell 2 _ rfl
    have z2 := Sb.x.free 2
    have pc2 := Bp.cell 2 _ rfl
    have pf2 := Bp.free 2
    clear hmo hb Sb hBa Bp
    clear HX1 HP1 KB pc0 pc1 pc2 pf0 pf1 pf2
    have KS1 := Lib.hid (fun W (hS : SH w w.heap.size (w.heap.size + 2) (.slice a1 m.st.length c1) (.slice a2 m.rs.length c2) (.slice a3 m.ws.length c3) m (.slice y1 (m2).st.length yc1) (.slice y2 (m2).rs.length yc2) (.slice y3 (m2).ws.length yc3) m2 W) => (sSetNum_c (.slice y1 (m2).st.length yc1) (.slice y2 (m2).rs.length yc2) (.slice y3 (m2).ws.length yc3) m2 j1 1 W (hS.mo.rd HR.out hS.bel) (O2.out.mono (by omega)) HK1.out).mono fun e w' hx => hx.op (hS.mo.rd HR.out hS.bel))
    have KS2 := Lib.hid (fun W t1 tc1 t2 tc2 t3 tc3 (hS : SH w w.heap.size (w.heap.size + 2) (.slice a1 m.st.length c1) (.slice a2 m.rs.length c2) (.slice a3 m.ws.length c3) m (.slice t1 (setM m2 j1 1).st.length tc1) (.slice t2 (setM m2 j1 1).rs.length tc2) (.slice t3 (setM m2 j1 1).ws.length tc3) (setM m2 j1 1) W) => (sSetNum_c (.slice t1 (setM m2 j1 1).st.length tc1) (.slice t2 (setM m2 j1 1).rs.length tc2) (.slice t3 (setM m2 j1 1).ws.length tc3) (setM m2 j1 1) j2 parent W (hS.mo.rd HR.out hS.bel) (O3.out.mono (by omega)) HK2.out).mono fun e w' hx => hx.op (hS.mo.rd HR.out hS.bel))
    go_wp2_with fail
    refine wp_region_noPanic ?_
    refine wp_region_held_drew (S := (fun _ => True)) (by kernel_rfl) ?_ (fun hHeld => ?_)
    · (try dsimp only); all_goals trivial
    refine wpAnyH_take (i := 1) (oi := _) (v := ?_) rfl (by kernel_rfl) (by kernel_rfl) (by kernel_rfl) (fun _ _ _ h => h) (Or.inl ⟨by rfl, ?_⟩) (by assumption) ?_
    rotate_left
    · (intro w hSw; (try dsimp only at hSw); go_simp); all_goals with_reducible rfl
    try simp only [Act.put, List.getElem_toArray, List.getElem_cons_zero, List.getElem_cons_succ, List.setIfInBounds_toArray, List.set_cons_zero, List.set_cons_succ]
    refine wpAnyH_ready (rs := [0, 2]) (by kernel_rfl) (by simp) ?_
    refine AllReadyH.cons (o := _) rfl (fun K hK => ?g1n0) (AllReadyH.cons (o := _) rfl (fun K hK => ?g1n2) AllReadyH.nil)
    case' g1n0 =>
      go_simp
      refine hK.out _ _ ?_ (fun hHeld2 => ?_)
      · (try dsimp only); all_goals trivial
      clear hK K hHeld; have hHeld := hHeld2; clear hHeld2
      try simp only [Act.put, List.getElem_toArray, List.getElem_cons_zero, List.getElem_cons_succ, List.setIfInBounds_toArray, List.set_cons_zero, List.set_cons_succ]
      refine wpAnyH_ready (rs := [2]) (by kernel_rfl) (by simp) ?_
      refine AllReadyH.cons (o := _) rfl (fun K hK => ?g2n2) AllReadyH.nil
      go_simp
      go_at_call 17
      refine (KK1.out _).mono ?_
      rintro e w7 ⟨rfl, hbk⟩
      have S7 := SH.below (SH.drew HX4.out) hbk
      have P7 := Box.below (Box.drew HP4.out) hbk
      have f0 := S7.x.cell 0 _ rfl
      have f1 := S7.x.cell 1 _ rfl
      have f2 := S7.x.cell 2 _ rfl
      have g0 := S7.x.free 0
      have g1 := S7.x.free 1
      have g2 := S7.x.free 2
      go_wp2_with fail
      refine hK.out _ _ ?_ (fun hHeld2 => ?_)
      · (try dsimp only); all_goals trivial
      clear hK K hHeld; have hHeld := hHeld2; clear hHeld2
      try simp only [Act.put, List.getElem_toArray, List.getElem_cons_zero, List.getElem_cons_succ, List.setIfInBounds_toArray, List.set_cons_zero, List.set_cons_succ]
      refine wpAnyH_ready (rs := [3]) (by kernel_rfl) (by simp) ?_
      refine AllReadyH.cons (o := _) rfl (fun K hK => ?g3n3) AllReadyH.nil
      go_simp
      go_at_call 16
      refine (KS1.out _ S7).mono ?_
      rintro e w8 ⟨t1, tc1, t2, tc2, t3, tc3, rfl, hmo8, hbk8⟩
      have S8 := S7.below hbk8
      have P8 := P7.below hbk8
      have h0 := S8.x.cell 0 _ rfl
      have h1 := S8.x.cell 1 _ rfl
      have h2 := S8.x.cell 2 _ rfl
      have i0 := S8.x.free 0
      have i1 := S8.x.free 1
      have i2 := S8.x.free 2
      go_wp2_with fail
      refine hK.out _ _ ?_ (fun hHeld2 => ?_)
      · (try dsimp only); all_goals trivial
      clear hK K hHeld; have hHeld := hHeld2; clear hHeld2
      try simp only [Act.put, List.getElem_toArray, List.getElem_cons_zero, List.getElem_cons_succ, List.setIfInBounds_toArray, List.set_cons_zero, List.set_cons_succ]
      refine wpAnyH_ready (rs := [4]) (by kernel_rfl) (by simp) ?_
      refine AllReadyH.cons (o := _) rfl (fun K hK => ?g4n4) AllReadyH.nil
      go_simp
      refine hK.out _ _ ?_ (fun hHeld2 => ?_)
      · (try dsimp only); all_goals trivial
      clear hK K hHeld; have hHeld := hHeld2; clear hHeld2
      try simp only [Act.put, List.getElem_toArray, List.getElem_cons_zero, List.getElem_cons_succ, List.setIfInBounds_toArray, List.set_cons_zero, List.set_cons_succ]
      refine wpAnyH_done (by kernel_rfl) ?_ _
    case' g1n2 =>
      go_simp
      go_at_call 17
      refine (KK1.out _).mono ?_
      rintro e w7 ⟨rfl, hbk⟩
      have S7 := SH.below (SH.drew HX4.out) hbk
      have P7 := Box.below (Box.drew HP4.out) hbk
      have f0 := S7.x.cell 0 _ rfl
      have f1 := S7.x.cell 1 _ rfl
      have f2 := S7.x.cell 2 _ rfl
      have g0 := S7.x.free 0
      have g1 := S7.x.free 1
      have g2 := S7.x.free 2
      go_wp2_with fail
      refine hK.out _ _ ?_ (fun hHeld2 => ?_)
      · (try dsimp only); all_goals trivial
      clear hK K hHeld; have hHeld := hHeld2; clear hHeld2
      try simp only [Act.put, List.getElem_toArray, List.getElem_cons_zero, List.getElem_cons_succ, List.setIfInBounds_toArray, List.set_cons_zero, List.set_cons_succ]
      refine wpAnyH_ready (rs := [0]) (by kernel_rfl) (by simp) ?_
      refine AllReadyH.cons (o := _) rfl (fun K hK => ?g5n0) AllReadyH.nil
      go_simp
      refine hK.out _ _ ?_ (fun hHeld2 => ?_)
      · (try dsimp only); all_goals trivial
      clear hK K hHeld; have hHeld := hHeld2; clear hHeld2
      try simp only [Act.put, List.getElem_toArray, List.getElem_cons_zero, List.getElem_cons_succ, List.setIfInBounds_toArray, List.set_cons_zero, List.set_cons_succ]
      refine wpAnyH_ready (rs := [3]) (by kernel_rfl) (by simp) ?_
      refine AllReadyH.cons (o := _) rfl (fun K hK => ?g6n3) AllReadyH.nil
      go_simp
      go_at_call 16
      refine (KS1.out _ S7).mono ?_
      rintro e w8 ⟨t1, tc1, t2, tc2, t3, tc3, rfl, hmo8, hbk8⟩
      have S8 := S7.below hbk8
      have P8 := P7.below hbk8
      have h0 := S8.x.cell 0 _ rfl
      have h1 := S8.x.cell 1 _ rfl
      have h2 := S8.x.cell 2 _ rfl
      have i0 := S8.x.free 0
      have i1 := S8.x.free 1
      have i2 := S8.x.free 2
      go_wp2_with fail
      refine hK.out _ _ ?_ (fun hHeld2 => ?_)
      · (try dsimp only); all_goals trivial
      clear hK K hHeld; have hHeld := hHeld2; clear hHeld2
      try simp only [Act.put, List.getElem_toArray, List.getElem_cons_zero, List.getElem_cons_succ, List.setIfInBounds_toArray, List.set_cons_zero, List.set_cons_succ]
      refine wpAnyH_ready (rs := [4]) (by kernel_rfl) (by simp) ?_
      refine AllReadyH.cons (o := _) rfl (fun K hK => ?g7n4) AllReadyH.nil
      go_simp
      refine hK.out _ _ ?_ (fun hHeld2 => ?_)
      · (try dsimp only); all_goals trivial
      clear hK K hHeld; have hHeld := hHeld2; clear hHeld2
      try simp only [Act.put, List.getElem_toArray, List.getElem_cons_zero, List.getElem_cons_succ, List.setIfInBounds_toArray, List.set_cons_zero, List.set_cons_succ]
      refine wpAnyH_done (by kernel_rfl) ?_ _
    all_goals
      refine NoPanic.normal ?_
      have HX8 := Lib.hid (S8.put3 (Nat.le_refl _) (by omega) (show w.heap.size + 2 ≤ w7.heap.size by have := P7.1; omega) hmo8)
      have HP8 := Lib.hid (box_far (box_far (box_far P8 (show w.heap.size + 1 ≠ w.heap.size by omega) 0 (.slice t1 (setM m2 j1 1).st.length tc1)) (show w.heap.size + 1 ≠ w.heap.size by omega) 1 (.slice t2 (setM m2 j1 1).rs.length tc2)) (show w.heap.size + 1 ≠ w.heap.size by omega) 2 (.slice t3 (setM m2 j1 1).ws.length tc3))
      clear HX4 HP4 KS1 S7 P7 S8 P8 hmo8 hbk hbk8 f0 f1 f2 g0 g1 g2 h0 h1 h2 i0 i1 i2 e0 e1 e2 z0 z1 z2
      have cr0 : ∀ W, SH w w.heap.size (w.heap.size + 2) (.slice a1 m.st.length c1) (.slice a2 m.rs.length c2) (.slice a3 m.ws.length c3) m (.slice t1 (setM m2 j1 1).st.length tc1) (.slice t2 (setM m2 j1 1).rs.length tc2) (.slice t3 (setM m2 j1 1).ws.length tc3) (setM m2 j1 1) W → W.cell? ⟨w.heap.size, 0, none⟩ = some (.slice t1 (setM m2 j1 1).st.length tc1) := fun W h => h.x.cell 0 _ rfl
      have cr1 : ∀ W, SH w w.heap.size (w.heap.size + 2) (.slice a1 m.st.length c1) (.slice a2 m.rs.length c2) (.slice a3 m.ws.length c3) m (.slice t1 (setM m2 j1 1).st.length tc1) (.slice t2 (setM m2 j1 1).rs.length tc2) (.slice t3 (setM m2 j1 1).ws.length tc3) (setM m2 j1 1) W → W.cell? ⟨w.heap.size, 1, none⟩ = some (.slice t2 (setM m2 j1 1).rs.length tc2) := fun W h => h.x.cell 1 _ rfl
      have cr2 : ∀ W, SH w w.heap.size (w.heap.size + 2) (.slice a1 m.st.length c1) (.slice a2 m.rs.length c2) (.slice a3 m.ws.length c3) m (.slice t1 (setM m2 j1 1).st.length tc1) (.slice t2 (setM m2 j1 1).rs.length tc2) (.slice t3 (setM m2 j1 1).ws.length tc3) (setM m2 j1 1) W → W.cell? ⟨w.heap.size, 2, none⟩ = some (.slice t3 (setM m2 j1 1).ws.length tc3) := fun W h => h.x.cell 2 _ rfl
      have SX : SH w w.heap.size (w.heap.size + 2) (.slice a1 m.st.length c1) (.slice a2 m.rs.length c2) (.slice a3 m.ws.length c3) m (.slice t1 (setM m2 j1 1).st.length tc1) (.slice t2 (setM m2 j1 1).rs.length tc2) (.slice t3 (setM m2 j1 1).ws.length tc3) (setM m2 j1 1) (((w8.setCell ⟨w.heap.size, 0, none⟩ (.slice t1 (setM m2 j1 1).st.length tc1)).setCell ⟨w.heap.size, 1, none⟩ (.slice t2 (setM m2 j1 1).rs.length tc2)).setCell ⟨w.heap.size, 2, none⟩ (.slice t3 (setM m2 j1 1).ws.length tc3)) := HX8.out
      go_wp2_with fail
      go_region_held3 (fun w' => SH w w.heap.size (w.heap.size + 2) (.slice a1 m.st.length c1) (.slice a2 m.rs.length c2) (.slice a3 m.ws.length c3) m (.slice t1 (setM m2 j1 1).st.length tc1) (.slice t2 (setM m2 j1 1).rs.length tc2) (.slice t3 (setM m2 j1 1).ws.length tc3) (setM m2 j1 1) w') (first | with_reducible assumption | with_reducible exact SH.below (by with_reducible assumption) (by with_reducible assumption) | ((repeat (first | with_reducible refine SH.drew ?_ | with_reducible refine SH.set ?_ (by omega) (by omega) (by omega) _ _)); with_reducible assumption)) (first | (go_at_call 17; refine (KK2.out _).mono ?_; rintro e w9 ⟨rfl, hbk⟩; have BR1 := Box.below (Box.drew HP8.out) hbk) | (go_at_call 16; refine (KS2.out _ _ _ _ _ _ _ (by with_reducible assumption)).mono ?_; rintro e w10 ⟨s1, sc1, s2, sc2, s3, sc3, rfl, hmo10, hbk10⟩; have BR := Box.below BR1 hbk10; have pc0 := BR.cell 0 _ rfl; have pf0 := BR.free 0; have pc1 := BR.cell 1 _ rfl; have pf1 := BR.free 1; have pc2 := BR.cell 2 _ rfl; have pf2 := BR.free 2; have HMO := MOut.base hmo10 (B := w.heap.size + 2) (by have := BR1.1; omega)))
      go_wp2
      exact bodyPost_ret (v := .tuple #[.agg #[.slice s1 (setM (setM m2 j1 1) j2 parent).st.length sc1, .slice s2 (setM (setM m2 j1 1) j2 parent).rs.length sc2, .slice s3 (setM (setM m2 j1 1) j2 parent).ws.length sc3], .int .i64 si, .int .i64 0]) (by simp [results, Tryd.results9, go_sem, *]) rfl ⟨_, _, _, rfl, ((show SH w w.heap.size (w.heap.size + 2) (.slice a1 m.st.length c1) (.slice a2 m.rs.length c2) (.slice a3 m.ws.length c3) m (.slice t1 (setM m2 j1 1).st.length tc1) (.slice t2 (setM m2 j1 1).rs.length tc2) (.slice t3 (setM m2 j1 1).ws.length tc3) (setM m2 j1 1) _ from by with_reducible assumption).mo.trans (by (repeat (with_reducible refine MOut.set ?_ (by omega) _ _)); with_reducible exact HMO) (Nat.le_refl _)).base (by omega), (show SH w w.heap.size (w.heap.size + 2) (.slice a1 m.st.length c1) (.slice a2 m.rs.length c2) (.slice a3 m.ws.length c3) m (.slice t1 (setM m2 j1 1).st.length tc1) (.slice t2 (setM m2 j1 1).rs.length tc2) (.slice t3 (setM m2 j1 1).ws.length tc3) (setM m2 j1 1) _ from by with_reducible assumption).bel⟩
end Go.Proofs.YtjlmoghifkgehaaDoor
