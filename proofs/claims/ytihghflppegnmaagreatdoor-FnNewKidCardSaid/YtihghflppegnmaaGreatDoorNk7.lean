/- Lemmas and contracts that the last text leans on, joined: KM4, KM5, DoAt, MachOf, CallOnI. Conditions: as each theorem says. -/
import Derived.Test.YtihghflppegnmaaGreatDoorNk5
import Derived.Test.YtihghflppegnmaaGreatDoorNk6
import Derived.Test.YtihghflppegnmaaGreatDoorNk2
import Derived.Laws.AppendOwnNone
import Derived.Deep.RegionHeld3
set_option linter.unusedSimpArgs false
set_option linter.unusedVariables false
namespace Go.Proofs.YtihghflppegnmaaGreatDoor
open Go.ChangeShapes Go.WideShapes Go.ChangeAt Go.RowKit
attribute [local go_sem ↓] Go.wp_at_zero Go.wp_at_succ
set_option maxRecDepth 100000 in
set_option maxHeartbeats 8000000 in
theorem pLoad_c (p base : Nat) (v1 v2 v3 : Value) (m m' : Mch) (x : ByteArray) (y : Int) (id : Int) (page : Int) (w : World) (h : MAt w p base v1 v2 v3 m) (ho : MOk 1700000000000 m) (hn : I64 id) (HT : ∀ W, Below base w W → Tabs W) (E : (loadP id page).run m = (m', (x, y))) :
    Calls Tryz.prog 118 #[.pointer (some ⟨p, 0, none⟩), .int .i64 id, .int .i64 page] w (MStep p base v1 v2 v3 m' (.tuple #[.string x, .int .i64 y]) w) := by
  have H := Lib.hid h
  have HTT := Lib.hid HT
  have O0 := Lib.hid ho
  have HE := Lib.hid E
  clear h ho HT E
  by_cases c1 : inB page 0 3 = true
  · have C1 := Lib.hid c1
    clear c1
    have hb := inB_iff.1 C1.out
    have hpg : I64 page := ⟨by omega, by omega⟩
    have KW := Lib.hid (fun W => within_c page 0 3 W); rw [C1.out] at KW
    obtain ⟨m1, x1, E1⟩ : ∃ aa bb, (msgP (pageK id page)).run m = (aa, bb) := ⟨_, _, rfl⟩
    have O1 := Lib.hid ((msgP_cost _).okE O0.out E1)
    have HE1 := Lib.hid E1
    clear E1
    obtain ⟨e1, e2⟩ := Prod.mk.inj ((show (m1, (x1, 0)) = (loadP id page).run m from by
      unfold loadP
      simp only [Pg.run_bind, Pg.run_pure, Pg.run_ret, ↓reduceIte, Bool.false_eq_true, Bool.true_and, Bool.and_true, Bool.and_self, Bool.false_and, Bool.and_false, or_false, false_or, true_or, or_true, ne_eq, not_true_eq_false, not_false_eq_true, eq_self_iff_true, decide_true, decide_false, C1.out, HE1.out]).trans HE.out)
    obtain ⟨e2, e3⟩ := Prod.mk.inj e2
    subst e1 e2 e3
    have G0 := Lib.hid (show ∀ m' r e w', MStep p base v1 v2 v3 m' r w e w' → MStep p base v1 v2 v3 m' r w e w' from fun _ _ _ _ h => h)
    have M0 := Lib.hid H.out
    have B0 := Lib.hid (Below.refl base w)
    clear HE
    go_enter Tryz.func118, Tryz.ntmps118
    go_wp2_with (first | (go_at_call 152; refine (KW.out _).mono ?_; rintro e w' ⟨rfl, rfl⟩) | fail)
    refine (pagesKey_c id w hn (HTT.out _ B0.out)).mono ?_
    rintro e w1 ⟨rfl, hb⟩
    have G1 := Lib.hid (show ∀ m' r e w', MStep p base v1 v2 v3 m' r w1 e w' → MStep p base v1 v2 v3 m' r w e w' from fun _ _ _ _ h => G0.out _ _ _ _ (MStep.next (Grow3.of_below hb) (.inl rfl) (.inl rfl) (.inl rfl) h))
    have B1 := Lib.hid (B0.out.trans (hb.mono M0.out.hb))
    have M1 := Lib.hid (M0.out.below hb)
    clear hb G0 M0 B0
    go_wp2_with (first | (go_at_call 152; refine (KW.out _).mono ?_; rintro e w' ⟨rfl, rfl⟩) | fail)
    refine (implKeyNum2_c (pagesK id) page ⟨#[]⟩ w1 hpg (Nat.le_trans (pagesK_size hn) (by decide)) (by decide) (HTT.out _ B1.out)).mono ?_
    rintro e w2 ⟨rfl, hb⟩
    have G2 := Lib.hid (show ∀ m' r e w', MStep p base v1 v2 v3 m' r w2 e w' → MStep p base v1 v2 v3 m' r w e w' from fun _ _ _ _ h => G1.out _ _ _ _ (MStep.next (Grow3.of_below hb) (.inl rfl) (.inl rfl) (.inl rfl) h))
    have B2 := Lib.hid (B1.out.trans (hb.mono M1.out.hb))
    have M2 := Lib.hid (M1.out.below hb)
    clear hb G1 M1 B1
    have K3 := Lib.hid (pMsg_c p base v1 v2 v3 m m1 x1 (pageK id page) w2 M2.out (O0.out.mono (by omega)) (fun W hW => HTT.out W (B2.out.trans hW)) HE1.out)
    go_wp2_with (first | (go_at_call 152; refine (KW.out _).mono ?_; rintro e w' ⟨rfl, rfl⟩) | fail)
    refine K3.out.mono ?_
    rintro e w3 ⟨x31, x32, x33, rfl, hm, hg, q1, q2, q3⟩
    have G3 := Lib.hid (show ∀ m' r e w', MStep p base x31 x32 x33 m' r w3 e w' → MStep p base v1 v2 v3 m' r w e w' from fun _ _ _ _ h => G2.out _ _ _ _ (MStep.next hg q1 q2 q3 h))
    have B3 := Lib.hid (B2.out.trans (M2.out.grow hg))
    have M3 := Lib.hid hm
    clear hm hg q1 q2 q3 K3 G2 M2 B2
    have HEND := Lib.hid (show MStep p base v1 v2 v3 _ (.tuple #[.string x1, .int .i64 0]) w (.returned (.tuple #[.string x1, .int .i64 0])) w3 from G3.out _ _ _ _ (M3.out.step (Below.refl _ _) _))
    clear G3 M3 B3
    go_wp2_with (first | (go_at_call 152; refine (KW.out _).mono ?_; rintro e w' ⟨rfl, rfl⟩) | fail)
    go_ret2
    exact HEND.out
  · have C1 := Lib.hid (Bool.eq_false_iff.2 c1)
    clear c1
    have KW := Lib.hid (fun W => within_c page 0 3 W); rw [C1.out] at KW
    obtain ⟨e1, e2⟩ := Prod.mk.inj ((show (m, (noB, 4)) = (loadP id page).run m from by
      unfold loadP
      simp only [Pg.run_bind, Pg.run_pure, Pg.run_ret, ↓reduceIte, Bool.false_eq_true, Bool.true_and, Bool.and_true, Bool.and_self, Bool.false_and, Bool.and_false, or_false, false_or, true_or, or_true, ne_eq, not_true_eq_false, not_false_eq_true, eq_self_iff_true, decide_true, decide_false, C1.out]).trans HE.out)
    obtain ⟨e2, e3⟩ := Prod.mk.inj e2
    subst e1 e2 e3
    have G0 := Lib.hid (show ∀ m' r e w', MStep p base v1 v2 v3 m' r w e w' → MStep p base v1 v2 v3 m' r w e w' from fun _ _ _ _ h => h)
    have M0 := Lib.hid H.out
    have B0 := Lib.hid (Below.refl base w)
    clear HE
    go_enter Tryz.func118, Tryz.ntmps118
    have HEND := Lib.hid (show MStep p base v1 v2 v3 _ (.tuple #[.string ⟨#[]⟩, .int .i64 4]) w (.returned (.tuple #[.string ⟨#[]⟩, .int .i64 4])) w from G0.out _ _ _ _ (M0.out.step (Below.refl _ _) _))
    clear G0 M0 B0
    go_wp2_with (first | (go_at_call 152; refine (KW.out _).mono ?_; rintro e w' ⟨rfl, rfl⟩) | fail)
    go_ret2
    exact HEND.out

set_option maxRecDepth 100000 in
set_option maxHeartbeats 8000000 in
theorem pStore_c (p base : Nat) (v1 v2 v3 : Value) (m m' : Mch) (x : Int) (id : Int) (page : Int) (text : ByteArray) (w : World) (h : MAt w p base v1 v2 v3 m) (ho : MOk 1700000000000 m) (hn : I64 id) (HT : ∀ W, Below base w W → Tabs W) (E : (storeP id page text).run m = (m', x)) :
    Calls Tryz.prog 117 #[.pointer (some ⟨p, 0, none⟩), .int .i64 id, .int .i64 page, .string text] w (MStep p base v1 v2 v3 m' (.int .i64 x) w) := by
  have H := Lib.hid h
  have HTT := Lib.hid HT
  have O0 := Lib.hid ho
  have HE := Lib.hid E
  clear h ho HT E
  by_cases c1 : inB page 0 3 = true
  · have C1 := Lib.hid c1
    clear c1
    have hb := inB_iff.1 C1.out
    have hpg : I64 page := ⟨by omega, by omega⟩
    have KW := Lib.hid (fun W => within_c page 0 3 W); rw [C1.out] at KW
    by_cases c2 : text.size ≤ 20
    · have p1 : ¬ (20 : Int) < (text.size : Int) := by omega
      by_cases c3 : text.size = 0
      · have C3 := Lib.hid c3
        clear c3
        have hne := fun t => eq_empty (t := t) C3.out
        obtain ⟨m1, u1, E1⟩ : ∃ aa bb, (layP (pageK id page) (noB)).run m = (aa, bb) := ⟨_, _, rfl⟩
        have O1 := Lib.hid ((layP_cost _ _).okE O0.out E1)
        have HE1 := Lib.hid E1
        clear E1
        obtain ⟨e1, e2⟩ := Prod.mk.inj ((show (m1, 0) = (storeP id page text).run m from by
          unfold storeP
          simp only [Pg.run_bind, Pg.run_pure, Pg.run_ret, ↓reduceIte, Bool.false_eq_true, Bool.true_and, Bool.and_true, Bool.and_self, Bool.false_and, Bool.and_false, or_false, false_or, true_or, or_true, ne_eq, not_true_eq_false, not_false_eq_true, eq_self_iff_true, decide_true, decide_false, Nat.zero_le, C1.out, c2, C3.out, HE1.out]).trans HE.out)
        subst e1 e2
        have G0 := Lib.hid (show ∀ m' r e w', MStep p base v1 v2 v3 m' r w e w' → MStep p base v1 v2 v3 m' r w e w' from fun _ _ _ _ h => h)
        have M0 := Lib.hid H.out
        have B0 := Lib.hid (Below.refl base w)
        clear HE
        go_enter Tryz.func117, Tryz.ntmps117
        go_wp2_with (first | (go_at_call 152; refine (KW.out _).mono ?_; rintro e w' ⟨rfl, rfl⟩) | fail)
        refine (pagesKey_c id w hn (HTT.out _ B0.out)).mono ?_
        rintro e w1 ⟨rfl, hb⟩
        have G1 := Lib.hid (show ∀ m' r e w', MStep p base v1 v2 v3 m' r w1 e w' → MStep p base v1 v2 v3 m' r w e w' from fun _ _ _ _ h => G0.out _ _ _ _ (MStep.next (Grow3.of_below hb) (.inl rfl) (.inl rfl) (.inl rfl) h))
        have B1 := Lib.hid (B0.out.trans (hb.mono M0.out.hb))
        have M1 := Lib.hid (M0.out.below hb)
        clear hb G0 M0 B0
        go_wp2_with (first | (go_at_call 152; refine (KW.out _).mono ?_; rintro e w' ⟨rfl, rfl⟩) | fail)
        refine (implKeyNum2_c (pagesK id) page ⟨#[]⟩ w1 hpg (Nat.le_trans (pagesK_size hn) (by decide)) (by decide) (HTT.out _ B1.out)).mono ?_
        rintro e w2 ⟨rfl, hb⟩
        have G2 := Lib.hid (show ∀ m' r e w', MStep p base v1 v2 v3 m' r w2 e w' → MStep p base v1 v2 v3 m' r w e w' from fun _ _ _ _ h => G1.out _ _ _ _ (MStep.next (Grow3.of_below hb) (.inl rfl) (.inl rfl) (.inl rfl) h))
        have B2 := Lib.hid (B1.out.trans (hb.mono M1.out.hb))
        have M2 := Lib.hid (M1.out.below hb)
        clear hb G1 M1 B1
        have K3 := Lib.hid (pLay_c p base v1 v2 v3 m m1 u1 (pageK id page) (noB) w2 M2.out (O0.out.mono (by omega)) (kle (pageK_size hn hpg)) (by decide) HE1.out)
        go_wp2_with (first | (go_at_call 152; refine (KW.out _).mono ?_; rintro e w' ⟨rfl, rfl⟩) | fail)
        refine K3.out.mono ?_
        rintro e w3 ⟨x31, x32, x33, rfl, hm, hg, q1, q2, q3⟩
        have G3 := Lib.hid (show ∀ m' r e w', MStep p base x31 x32 x33 m' r w3 e w' → MStep p base v1 v2 v3 m' r w e w' from fun _ _ _ _ h => G2.out _ _ _ _ (MStep.next hg q1 q2 q3 h))
        have B3 := Lib.hid (B2.out.trans (M2.out.grow hg))
        have M3 := Lib.hid hm
        clear hm hg q1 q2 q3 K3 G2 M2 B2
        have HEND := Lib.hid (show MStep p base v1 v2 v3 _ (.int .i64 0) w (.returned (.int .i64 0)) w3 from G3.out _ _ _ _ (M3.out.step (Below.refl _ _) _))
        clear G3 M3 B3
        go_wp2_with (first | (go_at_call 152; refine (KW.out _).mono ?_; rintro e w' ⟨rfl, rfl⟩) | fail)
        go_ret
        exact HEND.out
      · have C3 := Lib.hid c3
        clear c3
        have hne := fun t => neq_empty (t := t) (Nat.pos_of_ne_zero C3.out)
        have hz := hexV_size text
        have KHX := Lib.hid (fun W => hexOf_c text W)
        have hhy : (hyphenS (hexV text)).size ≤ 40001 := by rw [hyphenS_size]; omega
        have HHY := Lib.hid hhy
        clear hhy
        obtain ⟨m1, u1, E1⟩ : ∃ aa bb, (layP (pageK id page) (hyphenS (hexV text))).run m = (aa, bb) := ⟨_, _, rfl⟩
        have O1 := Lib.hid ((layP_cost _ _).okE O0.out E1)
        have HE1 := Lib.hid E1
        clear E1
        obtain ⟨e1, e2⟩ := Prod.mk.inj ((show (m1, 0) = (storeP id page text).run m from by
          unfold storeP
          simp only [Pg.run_bind, Pg.run_pure, Pg.run_ret, ↓reduceIte, Bool.false_eq_true, Bool.true_and, Bool.and_true, Bool.and_self, Bool.false_and, Bool.and_false, or_false, false_or, true_or, or_true, ne_eq, not_true_eq_false, not_false_eq_true, eq_self_iff_true, decide_true, decide_false, Nat.zero_le, C1.out, c2, C3.out, HE1.out]).trans HE.out)
        subst e1 e2
        have G0 := Lib.hid (show ∀ m' r e w', MStep p base v1 v2 v3 m' r w e w' → MStep p base v1 v2 v3 m' r w e w' from fun _ _ _ _ h => h)
        have M0 := Lib.hid H.out
        have B0 := Lib.hid (Below.refl base w)
        clear HE
        go_enter Tryz.func117, Tryz.ntmps117
        go_wp2_with (first | (go_at_call 152; refine (KW.out _).mono ?_; rintro e w' ⟨rfl, rfl⟩) | fail)
        refine (KHX.out _).mono ?_
        rintro e w1 ⟨rfl, hb⟩
        have G1 := Lib.hid (show ∀ m' r e w', MStep p base v1 v2 v3 m' r w1 e w' → MStep p base v1 v2 v3 m' r w e w' from fun _ _ _ _ h => G0.out _ _ _ _ (MStep.next (Grow3.of_below hb) (.inl rfl) (.inl rfl) (.inl rfl) h))
        have B1 := Lib.hid (B0.out.trans (hb.mono M0.out.hb))
        have M1 := Lib.hid (M0.out.below hb)
        clear hb G0 M0 B0
        go_wp2_with (first | (go_at_call 152; refine (KW.out _).mono ?_; rintro e w' ⟨rfl, rfl⟩) | fail)
        refine (pagesKey_c id w1 hn (HTT.out _ B1.out)).mono ?_
        rintro e w2 ⟨rfl, hb⟩
        have G2 := Lib.hid (show ∀ m' r e w', MStep p base v1 v2 v3 m' r w2 e w' → MStep p base v1 v2 v3 m' r w e w' from fun _ _ _ _ h => G1.out _ _ _ _ (MStep.next (Grow3.of_below hb) (.inl rfl) (.inl rfl) (.inl rfl) h))
        have B2 := Lib.hid (B1.out.trans (hb.mono M1.out.hb))
        have M2 := Lib.hid (M1.out.below hb)
        clear hb G1 M1 B1
        go_wp2_with (first | (go_at_call 152; refine (KW.out _).mono ?_; rintro e w' ⟨rfl, rfl⟩) | fail)
        refine (implKeyNum2_c (pagesK id) page ⟨#[]⟩ w2 hpg (Nat.le_trans (pagesK_size hn) (by decide)) (by decide) (HTT.out _ B2.out)).mono ?_
        rintro e w3 ⟨rfl, hb⟩
        have G3 := Lib.hid (show ∀ m' r e w', MStep p base v1 v2 v3 m' r w3 e w' → MStep p base v1 v2 v3 m' r w e w' from fun _ _ _ _ h => G2.out _ _ _ _ (MStep.next (Grow3.of_below hb) (.inl rfl) (.inl rfl) (.inl rfl) h))
        have B3 := Lib.hid (B2.out.trans (hb.mono M2.out.hb))
        have M3 := Lib.hid (M2.out.below hb)
        clear hb G2 M2 B2
        have K4 := Lib.hid (pLay_c p base v1 v2 v3 m m1 u1 (pageK id page) (hyphenS (hexV text)) w3 M3.out (O0.out.mono (by omega)) (kle (pageK_size hn hpg)) ((Nat.le_trans HHY.out (by decide))) HE1.out)
        go_wp2_with (first | (go_at_call 152; refine (KW.out _).mono ?_; rintro e w' ⟨rfl, rfl⟩) | fail)
        refine K4.out.mono ?_
        rintro e w4 ⟨x41, x42, x43, rfl, hm, hg, q1, q2, q3⟩
        have G4 := Lib.hid (show ∀ m' r e w', MStep p base x41 x42 x43 m' r w4 e w' → MStep p base v1 v2 v3 m' r w e w' from fun _ _ _ _ h => G3.out _ _ _ _ (MStep.next hg q1 q2 q3 h))
        have B4 := Lib.hid (B3.out.trans (M3.out.grow hg))
        have M4 := Lib.hid hm
        clear hm hg q1 q2 q3 K4 G3 M3 B3
        have HEND := Lib.hid (show MStep p base v1 v2 v3 _ (.int .i64 0) w (.returned (.int .i64 0)) w4 from G4.out _ _ _ _ (M4.out.step (Below.refl _ _) _))
        clear G4 M4 B4
        go_wp2_with (first | (go_at_call 152; refine (KW.out _).mono ?_; rintro e w' ⟨rfl, rfl⟩) | fail)
        go_ret
        exact HEND.out
    · have p1 : (20 : Int) < (text.size : Int) := by omega
      obtain ⟨e1, e2⟩ := Prod.mk.inj ((show (m, 4) = (storeP id page text).run m from by
        unfold storeP
        simp only [Pg.run_bind, Pg.run_pure, Pg.run_ret, ↓reduceIte, Bool.false_eq_true, Bool.true_and, Bool.and_true, Bool.and_self, Bool.false_and, Bool.and_false, or_false, false_or, true_or, or_true, ne_eq, not_true_eq_false, not_false_eq_true, eq_self_iff_true, decide_true, decide_false, Nat.zero_le, C1.out, c2]).trans HE.out)
      subst e1 e2
      have G0 := Lib.hid (show ∀ m' r e w', MStep p base v1 v2 v3 m' r w e w' → MStep p base v1 v2 v3 m' r w e w' from fun _ _ _ _ h => h)
      have M0 := Lib.hid H.out
      have B0 := Lib.hid (Below.refl base w)
      clear HE
      go_enter Tryz.func117, Tryz.ntmps117
      have HEND := Lib.hid (show MStep p base v1 v2 v3 _ (.int .i64 4) w (.returned (.int .i64 4)) w from G0.out _ _ _ _ (M0.out.step (Below.refl _ _) _))
      clear G0 M0 B0
      go_wp2_with (first | (go_at_call 152; refine (KW.out _).mono ?_; rintro e w' ⟨rfl, rfl⟩) | fail)
      go_ret
      exact HEND.out
  · have C1 := Lib.hid (Bool.eq_false_iff.2 c1)
    clear c1
    have KW := Lib.hid (fun W => within_c page 0 3 W); rw [C1.out] at KW
    obtain ⟨e1, e2⟩ := Prod.mk.inj ((show (m, 4) = (storeP id page text).run m from by
      unfold storeP
      simp only [Pg.run_bind, Pg.run_pure, Pg.run_ret, ↓reduceIte, Bool.false_eq_true, Bool.true_and, Bool.and_true, Bool.and_self, Bool.false_and, Bool.and_false, or_false, false_or, true_or, or_true, ne_eq, not_true_eq_false, not_false_eq_true, eq_self_iff_true, decide_true, decide_false, Nat.zero_le, C1.out]).trans HE.out)
    subst e1 e2
    have G0 := Lib.hid (show ∀ m' r e w', MStep p base v1 v2 v3 m' r w e w' → MStep p base v1 v2 v3 m' r w e w' from fun _ _ _ _ h => h)
    have M0 := Lib.hid H.out
    have B0 := Lib.hid (Below.refl base w)
    clear HE
    go_enter Tryz.func117, Tryz.ntmps117
    have HEND := Lib.hid (show MStep p base v1 v2 v3 _ (.int .i64 4) w (.returned (.int .i64 4)) w from G0.out _ _ _ _ (M0.out.step (Below.refl _ _) _))
    clear G0 M0 B0
    go_wp2_with (first | (go_at_call 152; refine (KW.out _).mono ?_; rintro e w' ⟨rfl, rfl⟩) | fail)
    go_ret
    exact HEND.out

set_option maxRecDepth 100000 in
set_option maxHeartbeats 8000000 in
theorem pPutOut_c (p base : Nat) (v1 v2 v3 : Value) (m m' : Mch) (x : Int) (text : ByteArray) (w : World) (h : MAt w p base v1 v2 v3 m) (ho : MOk 1700000000000 m) (hs : text.size ≤ 4000000) (HT : ∀ W, Below base w W → Tabs W) (E : (putOutP text).run m = (m', x)) :
    Calls Tryz.prog 119 #[.pointer (some ⟨p, 0, none⟩), .string text] w (MStep p base v1 v2 v3 m' (.int .i64 x) w) := by
  have H := Lib.hid h
  have HTT := Lib.hid HT
  have O0 := Lib.hid ho
  have HE := Lib.hid E
  clear h ho HT E
  by_cases c1 : inB text.size 1 20 = true
  · have C1 := Lib.hid c1
    clear c1
    have hb := inB_iff.1 C1.out
    have KW := Lib.hid (fun W => within_c (text.size : Int) 1 20 W); rw [C1.out] at KW
    obtain ⟨m1, x1, E1⟩ : ∃ aa bb, (numP (dnK)).run m = (aa, bb) := ⟨_, _, rfl⟩
    have bx1 := numP_bounds E1
    have O1 := Lib.hid ((numP_cost _).okE O0.out E1)
    have HE1 := Lib.hid E1
    clear E1
    by_cases c2 : 40 ≤ x1
    · obtain ⟨e1, e2⟩ := Prod.mk.inj ((show (m1, 3) = (putOutP text).run m from by
        unfold putOutP
        simp only [Pg.run_bind, Pg.run_pure, Pg.run_ret, ↓reduceIte, Bool.false_eq_true, Bool.true_and, Bool.and_true, Bool.and_self, Bool.false_and, Bool.and_false, or_false, false_or, true_or, or_true, ne_eq, not_true_eq_false, not_false_eq_true, eq_self_iff_true, decide_true, decide_false, C1.out, HE1.out, c2]).trans HE.out)
      subst e1 e2
      have G0 := Lib.hid (show ∀ m' r e w', MStep p base v1 v2 v3 m' r w e w' → MStep p base v1 v2 v3 m' r w e w' from fun _ _ _ _ h => h)
      have M0 := Lib.hid H.out
      have B0 := Lib.hid (Below.refl base w)
      clear HE
      go_enter Tryz.func119, Tryz.ntmps119
      have K1 := Lib.hid (pNum_c p base v1 v2 v3 m m1 x1 (dnK) w M0.out (O0.out.mono (by omega)) (fun W hW => HTT.out W (B0.out.trans hW)) HE1.out)
      go_wp2_with (first | (go_at_call 152; refine (KW.out _).mono ?_; rintro e w' ⟨rfl, rfl⟩) | fail)
      refine K1.out.mono ?_
      rintro e w1 ⟨x11, x12, x13, rfl, hm, hg, q1, q2, q3⟩
      have G1 := Lib.hid (show ∀ m' r e w', MStep p base x11 x12 x13 m' r w1 e w' → MStep p base v1 v2 v3 m' r w e w' from fun _ _ _ _ h => G0.out _ _ _ _ (MStep.next hg q1 q2 q3 h))
      have B1 := Lib.hid (B0.out.trans (M0.out.grow hg))
      have M1 := Lib.hid hm
      clear hm hg q1 q2 q3 K1 G0 M0 B0
      have HEND := Lib.hid (show MStep p base v1 v2 v3 _ (.int .i64 3) w (.returned (.int .i64 3)) w1 from G1.out _ _ _ _ (M1.out.step (Below.refl _ _) _))
      clear G1 M1 B1
      go_wp2_with (first | (go_at_call 152; refine (KW.out _).mono ?_; rintro e w' ⟨rfl, rfl⟩) | fail)
      go_ret
      exact HEND.out
    · have hwx1 : IntKind.i64.wrap (x1 + 1) = x1 + 1 := by rw [IntKind.wrap_i64]; omega
      have hz := hexV_size text
      have KHX := Lib.hid (fun W => hexOf_c text W)
      have hhy : (hyphenS (hexV text)).size ≤ 40001 := by rw [hyphenS_size]; omega
      have HHY := Lib.hid hhy
      clear hhy
      obtain ⟨m2, u2, E2⟩ : ∃ aa bb, (setP (dnK) (x1 + 1)).run m1 = (aa, bb) := ⟨_, _, rfl⟩
      have O2 := Lib.hid ((setP_cost _ _).okE O1.out E2)
      have HE2 := Lib.hid E2
      clear E2
      obtain ⟨m3, u3, E3⟩ : ∃ aa bb, (layP (outK1 (x1 + 1)) (hyphenS (hexV text))).run m2 = (aa, bb) := ⟨_, _, rfl⟩
      have O3 := Lib.hid ((layP_cost _ _).okE O2.out E3)
      have HE3 := Lib.hid E3
      clear E3
      obtain ⟨e1, e2⟩ := Prod.mk.inj ((show (m3, 0) = (putOutP text).run m from by
        unfold putOutP
        simp only [Pg.run_bind, Pg.run_pure, Pg.run_ret, ↓reduceIte, Bool.false_eq_true, Bool.true_and, Bool.and_true, Bool.and_self, Bool.false_and, Bool.and_false, or_false, false_or, true_or, or_true, ne_eq, not_true_eq_false, not_false_eq_true, eq_self_iff_true, decide_true, decide_false, C1.out, HE1.out, c2, HE2.out, HE3.out]).trans HE.out)
      subst e1 e2
      have G0 := Lib.hid (show ∀ m' r e w', MStep p base v1 v2 v3 m' r w e w' → MStep p base v1 v2 v3 m' r w e w' from fun _ _ _ _ h => h)
      have M0 := Lib.hid H.out
      have B0 := Lib.hid (Below.refl base w)
      clear HE
      go_enter Tryz.func119, Tryz.ntmps119
      have K1 := Lib.hid (pNum_c p base v1 v2 v3 m m1 x1 (dnK) w M0.out (O0.out.mono (by omega)) (fun W hW => HTT.out W (B0.out.trans hW)) HE1.out)
      go_wp2_with (first | (go_at_call 152; refine (KW.out _).mono ?_; rintro e w' ⟨rfl, rfl⟩) | fail)
      refine K1.out.mono ?_
      rintro e w1 ⟨x11, x12, x13, rfl, hm, hg, q1, q2, q3⟩
      have G1 := Lib.hid (show ∀ m' r e w', MStep p base x11 x12 x13 m' r w1 e w' → MStep p base v1 v2 v3 m' r w e w' from fun _ _ _ _ h => G0.out _ _ _ _ (MStep.next hg q1 q2 q3 h))
      have B1 := Lib.hid (B0.out.trans (M0.out.grow hg))
      have M1 := Lib.hid hm
      clear hm hg q1 q2 q3 K1 G0 M0 B0
      have K2 := Lib.hid (pSet_c p base x11 x12 x13 m1 m2 u2 (dnK) (x1 + 1) w1 M1.out (O1.out.mono (by omega)) (kle ((by decide))) (fun W hW => HTT.out W (B1.out.trans hW)) HE2.out)
      go_wp2_with (first | (go_at_call 152; refine (KW.out _).mono ?_; rintro e w' ⟨rfl, rfl⟩) | fail)
      refine K2.out.mono ?_
      rintro e w2 ⟨x21, x22, x23, rfl, hm, hg, q1, q2, q3⟩
      have G2 := Lib.hid (show ∀ m' r e w', MStep p base x21 x22 x23 m' r w2 e w' → MStep p base v1 v2 v3 m' r w e w' from fun _ _ _ _ h => G1.out _ _ _ _ (MStep.next hg q1 q2 q3 h))
      have B2 := Lib.hid (B1.out.trans (M1.out.grow hg))
      have M2 := Lib.hid hm
      clear hm hg q1 q2 q3 K2 G1 M1 B1
      go_wp2_with (first | (go_at_call 152; refine (KW.out _).mono ?_; rintro e w' ⟨rfl, rfl⟩) | fail)
      refine (implKeyNum2_c dK (x1 + 1) ⟨#[]⟩ w2 (i64_succ bx1) (by decide) (by decide) (HTT.out _ B2.out)).mono ?_
      rintro e w3 ⟨rfl, hb⟩
      have G3 := Lib.hid (show ∀ m' r e w', MStep p base x21 x22 x23 m' r w3 e w' → MStep p base v1 v2 v3 m' r w e w' from fun _ _ _ _ h => G2.out _ _ _ _ (MStep.next (Grow3.of_below hb) (.inl rfl) (.inl rfl) (.inl rfl) h))
      have B3 := Lib.hid (B2.out.trans (hb.mono M2.out.hb))
      have M3 := Lib.hid (M2.out.below hb)
      clear hb G2 M2 B2
      go_wp2_with (first | (go_at_call 152; refine (KW.out _).mono ?_; rintro e w' ⟨rfl, rfl⟩) | fail)
      refine (KHX.out _).mono ?_
      rintro e w4 ⟨rfl, hb⟩
      have G4 := Lib.hid (show ∀ m' r e w', MStep p base x21 x22 x23 m' r w4 e w' → MStep p base v1 v2 v3 m' r w e w' from fun _ _ _ _ h => G3.out _ _ _ _ (MStep.next (Grow3.of_below hb) (.inl rfl) (.inl rfl) (.inl rfl) h))
      have B4 := Lib.hid (B3.out.trans (hb.mono M3.out.hb))
      have M4 := Lib.hid (M3.out.below hb)
      clear hb G3 M3 B3
      have K5 := Lib.hid (pLay_c p base x21 x22 x23 m2 m3 u3 (outK1 (x1 + 1)) (hyphenS (hexV text)) w4 M4.out (O2.out.mono (by omega)) (kle (outK1_size (i64_succ bx1))) ((Nat.le_trans HHY.out (by decide))) HE3.out)
      go_wp2_with (first | (go_at_call 152; refine (KW.out _).mono ?_; rintro e w' ⟨rfl, rfl⟩) | fail)
      refine K5.out.mono ?_
      rintro e w5 ⟨x51, x52, x53, rfl, hm, hg, q1, q2, q3⟩
      have G5 := Lib.hid (show ∀ m' r e w', MStep p base x51 x52 x53 m' r w5 e w' → MStep p base v1 v2 v3 m' r w e w' from fun _ _ _ _ h => G4.out _ _ _ _ (MStep.next hg q1 q2 q3 h))
      have B5 := Lib.hid (B4.out.trans (M4.out.grow hg))
      have M5 := Lib.hid hm
      clear hm hg q1 q2 q3 K5 G4 M4 B4
      have HEND := Lib.hid (show MStep p base v1 v2 v3 _ (.int .i64 0) w (.returned (.int .i64 0)) w5 from G5.out _ _ _ _ (M5.out.step (Below.refl _ _) _))
      clear G5 M5 B5
      go_wp2_with (first | (go_at_call 152; refine (KW.out _).mono ?_; rintro e w' ⟨rfl, rfl⟩) | fail)
      go_ret
      exact HEND.out
  · have C1 := Lib.hid (Bool.eq_false_iff.2 c1)
    clear c1
    have KW := Lib.hid (fun W => within_c (text.size : Int) 1 20 W); rw [C1.out] at KW
    obtain ⟨e1, e2⟩ := Prod.mk.inj ((show (m, 4) = (putOutP text).run m from by
      unfold putOutP
      simp only [Pg.run_bind, Pg.run_pure, Pg.run_ret, ↓reduceIte, Bool.false_eq_true, Bool.true_and, Bool.and_true, Bool.and_self, Bool.false_and, Bool.and_false, or_false, false_or, true_or, or_true, ne_eq, not_true_eq_false, not_false_eq_true, eq_self_iff_true, decide_true, decide_false, C1.out]).trans HE.out)
    subst e1 e2
    have G0 := Lib.hid (show ∀ m' r e w', MStep p base v1 v2 v3 m' r w e w' → MStep p base v1 v2 v3 m' r w e w' from fun _ _ _ _ h => h)
    have M0 := Lib.hid H.out
    have B0 := Lib.hid (Below.refl base w)
    clear HE
    go_enter Tryz.func119, Tryz.ntmps119
    have HEND := Lib.hid (show MStep p base v1 v2 v3 _ (.int .i64 4) w (.returned (.int .i64 4)) w from G0.out _ _ _ _ (M0.out.step (Below.refl _ _) _))
    clear G0 M0 B0
    go_wp2_with (first | (go_at_call 152; refine (KW.out _).mono ?_; rintro e w' ⟨rfl, rfl⟩) | fail)
    go_ret
    exact HEND.out
end Go.Proofs.YtihghflppegnmaaGreatDoor
namespace Go.Proofs.YtihghflppegnmaaGreatDoor
open Go.ChangeShapes Go.WideShapes Go.ChangeAt Go.RowKit
attribute [local go_sem ↓] Go.wp_at_zero Go.wp_at_succ
set_option maxRecDepth 100000 in
set_option maxHeartbeats 8000000 in
theorem pUnlink_c (p base : Nat) (v1 v2 v3 : Value) (m m' : Mch) (x : Int) (name : ByteArray) (w : World) (h : MAt w p base v1 v2 v3 m) (ho : MOk 800000000000 m) (hs : name.size ≤ 900) (HT : ∀ W, Below base w W → Tabs W) (E : (unlinkP name).run m = (m', x)) :
    Calls Tryz.prog 100 #[.pointer (some ⟨p, 0, none⟩), .string name] w (MStep p base v1 v2 v3 m' (.int .i64 x) w) := by
  have H := Lib.hid h
  have HTT := Lib.hid HT
  have O0 := Lib.hid ho
  have HE := Lib.hid E
  clear h ho HT E
  by_cases c1 : nameOkB name = true
  · have C1 := Lib.hid c1
    clear c1
    have KNname := Lib.hid (fun W => implNameOk_c name W (kle (Nat.le_trans hs (by decide))))
    rw [C1.out] at KNname
    obtain ⟨m1, x1, E1⟩ : ∃ aa bb, (fileOfP name).run m = (aa, bb) := ⟨_, _, rfl⟩
    have bx1 := fileOfP_bounds E1
    have O1 := Lib.hid ((fileOfP_cost _).okE O0.out E1)
    have HE1 := Lib.hid E1
    clear E1
    by_cases c2 : x1 = 0
    · subst c2
      obtain ⟨e1, e2⟩ := Prod.mk.inj ((show (m1, 2) = (unlinkP name).run m from by
        unfold unlinkP
        simp only [Pg.run_bind, Pg.run_pure, Pg.run_ret, ↓reduceIte, Bool.false_eq_true, Bool.true_and, Bool.and_true, Bool.and_self, Bool.false_and, Bool.and_false, or_false, false_or, true_or, or_true, ne_eq, not_true_eq_false, not_false_eq_true, eq_self_iff_true, decide_true, decide_false, C1.out, HE1.out]).trans HE.out)
      subst e1 e2
      have G0 := Lib.hid (show ∀ m' r e w', MStep p base v1 v2 v3 m' r w e w' → MStep p base v1 v2 v3 m' r w e w' from fun _ _ _ _ h => h)
      have M0 := Lib.hid H.out
      have B0 := Lib.hid (Below.refl base w)
      clear HE
      go_enter Tryz.func100, Tryz.ntmps100
      have K1 := Lib.hid (pFileOf_c p base v1 v2 v3 m m1 (0) name w M0.out (O0.out.mono (by omega)) (Nat.le_trans hs (by decide)) (fun W hW => HTT.out W (B0.out.trans hW)) HE1.out)
      go_wp2_with (first | (go_at_call 153; with_reducible refine (KNname.out _).mono ?_; rintro e w' ⟨rfl, rfl⟩) | fail)
      refine K1.out.mono ?_
      rintro e w1 ⟨x11, x12, x13, rfl, hm, hg, q1, q2, q3⟩
      have G1 := Lib.hid (show ∀ m' r e w', MStep p base x11 x12 x13 m' r w1 e w' → MStep p base v1 v2 v3 m' r w e w' from fun _ _ _ _ h => G0.out _ _ _ _ (MStep.next hg q1 q2 q3 h))
      have B1 := Lib.hid (B0.out.trans (M0.out.grow hg))
      have M1 := Lib.hid hm
      clear hm hg q1 q2 q3 K1 G0 M0 B0
      have HEND := Lib.hid (show MStep p base v1 v2 v3 _ (.int .i64 2) w (.returned (.int .i64 2)) w1 from G1.out _ _ _ _ (M1.out.step (Below.refl _ _) _))
      clear G1 M1 B1
      go_wp2_with (first | (go_at_call 153; with_reducible refine (KNname.out _).mono ?_; rintro e w' ⟨rfl, rfl⟩) | fail)
      go_ret
      exact HEND.out
    · obtain ⟨m2, u2, E2⟩ : ∃ aa bb, (layP (nK name) (noB)).run m1 = (aa, bb) := ⟨_, _, rfl⟩
      have O2 := Lib.hid ((layP_cost _ _).okE O1.out E2)
      have HE2 := Lib.hid E2
      clear E2
      obtain ⟨m3, x2, E3⟩ : ∃ aa bb, (numP (linksK x1)).run m2 = (aa, bb) := ⟨_, _, rfl⟩
      have bx2 := numP_bounds E3
      have O3 := Lib.hid ((numP_cost _).okE O2.out E3)
      have HE3 := Lib.hid E3
      clear E3
      by_cases c3 : 1 < x2
      · have hwx2 : IntKind.i64.wrap (x2 - 1) = x2 - 1 := by rw [IntKind.wrap_i64]; omega
        obtain ⟨m4, u4, E4⟩ : ∃ aa bb, (setP (linksK x1) (x2 - 1)).run m3 = (aa, bb) := ⟨_, _, rfl⟩
        have O4 := Lib.hid ((setP_cost _ _).okE O3.out E4)
        have HE4 := Lib.hid E4
        clear E4
        obtain ⟨e1, e2⟩ := Prod.mk.inj ((show (m4, 0) = (unlinkP name).run m from by
          unfold unlinkP
          simp only [Pg.run_bind, Pg.run_pure, Pg.run_ret, ↓reduceIte, Bool.false_eq_true, Bool.true_and, Bool.and_true, Bool.and_self, Bool.false_and, Bool.and_false, or_false, false_or, true_or, or_true, ne_eq, not_true_eq_false, not_false_eq_true, eq_self_iff_true, decide_true, decide_false, C1.out, HE1.out, c2, HE2.out, HE3.out, c3, HE4.out]).trans HE.out)
        subst e1 e2
        have G0 := Lib.hid (show ∀ m' r e w', MStep p base v1 v2 v3 m' r w e w' → MStep p base v1 v2 v3 m' r w e w' from fun _ _ _ _ h => h)
        have M0 := Lib.hid H.out
        have B0 := Lib.hid (Below.refl base w)
        clear HE
        go_enter Tryz.func100, Tryz.ntmps100
        have K1 := Lib.hid (pFileOf_c p base v1 v2 v3 m m1 x1 name w M0.out (O0.out.mono (by omega)) (Nat.le_trans hs (by decide)) (fun W hW => HTT.out W (B0.out.trans hW)) HE1.out)
        go_wp2_with (first | (go_at_call 153; with_reducible refine (KNname.out _).mono ?_; rintro e w' ⟨rfl, rfl⟩) | fail)
        refine K1.out.mono ?_
        rintro e w1 ⟨x11, x12, x13, rfl, hm, hg, q1, q2, q3⟩
        have G1 := Lib.hid (show ∀ m' r e w', MStep p base x11 x12 x13 m' r w1 e w' → MStep p base v1 v2 v3 m' r w e w' from fun _ _ _ _ h => G0.out _ _ _ _ (MStep.next hg q1 q2 q3 h))
        have B1 := Lib.hid (B0.out.trans (M0.out.grow hg))
        have M1 := Lib.hid hm
        clear hm hg q1 q2 q3 K1 G0 M0 B0
        go_wp2_with (first | (go_at_call 153; with_reducible refine (KNname.out _).mono ?_; rintro e w' ⟨rfl, rfl⟩) | fail)
        refine (nameKey_c name w1 (by omega)).mono ?_
        rintro e w2 ⟨rfl, hb⟩
        have G2 := Lib.hid (show ∀ m' r e w', MStep p base x11 x12 x13 m' r w2 e w' → MStep p base v1 v2 v3 m' r w e w' from fun _ _ _ _ h => G1.out _ _ _ _ (MStep.next (Grow3.of_below hb) (.inl rfl) (.inl rfl) (.inl rfl) h))
        have B2 := Lib.hid (B1.out.trans (hb.mono M1.out.hb))
        have M2 := Lib.hid (M1.out.below hb)
        clear hb G1 M1 B1
        have K3 := Lib.hid (pLay_c p base x11 x12 x13 m1 m2 u2 (nK name) (noB) w2 M2.out (O1.out.mono (by omega)) (kle (show (nK name).size ≤ 1000 by have := @nK_size name; omega)) (by decide) HE2.out)
        go_wp2_with (first | (go_at_call 153; with_reducible refine (KNname.out _).mono ?_; rintro e w' ⟨rfl, rfl⟩) | fail)
        refine K3.out.mono ?_
        rintro e w3 ⟨x31, x32, x33, rfl, hm, hg, q1, q2, q3⟩
        have G3 := Lib.hid (show ∀ m' r e w', MStep p base x31 x32 x33 m' r w3 e w' → MStep p base v1 v2 v3 m' r w e w' from fun _ _ _ _ h => G2.out _ _ _ _ (MStep.next hg q1 q2 q3 h))
        have B3 := Lib.hid (B2.out.trans (M2.out.grow hg))
        have M3 := Lib.hid hm
        clear hm hg q1 q2 q3 K3 G2 M2 B2
        go_wp2_with (first | (go_at_call 153; with_reducible refine (KNname.out _).mono ?_; rintro e w' ⟨rfl, rfl⟩) | fail)
        refine (linksKey_c x1 w3 (i64_of bx1) (HTT.out _ B3.out)).mono ?_
        rintro e w4 ⟨rfl, hb⟩
        have G4 := Lib.hid (show ∀ m' r e w', MStep p base x31 x32 x33 m' r w4 e w' → MStep p base v1 v2 v3 m' r w e w' from fun _ _ _ _ h => G3.out _ _ _ _ (MStep.next (Grow3.of_below hb) (.inl rfl) (.inl rfl) (.inl rfl) h))
        have B4 := Lib.hid (B3.out.trans (hb.mono M3.out.hb))
        have M4 := Lib.hid (M3.out.below hb)
        clear hb G3 M3 B3
        have K5 := Lib.hid (pNum_c p base x31 x32 x33 m2 m3 x2 (linksK x1) w4 M4.out (O2.out.mono (by omega)) (fun W hW => HTT.out W (B4.out.trans hW)) HE3.out)
        go_wp2_with (first | (go_at_call 153; with_reducible refine (KNname.out _).mono ?_; rintro e w' ⟨rfl, rfl⟩) | fail)
        refine K5.out.mono ?_
        rintro e w5 ⟨x51, x52, x53, rfl, hm, hg, q1, q2, q3⟩
        have G5 := Lib.hid (show ∀ m' r e w', MStep p base x51 x52 x53 m' r w5 e w' → MStep p base v1 v2 v3 m' r w e w' from fun _ _ _ _ h => G4.out _ _ _ _ (MStep.next hg q1 q2 q3 h))
        have B5 := Lib.hid (B4.out.trans (M4.out.grow hg))
        have M5 := Lib.hid hm
        clear hm hg q1 q2 q3 K5 G4 M4 B4
        go_wp2_with (first | (go_at_call 153; with_reducible refine (KNname.out _).mono ?_; rintro e w' ⟨rfl, rfl⟩) | fail)
        refine (linksKey_c x1 w5 (i64_of bx1) (HTT.out _ B5.out)).mono ?_
        rintro e w6 ⟨rfl, hb⟩
        have G6 := Lib.hid (show ∀ m' r e w', MStep p base x51 x52 x53 m' r w6 e w' → MStep p base v1 v2 v3 m' r w e w' from fun _ _ _ _ h => G5.out _ _ _ _ (MStep.next (Grow3.of_below hb) (.inl rfl) (.inl rfl) (.inl rfl) h))
        have B6 := Lib.hid (B5.out.trans (hb.mono M5.out.hb))
        have M6 := Lib.hid (M5.out.below hb)
        clear hb G5 M5 B5
        have K7 := Lib.hid (pSet_c p base x51 x52 x53 m3 m4 u4 (linksK x1) (x2 - 1) w6 M6.out (O3.out.mono (by omega)) (kle (linksK_size (i64_of bx1))) (fun W hW => HTT.out W (B6.out.trans hW)) HE4.out)
        go_wp2_with (first | (go_at_call 153; with_reducible refine (KNname.out _).mono ?_; rintro e w' ⟨rfl, rfl⟩) | fail)
        refine K7.out.mono ?_
        rintro e w7 ⟨x71, x72, x73, rfl, hm, hg, q1, q2, q3⟩
        have G7 := Lib.hid (show ∀ m' r e w', MStep p base x71 x72 x73 m' r w7 e w' → MStep p base v1 v2 v3 m' r w e w' from fun _ _ _ _ h => G6.out _ _ _ _ (MStep.next hg q1 q2 q3 h))
        have B7 := Lib.hid (B6.out.trans (M6.out.grow hg))
        have M7 := Lib.hid hm
        clear hm hg q1 q2 q3 K7 G6 M6 B6
        have HEND := Lib.hid (show MStep p base v1 v2 v3 _ (.int .i64 0) w (.returned (.int .i64 0)) w7 from G7.out _ _ _ _ (M7.out.step (Below.refl _ _) _))
        clear G7 M7 B7
        go_wp2_with (first | (go_at_call 153; with_reducible refine (KNname.out _).mono ?_; rintro e w' ⟨rfl, rfl⟩) | fail)
        go_ret
        exact HEND.out
      · obtain ⟨m4, u4, E4⟩ : ∃ aa bb, (wipeP (fileK x1)).run m3 = (aa, bb) := ⟨_, _, rfl⟩
        have O4 := Lib.hid ((wipeP_cost _).okE O3.out E4)
        have HE4 := Lib.hid E4
        clear E4
        obtain ⟨e1, e2⟩ := Prod.mk.inj ((show (m4, 0) = (unlinkP name).run m from by
          unfold unlinkP
          simp only [Pg.run_bind, Pg.run_pure, Pg.run_ret, ↓reduceIte, Bool.false_eq_true, Bool.true_and, Bool.and_true, Bool.and_self, Bool.false_and, Bool.and_false, or_false, false_or, true_or, or_true, ne_eq, not_true_eq_false, not_false_eq_true, eq_self_iff_true, decide_true, decide_false, C1.out, HE1.out, c2, HE2.out, HE3.out, c3, HE4.out]).trans HE.out)
        subst e1 e2
        have G0 := Lib.hid (show ∀ m' r e w', MStep p base v1 v2 v3 m' r w e w' → MStep p base v1 v2 v3 m' r w e w' from fun _ _ _ _ h => h)
        have M0 := Lib.hid H.out
        have B0 := Lib.hid (Below.refl base w)
        clear HE
        go_enter Tryz.func100, Tryz.ntmps100
        have K1 := Lib.hid (pFileOf_c p base v1 v2 v3 m m1 x1 name w M0.out (O0.out.mono (by omega)) (Nat.le_trans hs (by decide)) (fun W hW => HTT.out W (B0.out.trans hW)) HE1.out)
        go_wp2_with (first | (go_at_call 153; with_reducible refine (KNname.out _).mono ?_; rintro e w' ⟨rfl, rfl⟩) | fail)
        refine K1.out.mono ?_
        rintro e w1 ⟨x11, x12, x13, rfl, hm, hg, q1, q2, q3⟩
        have G1 := Lib.hid (show ∀ m' r e w', MStep p base x11 x12 x13 m' r w1 e w' → MStep p base v1 v2 v3 m' r w e w' from fun _ _ _ _ h => G0.out _ _ _ _ (MStep.next hg q1 q2 q3 h))
        have B1 := Lib.hid (B0.out.trans (M0.out.grow hg))
        have M1 := Lib.hid hm
        clear hm hg q1 q2 q3 K1 G0 M0 B0
        go_wp2_with (first | (go_at_call 153; with_reducible refine (KNname.out _).mono ?_; rintro e w' ⟨rfl, rfl⟩) | fail)
        refine (nameKey_c name w1 (by omega)).mono ?_
        rintro e w2 ⟨rfl, hb⟩
        have G2 := Lib.hid (show ∀ m' r e w', MStep p base x11 x12 x13 m' r w2 e w' → MStep p base v1 v2 v3 m' r w e w' from fun _ _ _ _ h => G1.out _ _ _ _ (MStep.next (Grow3.of_below hb) (.inl rfl) (.inl rfl) (.inl rfl) h))
        have B2 := Lib.hid (B1.out.trans (hb.mono M1.out.hb))
        have M2 := Lib.hid (M1.out.below hb)
        clear hb G1 M1 B1
        have K3 := Lib.hid (pLay_c p base x11 x12 x13 m1 m2 u2 (nK name) (noB) w2 M2.out (O1.out.mono (by omega)) (kle (show (nK name).size ≤ 1000 by have := @nK_size name; omega)) (by decide) HE2.out)
        go_wp2_with (first | (go_at_call 153; with_reducible refine (KNname.out _).mono ?_; rintro e w' ⟨rfl, rfl⟩) | fail)
        refine K3.out.mono ?_
        rintro e w3 ⟨x31, x32, x33, rfl, hm, hg, q1, q2, q3⟩
        have G3 := Lib.hid (show ∀ m' r e w', MStep p base x31 x32 x33 m' r w3 e w' → MStep p base v1 v2 v3 m' r w e w' from fun _ _ _ _ h => G2.out _ _ _ _ (MStep.next hg q1 q2 q3 h))
        have B3 := Lib.hid (B2.out.trans (M2.out.grow hg))
        have M3 := Lib.hid hm
        clear hm hg q1 q2 q3 K3 G2 M2 B2
        go_wp2_with (first | (go_at_call 153; with_reducible refine (KNname.out _).mono ?_; rintro e w' ⟨rfl, rfl⟩) | fail)
        refine (linksKey_c x1 w3 (i64_of bx1) (HTT.out _ B3.out)).mono ?_
        rintro e w4 ⟨rfl, hb⟩
        have G4 := Lib.hid (show ∀ m' r e w', MStep p base x31 x32 x33 m' r w4 e w' → MStep p base v1 v2 v3 m' r w e w' from fun _ _ _ _ h => G3.out _ _ _ _ (MStep.next (Grow3.of_below hb) (.inl rfl) (.inl rfl) (.inl rfl) h))
        have B4 := Lib.hid (B3.out.trans (hb.mono M3.out.hb))
        have M4 := Lib.hid (M3.out.below hb)
        clear hb G3 M3 B3
        have K5 := Lib.hid (pNum_c p base x31 x32 x33 m2 m3 x2 (linksK x1) w4 M4.out (O2.out.mono (by omega)) (fun W hW => HTT.out W (B4.out.trans hW)) HE3.out)
        go_wp2_with (first | (go_at_call 153; with_reducible refine (KNname.out _).mono ?_; rintro e w' ⟨rfl, rfl⟩) | fail)
        refine K5.out.mono ?_
        rintro e w5 ⟨x51, x52, x53, rfl, hm, hg, q1, q2, q3⟩
        have G5 := Lib.hid (show ∀ m' r e w', MStep p base x51 x52 x53 m' r w5 e w' → MStep p base v1 v2 v3 m' r w e w' from fun _ _ _ _ h => G4.out _ _ _ _ (MStep.next hg q1 q2 q3 h))
        have B5 := Lib.hid (B4.out.trans (M4.out.grow hg))
        have M5 := Lib.hid hm
        clear hm hg q1 q2 q3 K5 G4 M4 B4
        go_wp2_with (first | (go_at_call 153; with_reducible refine (KNname.out _).mono ?_; rintro e w' ⟨rfl, rfl⟩) | fail)
        refine (implKeyNum2_c ⟨#[105, 47]⟩ x1 ⟨#[47]⟩ w5 (i64_of bx1) (by decide) (by decide) (HTT.out _ B5.out)).mono ?_
        rintro e w6 ⟨rfl, hb⟩
        have G6 := Lib.hid (show ∀ m' r e w', MStep p base x51 x52 x53 m' r w6 e w' → MStep p base v1 v2 v3 m' r w e w' from fun _ _ _ _ h => G5.out _ _ _ _ (MStep.next (Grow3.of_below hb) (.inl rfl) (.inl rfl) (.inl rfl) h))
        have B6 := Lib.hid (B5.out.trans (hb.mono M5.out.hb))
        have M6 := Lib.hid (M5.out.below hb)
        clear hb G5 M5 B5
        have K7 := Lib.hid (pWipe_c p base x51 x52 x53 m3 m4 u4 (fileK x1) w6 M6.out (O3.out.mono (by omega)) (fileK_size (i64_of bx1)) HE4.out)
        go_wp2_with (first | (go_at_call 153; with_reducible refine (KNname.out _).mono ?_; rintro e w' ⟨rfl, rfl⟩) | fail)
        refine K7.out.mono ?_
        rintro e w7 ⟨x71, x72, x73, rfl, hm, hg, q1, q2, q3⟩
        have G7 := Lib.hid (show ∀ m' r e w', MStep p base x71 x72 x73 m' r w7 e w' → MStep p base v1 v2 v3 m' r w e w' from fun _ _ _ _ h => G6.out _ _ _ _ (MStep.next hg q1 q2 q3 h))
        have B7 := Lib.hid (B6.out.trans (M6.out.grow hg))
        have M7 := Lib.hid hm
        clear hm hg q1 q2 q3 K7 G6 M6 B6
        have HEND := Lib.hid (show MStep p base v1 v2 v3 _ (.int .i64 0) w (.returned (.int .i64 0)) w7 from G7.out _ _ _ _ (M7.out.step (Below.refl _ _) _))
        clear G7 M7 B7
        go_wp2_with (first | (go_at_call 153; with_reducible refine (KNname.out _).mono ?_; rintro e w' ⟨rfl, rfl⟩) | fail)
        go_ret
        exact HEND.out
  · have C1 := Lib.hid (Bool.eq_false_iff.2 c1)
    clear c1
    have KNname := Lib.hid (fun W => implNameOk_c name W (kle (Nat.le_trans hs (by decide))))
    rw [C1.out] at KNname
    obtain ⟨e1, e2⟩ := Prod.mk.inj ((show (m, 4) = (unlinkP name).run m from by
      unfold unlinkP
      simp only [Pg.run_bind, Pg.run_pure, Pg.run_ret, ↓reduceIte, Bool.false_eq_true, Bool.true_and, Bool.and_true, Bool.and_self, Bool.false_and, Bool.and_false, or_false, false_or, true_or, or_true, ne_eq, not_true_eq_false, not_false_eq_true, eq_self_iff_true, decide_true, decide_false, C1.out]).trans HE.out)
    subst e1 e2
    have G0 := Lib.hid (show ∀ m' r e w', MStep p base v1 v2 v3 m' r w e w' → MStep p base v1 v2 v3 m' r w e w' from fun _ _ _ _ h => h)
    have M0 := Lib.hid H.out
    have B0 := Lib.hid (Below.refl base w)
    clear HE
    go_enter Tryz.func100, Tryz.ntmps100
    have HEND := Lib.hid (show MStep p base v1 v2 v3 _ (.int .i64 4) w (.returned (.int .i64 4)) w from G0.out _ _ _ _ (M0.out.step (Below.refl _ _) _))
    clear G0 M0 B0
    go_wp2_with (first | (go_at_call 153; with_reducible refine (KNname.out _).mono ?_; rintro e w' ⟨rfl, rfl⟩) | fail)
    go_ret
    exact HEND.out

set_option maxRecDepth 100000 in
set_option maxHeartbeats 8000000 in
theorem pRename_c (p base : Nat) (v1 v2 v3 : Value) (m m' : Mch) (x : Int) (a : ByteArray) (b : ByteArray) (w : World) (h : MAt w p base v1 v2 v3 m) (ho : MOk 700000000000 m) (hs : a.size ≤ 900) (hs2 : b.size ≤ 900) (HT : ∀ W, Below base w W → Tabs W) (E : (renameP a b).run m = (m', x)) :
    Calls Tryz.prog 101 #[.pointer (some ⟨p, 0, none⟩), .string a, .string b] w (MStep p base v1 v2 v3 m' (.int .i64 x) w) := by
  have H := Lib.hid h
  have HTT := Lib.hid HT
  have O0 := Lib.hid ho
  have HE := Lib.hid E
  clear h ho HT E
  by_cases c1 : nameOkB a = true
  · have C1 := Lib.hid c1
    clear c1
    have KNa := Lib.hid (fun W => implNameOk_c a W (kle (Nat.le_trans hs (by decide))))
    rw [C1.out] at KNa
    by_cases c2 : nameOkB b = true
    · have C2 := Lib.hid c2
      clear c2
      have KNb := Lib.hid (fun W => implNameOk_c b W (kle (Nat.le_trans hs2 (by decide))))
      rw [C2.out] at KNb
      obtain ⟨m1, x1, E1⟩ : ∃ aa bb, (fileOfP a).run m = (aa, bb) := ⟨_, _, rfl⟩
      have bx1 := fileOfP_bounds E1
      have O1 := Lib.hid ((fileOfP_cost _).okE O0.out E1)
      have HE1 := Lib.hid E1
      clear E1
      by_cases c3 : x1 = 0
      · subst c3
        obtain ⟨e1, e2⟩ := Prod.mk.inj ((show (m1, 2) = (renameP a b).run m from by
          unfold renameP
          simp only [Pg.run_bind, Pg.run_pure, Pg.run_ret, ↓reduceIte, Bool.false_eq_true, Bool.true_and, Bool.and_true, Bool.and_self, Bool.false_and, Bool.and_false, or_false, false_or, true_or, or_true, ne_eq, not_true_eq_false, not_false_eq_true, eq_self_iff_true, decide_true, decide_false, C1.out, C2.out, HE1.out]).trans HE.out)
        subst e1 e2
        have G0 := Lib.hid (show ∀ m' r e w', MStep p base v1 v2 v3 m' r w e w' → MStep p base v1 v2 v3 m' r w e w' from fun _ _ _ _ h => h)
        have M0 := Lib.hid H.out
        have B0 := Lib.hid (Below.refl base w)
        clear HE
        go_enter Tryz.func101, Tryz.ntmps101
        have K1 := Lib.hid (pFileOf_c p base v1 v2 v3 m m1 (0) a w M0.out (O0.out.mono (by omega)) (Nat.le_trans hs (by decide)) (fun W hW => HTT.out W (B0.out.trans hW)) HE1.out)
        go_wp2_with (first | (go_at_call 153; with_reducible refine (KNa.out _).mono ?_; rintro e w' ⟨rfl, rfl⟩) | (go_at_call 153; with_reducible refine (KNb.out _).mono ?_; rintro e w' ⟨rfl, rfl⟩) | fail)
        refine K1.out.mono ?_
        rintro e w1 ⟨x11, x12, x13, rfl, hm, hg, q1, q2, q3⟩
        have G1 := Lib.hid (show ∀ m' r e w', MStep p base x11 x12 x13 m' r w1 e w' → MStep p base v1 v2 v3 m' r w e w' from fun _ _ _ _ h => G0.out _ _ _ _ (MStep.next hg q1 q2 q3 h))
        have B1 := Lib.hid (B0.out.trans (M0.out.grow hg))
        have M1 := Lib.hid hm
        clear hm hg q1 q2 q3 K1 G0 M0 B0
        have HEND := Lib.hid (show MStep p base v1 v2 v3 _ (.int .i64 2) w (.returned (.int .i64 2)) w1 from G1.out _ _ _ _ (M1.out.step (Below.refl _ _) _))
        clear G1 M1 B1
        go_wp2_with (first | (go_at_call 153; with_reducible refine (KNa.out _).mono ?_; rintro e w' ⟨rfl, rfl⟩) | (go_at_call 153; with_reducible refine (KNb.out _).mono ?_; rintro e w' ⟨rfl, rfl⟩) | fail)
        go_ret
        exact HEND.out
      · obtain ⟨m2, x2, E2⟩ : ∃ aa bb, (fileOfP b).run m1 = (aa, bb) := ⟨_, _, rfl⟩
        have bx2 := fileOfP_bounds E2
        have O2 := Lib.hid ((fileOfP_cost _).okE O1.out E2)
        have HE2 := Lib.hid E2
        clear E2
        by_cases c4 : x2 = x1
        · subst c4
          obtain ⟨e1, e2⟩ := Prod.mk.inj ((show (m2, 0) = (renameP a b).run m from by
            unfold renameP
            simp only [Pg.run_bind, Pg.run_pure, Pg.run_ret, ↓reduceIte, Bool.false_eq_true, Bool.true_and, Bool.and_true, Bool.and_self, Bool.false_and, Bool.and_false, or_false, false_or, true_or, or_true, ne_eq, not_true_eq_false, not_false_eq_true, eq_self_iff_true, decide_true, decide_false, C1.out, C2.out, HE1.out, c3, HE2.out]).trans HE.out)
          subst e1 e2
          have G0 := Lib.hid (show ∀ m' r e w', MStep p base v1 v2 v3 m' r w e w' → MStep p base v1 v2 v3 m' r w e w' from fun _ _ _ _ h => h)
          have M0 := Lib.hid H.out
          have B0 := Lib.hid (Below.refl base w)
          clear HE
          go_enter Tryz.func101, Tryz.ntmps101
          have K1 := Lib.hid (pFileOf_c p base v1 v2 v3 m m1 x2 a w M0.out (O0.out.mono (by omega)) (Nat.le_trans hs (by decide)) (fun W hW => HTT.out W (B0.out.trans hW)) HE1.out)
          go_wp2_with (first | (go_at_call 153; with_reducible refine (KNa.out _).mono ?_; rintro e w' ⟨rfl, rfl⟩) | (go_at_call 153; with_reducible refine (KNb.out _).mono ?_; rintro e w' ⟨rfl, rfl⟩) | fail)
          refine K1.out.mono ?_
          rintro e w1 ⟨x11, x12, x13, rfl, hm, hg, q1, q2, q3⟩
          have G1 := Lib.hid (show ∀ m' r e w', MStep p base x11 x12 x13 m' r w1 e w' → MStep p base v1 v2 v3 m' r w e w' from fun _ _ _ _ h => G0.out _ _ _ _ (MStep.next hg q1 q2 q3 h))
          have B1 := Lib.hid (B0.out.trans (M0.out.grow hg))
          have M1 := Lib.hid hm
          clear hm hg q1 q2 q3 K1 G0 M0 B0
          have K2 := Lib.hid (pFileOf_c p base x11 x12 x13 m1 m2 x2 b w1 M1.out (O1.out.mono (by omega)) (Nat.le_trans hs2 (by decide)) (fun W hW => HTT.out W (B1.out.trans hW)) HE2.out)
          go_wp2_with (first | (go_at_call 153; with_reducible refine (KNa.out _).mono ?_; rintro e w' ⟨rfl, rfl⟩) | (go_at_call 153; with_reducible refine (KNb.out _).mono ?_; rintro e w' ⟨rfl, rfl⟩) | fail)
          refine K2.out.mono ?_
          rintro e w2 ⟨x21, x22, x23, rfl, hm, hg, q1, q2, q3⟩
          have G2 := Lib.hid (show ∀ m' r e w', MStep p base x21 x22 x23 m' r w2 e w' → MStep p base v1 v2 v3 m' r w e w' from fun _ _ _ _ h => G1.out _ _ _ _ (MStep.next hg q1 q2 q3 h))
          have B2 := Lib.hid (B1.out.trans (M1.out.grow hg))
          have M2 := Lib.hid hm
          clear hm hg q1 q2 q3 K2 G1 M1 B1
          have HEND := Lib.hid (show MStep p base v1 v2 v3 _ (.int .i64 0) w (.returned (.int .i64 0)) w2 from G2.out _ _ _ _ (M2.out.step (Below.refl _ _) _))
          clear G2 M2 B2
          go_wp2_with (first | (go_at_call 153; with_reducible refine (KNa.out _).mono ?_; rintro e w' ⟨rfl, rfl⟩) | (go_at_call 153; with_reducible refine (KNb.out _).mono ?_; rintro e w' ⟨rfl, rfl⟩) | fail)
          go_ret
          exact HEND.out
        · by_cases c5 : x2 = 0
          · subst c5
            obtain ⟨m3, u3, E3⟩ : ∃ aa bb, (setP (nK b) (x1)).run m2 = (aa, bb) := ⟨_, _, rfl⟩
            have O3 := Lib.hid ((setP_cost _ _).okE O2.out E3)
            have HE3 := Lib.hid E3
            clear E3
            obtain ⟨m4, u4, E4⟩ : ∃ aa bb, (layP (nK a) (noB)).run m3 = (aa, bb) := ⟨_, _, rfl⟩
            have O4 := Lib.hid ((layP_cost _ _).okE O3.out E4)
            have HE4 := Lib.hid E4
            clear E4
            obtain ⟨e1, e2⟩ := Prod.mk.inj ((show (m4, 0) = (renameP a b).run m from by
              unfold renameP
              simp only [Pg.run_bind, Pg.run_pure, Pg.run_ret, ↓reduceIte, Bool.false_eq_true, Bool.true_and, Bool.and_true, Bool.and_self, Bool.false_and, Bool.and_false, or_false, false_or, true_or, or_true, ne_eq, not_true_eq_false, not_false_eq_true, eq_self_iff_true, decide_true, decide_false, C1.out, C2.out, HE1.out, c3, HE2.out, c4, HE3.out, HE4.out]).trans HE.out)
            subst e1 e2
            have G0 := Lib.hid (show ∀ m' r e w', MStep p base v1 v2 v3 m' r w e w' → MStep p base v1 v2 v3 m' r w e w' from fun _ _ _ _ h => h)
            have M0 := Lib.hid H.out
            have B0 := Lib.hid (Below.refl base w)
            clear HE
            go_enter Tryz.func101, Tryz.ntmps101
            have K1 := Lib.hid (pFileOf_c p base v1 v2 v3 m m1 x1 a w M0.out (O0.out.mono (by omega)) (Nat.le_trans hs (by decide)) (fun W hW => HTT.out W (B0.out.trans hW)) HE1.out)
            go_wp2_with (first | (go_at_call 153; with_reducible refine (KNa.out _).mono ?_; rintro e w' ⟨rfl, rfl⟩) | (go_at_call 153; with_reducible refine (KNb.out _).mono ?_; rintro e w' ⟨rfl, rfl⟩) | fail)
            refine K1.out.mono ?_
            rintro e w1 ⟨x11, x12, x13, rfl, hm, hg, q1, q2, q3⟩
            have G1 := Lib.hid (show ∀ m' r e w', MStep p base x11 x12 x13 m' r w1 e w' → MStep p base v1 v2 v3 m' r w e w' from fun _ _ _ _ h => G0.out _ _ _ _ (MStep.next hg q1 q2 q3 h))
            have B1 := Lib.hid (B0.out.trans (M0.out.grow hg))
            have M1 := Lib.hid hm
            clear hm hg q1 q2 q3 K1 G0 M0 B0
            have K2 := Lib.hid (pFileOf_c p base x11 x12 x13 m1 m2 (0) b w1 M1.out (O1.out.mono (by omega)) (Nat.le_trans hs2 (by decide)) (fun W hW => HTT.out W (B1.out.trans hW)) HE2.out)
            go_wp2_with (first | (go_at_call 153; with_reducible refine (KNa.out _).mono ?_; rintro e w' ⟨rfl, rfl⟩) | (go_at_call 153; with_reducible refine (KNb.out _).mono ?_; rintro e w' ⟨rfl, rfl⟩) | fail)
            refine K2.out.mono ?_
            rintro e w2 ⟨x21, x22, x23, rfl, hm, hg, q1, q2, q3⟩
            have G2 := Lib.hid (show ∀ m' r e w', MStep p base x21 x22 x23 m' r w2 e w' → MStep p base v1 v2 v3 m' r w e w' from fun _ _ _ _ h => G1.out _ _ _ _ (MStep.next hg q1 q2 q3 h))
            have B2 := Lib.hid (B1.out.trans (M1.out.grow hg))
            have M2 := Lib.hid hm
            clear hm hg q1 q2 q3 K2 G1 M1 B1
            go_wp2_with (first | (go_at_call 153; with_reducible refine (KNa.out _).mono ?_; rintro e w' ⟨rfl, rfl⟩) | (go_at_call 153; with_reducible refine (KNb.out _).mono ?_; rintro e w' ⟨rfl, rfl⟩) | fail)
            refine (nameKey_c b w2 (by omega)).mono ?_
            rintro e w3 ⟨rfl, hb⟩
            have G3 := Lib.hid (show ∀ m' r e w', MStep p base x21 x22 x23 m' r w3 e w' → MStep p base v1 v2 v3 m' r w e w' from fun _ _ _ _ h => G2.out _ _ _ _ (MStep.next (Grow3.of_below hb) (.inl rfl) (.inl rfl) (.inl rfl) h))
            have B3 := Lib.hid (B2.out.trans (hb.mono M2.out.hb))
            have M3 := Lib.hid (M2.out.below hb)
            clear hb G2 M2 B2
            have K4 := Lib.hid (pSet_c p base x21 x22 x23 m2 m3 u3 (nK b) (x1) w3 M3.out (O2.out.mono (by omega)) (kle (show (nK b).size ≤ 1000 by have := @nK_size b; omega)) (fun W hW => HTT.out W (B3.out.trans hW)) HE3.out)
            go_wp2_with (first | (go_at_call 153; with_reducible refine (KNa.out _).mono ?_; rintro e w' ⟨rfl, rfl⟩) | (go_at_call 153; with_reducible refine (KNb.out _).mono ?_; rintro e w' ⟨rfl, rfl⟩) | fail)
            refine K4.out.mono ?_
            rintro e w4 ⟨x41, x42, x43, rfl, hm, hg, q1, q2, q3⟩
            have G4 := Lib.hid (show ∀ m' r e w', MStep p base x41 x42 x43 m' r w4 e w' → MStep p base v1 v2 v3 m' r w e w' from fun _ _ _ _ h => G3.out _ _ _ _ (MStep.next hg q1 q2 q3 h))
            have B4 := Lib.hid (B3.out.trans (M3.out.grow hg))
            have M4 := Lib.hid hm
            clear hm hg q1 q2 q3 K4 G3 M3 B3
            go_wp2_with (first | (go_at_call 153; with_reducible refine (KNa.out _).mono ?_; rintro e w' ⟨rfl, rfl⟩) | (go_at_call 153; with_reducible refine (KNb.out _).mono ?_; rintro e w' ⟨rfl, rfl⟩) | fail)
            refine (nameKey_c a w4 (by omega)).mono ?_
            rintro e w5 ⟨rfl, hb⟩
            have G5 := Lib.hid (show ∀ m' r e w', MStep p base x41 x42 x43 m' r w5 e w' → MStep p base v1 v2 v3 m' r w e w' from fun _ _ _ _ h => G4.out _ _ _ _ (MStep.next (Grow3.of_below hb) (.inl rfl) (.inl rfl) (.inl rfl) h))
            have B5 := Lib.hid (B4.out.trans (hb.mono M4.out.hb))
            have M5 := Lib.hid (M4.out.below hb)
            clear hb G4 M4 B4
            have K6 := Lib.hid (pLay_c p base x41 x42 x43 m3 m4 u4 (nK a) (noB) w5 M5.out (O3.out.mono (by omega)) (kle (show (nK a).size ≤ 1000 by have := @nK_size a; omega)) (by decide) HE4.out)
            go_wp2_with (first | (go_at_call 153; with_reducible refine (KNa.out _).mono ?_; rintro e w' ⟨rfl, rfl⟩) | (go_at_call 153; with_reducible refine (KNb.out _).mono ?_; rintro e w' ⟨rfl, rfl⟩) | fail)
            refine K6.out.mono ?_
            rintro e w6 ⟨x61, x62, x63, rfl, hm, hg, q1, q2, q3⟩
            have G6 := Lib.hid (show ∀ m' r e w', MStep p base x61 x62 x63 m' r w6 e w' → MStep p base v1 v2 v3 m' r w e w' from fun _ _ _ _ h => G5.out _ _ _ _ (MStep.next hg q1 q2 q3 h))
            have B6 := Lib.hid (B5.out.trans (M5.out.grow hg))
            have M6 := Lib.hid hm
            clear hm hg q1 q2 q3 K6 G5 M5 B5
            have HEND := Lib.hid (show MStep p base v1 v2 v3 _ (.int .i64 0) w (.returned (.int .i64 0)) w6 from G6.out _ _ _ _ (M6.out.step (Below.refl _ _) _))
            clear G6 M6 B6
            go_wp2_with (first | (go_at_call 153; with_reducible refine (KNa.out _).mono ?_; rintro e w' ⟨rfl, rfl⟩) | (go_at_call 153; with_reducible refine (KNb.out _).mono ?_; rintro e w' ⟨rfl, rfl⟩) | fail)
            go_ret
            exact HEND.out
          · obtain ⟨m3, xu, E3⟩ : ∃ aa bb, (unlinkP b).run m2 = (aa, bb) := ⟨_, _, rfl⟩
            have O3 := Lib.hid ((unlinkP_cost _).okE O2.out E3)
            have HE3 := Lib.hid E3
            clear E3
            obtain ⟨m4, u4, E4⟩ : ∃ aa bb, (setP (nK b) (x1)).run m3 = (aa, bb) := ⟨_, _, rfl⟩
            have O4 := Lib.hid ((setP_cost _ _).okE O3.out E4)
            have HE4 := Lib.hid E4
            clear E4
            obtain ⟨m5, u5, E5⟩ : ∃ aa bb, (layP (nK a) (noB)).run m4 = (aa, bb) := ⟨_, _, rfl⟩
            have O5 := Lib.hid ((layP_cost _ _).okE O4.out E5)
            have HE5 := Lib.hid E5
            clear E5
            obtain ⟨e1, e2⟩ := Prod.mk.inj ((show (m5, 0) = (renameP a b).run m from by
              unfold renameP
              simp only [Pg.run_bind, Pg.run_pure, Pg.run_ret, ↓reduceIte, Bool.false_eq_true, Bool.true_and, Bool.and_true, Bool.and_self, Bool.false_and, Bool.and_false, or_false, false_or, true_or, or_true, ne_eq, not_true_eq_false, not_false_eq_true, eq_self_iff_true, decide_true, decide_false, C1.out, C2.out, HE1.out, c3, HE2.out, c4, c5, HE3.out, HE4.out, HE5.out]).trans HE.out)
            subst e1 e2
            have G0 := Lib.hid (show ∀ m' r e w', MStep p base v1 v2 v3 m' r w e w' → MStep p base v1 v2 v3 m' r w e w' from fun _ _ _ _ h => h)
            have M0 := Lib.hid H.out
            have B0 := Lib.hid (Below.refl base w)
            clear HE
            go_enter Tryz.func101, Tryz.ntmps101
            have K1 := Lib.hid (pFileOf_c p base v1 v2 v3 m m1 x1 a w M0.out (O0.out.mono (by omega)) (Nat.le_trans hs (by decide)) (fun W hW => HTT.out W (B0.out.trans hW)) HE1.out)
            go_wp2_with (first | (go_at_call 153; with_reducible refine (KNa.out _).mono ?_; rintro e w' ⟨rfl, rfl⟩) | (go_at_call 153; with_reducible refine (KNb.out _).mono ?_; rintro e w' ⟨rfl, rfl⟩) | fail)
            refine K1.out.mono ?_
            rintro e w1 ⟨x11, x12, x13, rfl, hm, hg, q1, q2, q3⟩
            have G1 := Lib.hid (show ∀ m' r e w', MStep p base x11 x12 x13 m' r w1 e w' → MStep p base v1 v2 v3 m' r w e w' from fun _ _ _ _ h => G0.out _ _ _ _ (MStep.next hg q1 q2 q3 h))
            have B1 := Lib.hid (B0.out.trans (M0.out.grow hg))
            have M1 := Lib.hid hm
            clear hm hg q1 q2 q3 K1 G0 M0 B0
            have K2 := Lib.hid (pFileOf_c p base x11 x12 x13 m1 m2 x2 b w1 M1.out (O1.out.mono (by omega)) (Nat.le_trans hs2 (by decide)) (fun W hW => HTT.out W (B1.out.trans hW)) HE2.out)
            go_wp2_with (first | (go_at_call 153; with_reducible refine (KNa.out _).mono ?_; rintro e w' ⟨rfl, rfl⟩) | (go_at_call 153; with_reducible refine (KNb.out _).mono ?_; rintro e w' ⟨rfl, rfl⟩) | fail)
            refine K2.out.mono ?_
            rintro e w2 ⟨x21, x22, x23, rfl, hm, hg, q1, q2, q3⟩
            have G2 := Lib.hid (show ∀ m' r e w', MStep p base x21 x22 x23 m' r w2 e w' → MStep p base v1 v2 v3 m' r w e w' from fun _ _ _ _ h => G1.out _ _ _ _ (MStep.next hg q1 q2 q3 h))
            have B2 := Lib.hid (B1.out.trans (M1.out.grow hg))
            have M2 := Lib.hid hm
            clear hm hg q1 q2 q3 K2 G1 M1 B1
            have K3 := Lib.hid (pUnlink_c p base x21 x22 x23 m2 m3 xu b w2 M2.out (O2.out.mono (by omega)) hs2 (fun W hW => HTT.out W (B2.out.trans hW)) HE3.out)
            go_wp2_with (first | (go_at_call 153; with_reducible refine (KNa.out _).mono ?_; rintro e w' ⟨rfl, rfl⟩) | (go_at_call 153; with_reducible refine (KNb.out _).mono ?_; rintro e w' ⟨rfl, rfl⟩) | fail)
            refine K3.out.mono ?_
            rintro e w3 ⟨x31, x32, x33, rfl, hm, hg, q1, q2, q3⟩
            have G3 := Lib.hid (show ∀ m' r e w', MStep p base x31 x32 x33 m' r w3 e w' → MStep p base v1 v2 v3 m' r w e w' from fun _ _ _ _ h => G2.out _ _ _ _ (MStep.next hg q1 q2 q3 h))
            have B3 := Lib.hid (B2.out.trans (M2.out.grow hg))
            have M3 := Lib.hid hm
            clear hm hg q1 q2 q3 K3 G2 M2 B2
            go_wp2_with (first | (go_at_call 153; with_reducible refine (KNa.out _).mono ?_; rintro e w' ⟨rfl, rfl⟩) | (go_at_call 153; with_reducible refine (KNb.out _).mono ?_; rintro e w' ⟨rfl, rfl⟩) | fail)
            refine (nameKey_c b w3 (by omega)).mono ?_
            rintro e w4 ⟨rfl, hb⟩
            have G4 := Lib.hid (show ∀ m' r e w', MStep p base x31 x32 x33 m' r w4 e w' → MStep p base v1 v2 v3 m' r w e w' from fun _ _ _ _ h => G3.out _ _ _ _ (MStep.next (Grow3.of_below hb) (.inl rfl) (.inl rfl) (.inl rfl) h))
            have B4 := Lib.hid (B3.out.trans (hb.mono M3.out.hb))
            have M4 := Lib.hid (M3.out.below hb)
            clear hb G3 M3 B3
            have K5 := Lib.hid (pSet_c p base x31 x32 x33 m3 m4 u4 (nK b) (x1) w4 M4.out (O3.out.mono (by omega)) (kle (show (nK b).size ≤ 1000 by have := @nK_size b; omega)) (fun W hW => HTT.out W (B4.out.trans hW)) HE4.out)
            go_wp2_with (first | (go_at_call 153; with_reducible refine (KNa.out _).mono ?_; rintro e w' ⟨rfl, rfl⟩) | (go_at_call 153; with_reducible refine (KNb.out _).mono ?_; rintro e w' ⟨rfl, rfl⟩) | fail)
            refine K5.out.mono ?_
            rintro e w5 ⟨x51, x52, x53, rfl, hm, hg, q1, q2, q3⟩
            have G5 := Lib.hid (show ∀ m' r e w', MStep p base x51 x52 x53 m' r w5 e w' → MStep p base v1 v2 v3 m' r w e w' from fun _ _ _ _ h => G4.out _ _ _ _ (MStep.next hg q1 q2 q3 h))
            have B5 := Lib.hid (B4.out.trans (M4.out.grow hg))
            have M5 := Lib.hid hm
            clear hm hg q1 q2 q3 K5 G4 M4 B4
            go_wp2_with (first | (go_at_call 153; with_reducible refine (KNa.out _).mono ?_; rintro e w' ⟨rfl, rfl⟩) | (go_at_call 153; with_reducible refine (KNb.out _).mono ?_; rintro e w' ⟨rfl, rfl⟩) | fail)
            refine (nameKey_c a w5 (by omega)).mono ?_
            rintro e w6 ⟨rfl, hb⟩
            have G6 := Lib.hid (show ∀ m' r e w', MStep p base x51 x52 x53 m' r w6 e w' → MStep p base v1 v2 v3 m' r w e w' from fun _ _ _ _ h => G5.out _ _ _ _ (MStep.next (Grow3.of_below hb) (.inl rfl) (.inl rfl) (.inl rfl) h))
            have B6 := Lib.hid (B5.out.trans (hb.mono M5.out.hb))
            have M6 := Lib.hid (M5.out.below hb)
            clear hb G5 M5 B5
            have K7 := Lib.hid (pLay_c p base x51 x52 x53 m4 m5 u5 (nK a) (noB) w6 M6.out (O4.out.mono (by omega)) (kle (show (nK a).size ≤ 1000 by have := @nK_size a; omega)) (by decide) HE5.out)
            go_wp2_with (first | (go_at_call 153; with_reducible refine (KNa.out _).mono ?_; rintro e w' ⟨rfl, rfl⟩) | (go_at_call 153; with_reducible refine (KNb.out _).mono ?_; rintro e w' ⟨rfl, rfl⟩) | fail)
            refine K7.out.mono ?_
            rintro e w7 ⟨x71, x72, x73, rfl, hm, hg, q1, q2, q3⟩
            have G7 := Lib.hid (show ∀ m' r e w', MStep p base x71 x72 x73 m' r w7 e w' → MStep p base v1 v2 v3 m' r w e w' from fun _ _ _ _ h => G6.out _ _ _ _ (MStep.next hg q1 q2 q3 h))
            have B7 := Lib.hid (B6.out.trans (M6.out.grow hg))
            have M7 := Lib.hid hm
            clear hm hg q1 q2 q3 K7 G6 M6 B6
            have HEND := Lib.hid (show MStep p base v1 v2 v3 _ (.int .i64 0) w (.returned (.int .i64 0)) w7 from G7.out _ _ _ _ (M7.out.step (Below.refl _ _) _))
            clear G7 M7 B7
            go_wp2_with (first | (go_at_call 153; with_reducible refine (KNa.out _).mono ?_; rintro e w' ⟨rfl, rfl⟩) | (go_at_call 153; with_reducible refine (KNb.out _).mono ?_; rintro e w' ⟨rfl, rfl⟩) | fail)
            go_ret
            exact HEND.out
    · have C2 := Lib.hid (Bool.eq_false_iff.2 c2)
      clear c2
      have KNb := Lib.hid (fun W => implNameOk_c b W (kle (Nat.le_trans hs2 (by decide))))
      rw [C2.out] at KNb
      obtain ⟨e1, e2⟩ := Prod.mk.inj ((show (m, 4) = (renameP a b).run m from by
        unfold renameP
        simp only [Pg.run_bind, Pg.run_pure, Pg.run_ret, ↓reduceIte, Bool.false_eq_true, Bool.true_and, Bool.and_true, Bool.and_self, Bool.false_and, Bool.and_false, or_false, false_or, true_or, or_true, ne_eq, not_true_eq_false, not_false_eq_true, eq_self_iff_true, decide_true, decide_false, C1.out, C2.out]).trans HE.out)
      subst e1 e2
      have G0 := Lib.hid (show ∀ m' r e w', MStep p base v1 v2 v3 m' r w e w' → MStep p base v1 v2 v3 m' r w e w' from fun _ _ _ _ h => h)
      have M0 := Lib.hid H.out
      have B0 := Lib.hid (Below.refl base w)
      clear HE
      go_enter Tryz.func101, Tryz.ntmps101
      have HEND := Lib.hid (show MStep p base v1 v2 v3 _ (.int .i64 4) w (.returned (.int .i64 4)) w from G0.out _ _ _ _ (M0.out.step (Below.refl _ _) _))
      clear G0 M0 B0
      go_wp2_with (first | (go_at_call 153; with_reducible refine (KNa.out _).mono ?_; rintro e w' ⟨rfl, rfl⟩) | (go_at_call 153; with_reducible refine (KNb.out _).mono ?_; rintro e w' ⟨rfl, rfl⟩) | fail)
      go_ret
      exact HEND.out
  · have C1 := Lib.hid (Bool.eq_false_iff.2 c1)
    clear c1
    have KNa := Lib.hid (fun W => implNameOk_c a W (kle (Nat.le_trans hs (by decide))))
    rw [C1.out] at KNa
    obtain ⟨e1, e2⟩ := Prod.mk.inj ((show (m, 4) = (renameP a b).run m from by
      unfold renameP
      simp only [Pg.run_bind, Pg.run_pure, Pg.run_ret, ↓reduceIte, Bool.false_eq_true, Bool.true_and, Bool.and_true, Bool.and_self, Bool.false_and, Bool.and_false, or_false, false_or, true_or, or_true, ne_eq, not_true_eq_false, not_false_eq_true, eq_self_iff_true, decide_true, decide_false, C1.out]).trans HE.out)
    subst e1 e2
    have G0 := Lib.hid (show ∀ m' r e w', MStep p base v1 v2 v3 m' r w e w' → MStep p base v1 v2 v3 m' r w e w' from fun _ _ _ _ h => h)
    have M0 := Lib.hid H.out
    have B0 := Lib.hid (Below.refl base w)
    clear HE
    go_enter Tryz.func101, Tryz.ntmps101
    have HEND := Lib.hid (show MStep p base v1 v2 v3 _ (.int .i64 4) w (.returned (.int .i64 4)) w from G0.out _ _ _ _ (M0.out.step (Below.refl _ _) _))
    clear G0 M0 B0
    go_wp2_with (first | (go_at_call 153; with_reducible refine (KNa.out _).mono ?_; rintro e w' ⟨rfl, rfl⟩) | (go_at_call 153; with_reducible refine (KNb.out _).mono ?_; rintro e w' ⟨rfl, rfl⟩) | fail)
    go_ret
    exact HEND.out

set_option maxRecDepth 100000 in
set_option maxHeartbeats 8000000 in
theorem pReap_c (p base : Nat) (v1 v2 v3 : Value) (m m' : Mch) (x y : Int) (parent : Int) (id : Int) (w : World) (h : MAt w p base v1 v2 v3 m) (ho : MOk 800000000000 m) (hn : I64 id) (HT : ∀ W, Below base w W → Tabs W) (E : (reapP parent id).run m = (m', (x, y))) :
    Calls Tryz.prog 110 #[.pointer (some ⟨p, 0, none⟩), .int .i64 parent, .int .i64 id] w (MStep p base v1 v2 v3 m' (.tuple #[.int .i64 x, .int .i64 y]) w) := by
  have H := Lib.hid h
  have HTT := Lib.hid HT
  have O0 := Lib.hid ho
  have HE := Lib.hid E
  clear h ho HT E
  obtain ⟨m1, x1, E1⟩ : ∃ aa bb, (numP (procK id tP)).run m = (aa, bb) := ⟨_, _, rfl⟩
  have bx1 := numP_bounds E1
  have O1 := Lib.hid ((numP_cost _).okE O0.out E1)
  have HE1 := Lib.hid E1
  clear E1
  by_cases c1 : x1 = 0
  · subst c1
    obtain ⟨e1, e2⟩ := Prod.mk.inj ((show (m1, (0, 2)) = (reapP parent id).run m from by
      unfold reapP
      simp only [Pg.run_bind, Pg.run_pure, Pg.run_ret, ↓reduceIte, Bool.false_eq_true, Bool.true_and, Bool.and_true, Bool.and_self, Bool.false_and, Bool.and_false, or_false, false_or, true_or, or_true, ne_eq, not_true_eq_false, not_false_eq_true, eq_self_iff_true, decide_true, decide_false, HE1.out]).trans HE.out)
    obtain ⟨e2, e3⟩ := Prod.mk.inj e2
    subst e1 e2 e3
    have G0 := Lib.hid (show ∀ m' r e w', MStep p base v1 v2 v3 m' r w e w' → MStep p base v1 v2 v3 m' r w e w' from fun _ _ _ _ h => h)
    have M0 := Lib.hid H.out
    have B0 := Lib.hid (Below.refl base w)
    clear HE
    go_enter Tryz.func110, Tryz.ntmps110
    go_wp2_with fail
    refine (procKey2_c id tP w hn (by decide) (HTT.out _ B0.out)).mono ?_
    rintro e w1 ⟨rfl, hb⟩
    have G1 := Lib.hid (show ∀ m' r e w', MStep p base v1 v2 v3 m' r w1 e w' → MStep p base v1 v2 v3 m' r w e w' from fun _ _ _ _ h => G0.out _ _ _ _ (MStep.next (Grow3.of_below hb) (.inl rfl) (.inl rfl) (.inl rfl) h))
    have B1 := Lib.hid (B0.out.trans (hb.mono M0.out.hb))
    have M1 := Lib.hid (M0.out.below hb)
    clear hb G0 M0 B0
    have K2 := Lib.hid (pNum_c p base v1 v2 v3 m m1 (0) (procK id tP) w1 M1.out (O0.out.mono (by omega)) (fun W hW => HTT.out W (B1.out.trans hW)) HE1.out)
    go_wp2_with fail
    refine K2.out.mono ?_
    rintro e w2 ⟨x21, x22, x23, rfl, hm, hg, q1, q2, q3⟩
    have G2 := Lib.hid (show ∀ m' r e w', MStep p base x21 x22 x23 m' r w2 e w' → MStep p base v1 v2 v3 m' r w e w' from fun _ _ _ _ h => G1.out _ _ _ _ (MStep.next hg q1 q2 q3 h))
    have B2 := Lib.hid (B1.out.trans (M1.out.grow hg))
    have M2 := Lib.hid hm
    clear hm hg q1 q2 q3 K2 G1 M1 B1
    have HEND := Lib.hid (show MStep p base v1 v2 v3 _ (.tuple #[.int .i64 0, .int .i64 2]) w (.returned (.tuple #[.int .i64 0, .int .i64 2])) w2 from G2.out _ _ _ _ (M2.out.step (Below.refl _ _) _))
    clear G2 M2 B2
    go_wp2
    go_ret2
    exact HEND.out
  · by_cases c2 : x1 = parent
    · subst c2
      obtain ⟨m2, x2, E2⟩ : ∃ aa bb, (stateP id).run m1 = (aa, bb) := ⟨_, _, rfl⟩
      have bx2 := numP_bounds E2
      have O2 := Lib.hid ((stateP_cost _).okE O1.out E2)
      have HE2 := Lib.hid E2
      clear E2
      by_cases c3 : x2 = 1
      · subst c3
        obtain ⟨e1, e2⟩ := Prod.mk.inj ((show (m2, (0, 5)) = (reapP x1 id).run m from by
          unfold reapP
          simp only [Pg.run_bind, Pg.run_pure, Pg.run_ret, ↓reduceIte, Bool.false_eq_true, Bool.true_and, Bool.and_true, Bool.and_self, Bool.false_and, Bool.and_false, or_false, false_or, true_or, or_true, ne_eq, not_true_eq_false, not_false_eq_true, eq_self_iff_true, decide_true, decide_false, HE1.out, c1, HE2.out]).trans HE.out)
        obtain ⟨e2, e3⟩ := Prod.mk.inj e2
        subst e1 e2 e3
        have G0 := Lib.hid (show ∀ m' r e w', MStep p base v1 v2 v3 m' r w e w' → MStep p base v1 v2 v3 m' r w e w' from fun _ _ _ _ h => h)
        have M0 := Lib.hid H.out
        have B0 := Lib.hid (Below.refl base w)
        clear HE
        go_enter Tryz.func110, Tryz.ntmps110
        go_wp2_with fail
        refine (procKey2_c id tP w hn (by decide) (HTT.out _ B0.out)).mono ?_
        rintro e w1 ⟨rfl, hb⟩
        have G1 := Lib.hid (show ∀ m' r e w', MStep p base v1 v2 v3 m' r w1 e w' → MStep p base v1 v2 v3 m' r w e w' from fun _ _ _ _ h => G0.out _ _ _ _ (MStep.next (Grow3.of_below hb) (.inl rfl) (.inl rfl) (.inl rfl) h))
        have B1 := Lib.hid (B0.out.trans (hb.mono M0.out.hb))
        have M1 := Lib.hid (M0.out.below hb)
        clear hb G0 M0 B0
        have K2 := Lib.hid (pNum_c p base v1 v2 v3 m m1 x1 (procK id tP) w1 M1.out (O0.out.mono (by omega)) (fun W hW => HTT.out W (B1.out.trans hW)) HE1.out)
        go_wp2_with fail
        refine K2.out.mono ?_
        rintro e w2 ⟨x21, x22, x23, rfl, hm, hg, q1, q2, q3⟩
        have G2 := Lib.hid (show ∀ m' r e w', MStep p base x21 x22 x23 m' r w2 e w' → MStep p base v1 v2 v3 m' r w e w' from fun _ _ _ _ h => G1.out _ _ _ _ (MStep.next hg q1 q2 q3 h))
        have B2 := Lib.hid (B1.out.trans (M1.out.grow hg))
        have M2 := Lib.hid hm
        clear hm hg q1 q2 q3 K2 G1 M1 B1
        have K3 := Lib.hid (pState_c p base x21 x22 x23 m1 m2 (1) id w2 M2.out (O1.out.mono (by omega)) hn (fun W hW => HTT.out W (B2.out.trans hW)) HE2.out)
        go_wp2_with fail
        refine K3.out.mono ?_
        rintro e w3 ⟨x31, x32, x33, rfl, hm, hg, q1, q2, q3⟩
        have G3 := Lib.hid (show ∀ m' r e w', MStep p base x31 x32 x33 m' r w3 e w' → MStep p base v1 v2 v3 m' r w e w' from fun _ _ _ _ h => G2.out _ _ _ _ (MStep.next hg q1 q2 q3 h))
        have B3 := Lib.hid (B2.out.trans (M2.out.grow hg))
        have M3 := Lib.hid hm
        clear hm hg q1 q2 q3 K3 G2 M2 B2
        have HEND := Lib.hid (show MStep p base v1 v2 v3 _ (.tuple #[.int .i64 0, .int .i64 5]) w (.returned (.tuple #[.int .i64 0, .int .i64 5])) w3 from G3.out _ _ _ _ (M3.out.step (Below.refl _ _) _))
        clear G3 M3 B3
        go_wp2
        go_ret2
        exact HEND.out
      · by_cases c4 : x2 = 2
        · subst c4
          obtain ⟨m3, x3, E3⟩ : ∃ aa bb, (numP (procK id tX)).run m2 = (aa, bb) := ⟨_, _, rfl⟩
          have bx3 := numP_bounds E3
          have O3 := Lib.hid ((numP_cost _).okE O2.out E3)
          have HE3 := Lib.hid E3
          clear E3
          have hwx3 : IntKind.i64.wrap (x3 - 1) = x3 - 1 := by rw [IntKind.wrap_i64]; omega
          obtain ⟨m4, u4, E4⟩ : ∃ aa bb, (wipeP (procK id tSl)).run m3 = (aa, bb) := ⟨_, _, rfl⟩
          have O4 := Lib.hid ((wipeP_cost _).okE O3.out E4)
          have HE4 := Lib.hid E4
          clear E4
          obtain ⟨e1, e2⟩ := Prod.mk.inj ((show (m4, (x3 - 1, 0)) = (reapP x1 id).run m from by
            unfold reapP
            simp only [Pg.run_bind, Pg.run_pure, Pg.run_ret, ↓reduceIte, Bool.false_eq_true, Bool.true_and, Bool.and_true, Bool.and_self, Bool.false_and, Bool.and_false, or_false, false_or, true_or, or_true, ne_eq, not_true_eq_false, not_false_eq_true, eq_self_iff_true, decide_true, decide_false, HE1.out, c1, HE2.out, c3, HE3.out, HE4.out]).trans HE.out)
          obtain ⟨e2, e3⟩ := Prod.mk.inj e2
          subst e1 e2 e3
          have G0 := Lib.hid (show ∀ m' r e w', MStep p base v1 v2 v3 m' r w e w' → MStep p base v1 v2 v3 m' r w e w' from fun _ _ _ _ h => h)
          have M0 := Lib.hid H.out
          have B0 := Lib.hid (Below.refl base w)
          clear HE
          go_enter Tryz.func110, Tryz.ntmps110
          go_wp2_with fail
          refine (procKey2_c id tP w hn (by decide) (HTT.out _ B0.out)).mono ?_
          rintro e w1 ⟨rfl, hb⟩
          have G1 := Lib.hid (show ∀ m' r e w', MStep p base v1 v2 v3 m' r w1 e w' → MStep p base v1 v2 v3 m' r w e w' from fun _ _ _ _ h => G0.out _ _ _ _ (MStep.next (Grow3.of_below hb) (.inl rfl) (.inl rfl) (.inl rfl) h))
          have B1 := Lib.hid (B0.out.trans (hb.mono M0.out.hb))
          have M1 := Lib.hid (M0.out.below hb)
          clear hb G0 M0 B0
          have K2 := Lib.hid (pNum_c p base v1 v2 v3 m m1 x1 (procK id tP) w1 M1.out (O0.out.mono (by omega)) (fun W hW => HTT.out W (B1.out.trans hW)) HE1.out)
          go_wp2_with fail
          refine K2.out.mono ?_
          rintro e w2 ⟨x21, x22, x23, rfl, hm, hg, q1, q2, q3⟩
          have G2 := Lib.hid (show ∀ m' r e w', MStep p base x21 x22 x23 m' r w2 e w' → MStep p base v1 v2 v3 m' r w e w' from fun _ _ _ _ h => G1.out _ _ _ _ (MStep.next hg q1 q2 q3 h))
          have B2 := Lib.hid (B1.out.trans (M1.out.grow hg))
          have M2 := Lib.hid hm
          clear hm hg q1 q2 q3 K2 G1 M1 B1
          have K3 := Lib.hid (pState_c p base x21 x22 x23 m1 m2 (2) id w2 M2.out (O1.out.mono (by omega)) hn (fun W hW => HTT.out W (B2.out.trans hW)) HE2.out)
          go_wp2_with fail
          refine K3.out.mono ?_
          rintro e w3 ⟨x31, x32, x33, rfl, hm, hg, q1, q2, q3⟩
          have G3 := Lib.hid (show ∀ m' r e w', MStep p base x31 x32 x33 m' r w3 e w' → MStep p base v1 v2 v3 m' r w e w' from fun _ _ _ _ h => G2.out _ _ _ _ (MStep.next hg q1 q2 q3 h))
          have B3 := Lib.hid (B2.out.trans (M2.out.grow hg))
          have M3 := Lib.hid hm
          clear hm hg q1 q2 q3 K3 G2 M2 B2
          go_wp2_with fail
          refine (procKey2_c id tX w3 hn (by decide) (HTT.out _ B3.out)).mono ?_
          rintro e w4 ⟨rfl, hb⟩
          have G4 := Lib.hid (show ∀ m' r e w', MStep p base x31 x32 x33 m' r w4 e w' → MStep p base v1 v2 v3 m' r w e w' from fun _ _ _ _ h => G3.out _ _ _ _ (MStep.next (Grow3.of_below hb) (.inl rfl) (.inl rfl) (.inl rfl) h))
          have B4 := Lib.hid (B3.out.trans (hb.mono M3.out.hb))
          have M4 := Lib.hid (M3.out.below hb)
          clear hb G3 M3 B3
          have K5 := Lib.hid (pNum_c p base x31 x32 x33 m2 m3 x3 (procK id tX) w4 M4.out (O2.out.mono (by omega)) (fun W hW => HTT.out W (B4.out.trans hW)) HE3.out)
          go_wp2_with fail
          refine K5.out.mono ?_
          rintro e w5 ⟨x51, x52, x53, rfl, hm, hg, q1, q2, q3⟩
          have G5 := Lib.hid (show ∀ m' r e w', MStep p base x51 x52 x53 m' r w5 e w' → MStep p base v1 v2 v3 m' r w e w' from fun _ _ _ _ h => G4.out _ _ _ _ (MStep.next hg q1 q2 q3 h))
          have B5 := Lib.hid (B4.out.trans (M4.out.grow hg))
          have M5 := Lib.hid hm
          clear hm hg q1 q2 q3 K5 G4 M4 B4
          go_wp2_with fail
          refine (procKey2_c id tSl w5 hn (by decide) (HTT.out _ B5.out)).mono ?_
          rintro e w6 ⟨rfl, hb⟩
          have G6 := Lib.hid (show ∀ m' r e w', MStep p base x51 x52 x53 m' r w6 e w' → MStep p base v1 v2 v3 m' r w e w' from fun _ _ _ _ h => G5.out _ _ _ _ (MStep.next (Grow3.of_below hb) (.inl rfl) (.inl rfl) (.inl rfl) h))
          have B6 := Lib.hid (B5.out.trans (hb.mono M5.out.hb))
          have M6 := Lib.hid (M5.out.below hb)
          clear hb G5 M5 B5
          have K7 := Lib.hid (pWipe_c p base x51 x52 x53 m3 m4 u4 (procK id tSl) w6 M6.out (O3.out.mono (by omega)) (procK_size2 hn (by decide)) HE4.out)
          go_wp2_with fail
          refine K7.out.mono ?_
          rintro e w7 ⟨x71, x72, x73, rfl, hm, hg, q1, q2, q3⟩
          have G7 := Lib.hid (show ∀ m' r e w', MStep p base x71 x72 x73 m' r w7 e w' → MStep p base v1 v2 v3 m' r w e w' from fun _ _ _ _ h => G6.out _ _ _ _ (MStep.next hg q1 q2 q3 h))
          have B7 := Lib.hid (B6.out.trans (M6.out.grow hg))
          have M7 := Lib.hid hm
          clear hm hg q1 q2 q3 K7 G6 M6 B6
          have HEND := Lib.hid (show MStep p base v1 v2 v3 _ (.tuple #[.int .i64 (x3 - 1), .int .i64 0]) w (.returned (.tuple #[.int .i64 (x3 - 1), .int .i64 0])) w7 from G7.out _ _ _ _ (M7.out.step (Below.refl _ _) _))
          clear G7 M7 B7
          go_wp2
          go_ret2
          exact HEND.out
        · obtain ⟨e1, e2⟩ := Prod.mk.inj ((show (m2, (0, 2)) = (reapP x1 id).run m from by
            unfold reapP
            simp only [Pg.run_bind, Pg.run_pure, Pg.run_ret, ↓reduceIte, Bool.false_eq_true, Bool.true_and, Bool.and_true, Bool.and_self, Bool.false_and, Bool.and_false, or_false, false_or, true_or, or_true, ne_eq, not_true_eq_false, not_false_eq_true, eq_self_iff_true, decide_true, decide_false, HE1.out, c1, HE2.out, c3, c4]).trans HE.out)
          obtain ⟨e2, e3⟩ := Prod.mk.inj e2
          subst e1 e2 e3
          have G0 := Lib.hid (show ∀ m' r e w', MStep p base v1 v2 v3 m' r w e w' → MStep p base v1 v2 v3 m' r w e w' from fun _ _ _ _ h => h)
          have M0 := Lib.hid H.out
          have B0 := Lib.hid (Below.refl base w)
          clear HE
          go_enter Tryz.func110, Tryz.ntmps110
          go_wp2_with fail
          refine (procKey2_c id tP w hn (by decide) (HTT.out _ B0.out)).mono ?_
          rintro e w1 ⟨rfl, hb⟩
          have G1 := Lib.hid (show ∀ m' r e w', MStep p base v1 v2 v3 m' r w1 e w' → MStep p base v1 v2 v3 m' r w e w' from fun _ _ _ _ h => G0.out _ _ _ _ (MStep.next (Grow3.of_below hb) (.inl rfl) (.inl rfl) (.inl rfl) h))
          have B1 := Lib.hid (B0.out.trans (hb.mono M0.out.hb))
          have M1 := Lib.hid (M0.out.below hb)
          clear hb G0 M0 B0
          have K2 := Lib.hid (pNum_c p base v1 v2 v3 m m1 x1 (procK id tP) w1 M1.out (O0.out.mono (by omega)) (fun W hW => HTT.out W (B1.out.trans hW)) HE1.out)
          go_wp2_with fail
          refine K2.out.mono ?_
          rintro e w2 ⟨x21, x22, x23, rfl, hm, hg, q1, q2, q3⟩
          have G2 := Lib.hid (show ∀ m' r e w', MStep p base x21 x22 x23 m' r w2 e w' → MStep p base v1 v2 v3 m' r w e w' from fun _ _ _ _ h => G1.out _ _ _ _ (MStep.next hg q1 q2 q3 h))
          have B2 := Lib.hid (B1.out.trans (M1.out.grow hg))
          have M2 := Lib.hid hm
          clear hm hg q1 q2 q3 K2 G1 M1 B1
          have K3 := Lib.hid (pState_c p base x21 x22 x23 m1 m2 x2 id w2 M2.out (O1.out.mono (by omega)) hn (fun W hW => HTT.out W (B2.out.trans hW)) HE2.out)
          go_wp2_with fail
          refine K3.out.mono ?_
          rintro e w3 ⟨x31, x32, x33, rfl, hm, hg, q1, q2, q3⟩
          have G3 := Lib.hid (show ∀ m' r e w', MStep p base x31 x32 x33 m' r w3 e w' → MStep p base v1 v2 v3 m' r w e w' from fun _ _ _ _ h => G2.out _ _ _ _ (MStep.next hg q1 q2 q3 h))
          have B3 := Lib.hid (B2.out.trans (M2.out.grow hg))
          have M3 := Lib.hid hm
          clear hm hg q1 q2 q3 K3 G2 M2 B2
          have HEND := Lib.hid (show MStep p base v1 v2 v3 _ (.tuple #[.int .i64 0, .int .i64 2]) w (.returned (.tuple #[.int .i64 0, .int .i64 2])) w3 from G3.out _ _ _ _ (M3.out.step (Below.refl _ _) _))
          clear G3 M3 B3
          go_wp2
          go_ret2
          exact HEND.out
    · have d2 : (x1 == parent) = false := beq_eq_false_iff_ne.2 c2
      have d3 : (x1 != parent) = true := bne_iff_ne.2 c2
      obtain ⟨e1, e2⟩ := Prod.mk.inj ((show (m1, (0, 2)) = (reapP parent id).run m from by
        unfold reapP
        simp only [Pg.run_bind, Pg.run_pure, Pg.run_ret, ↓reduceIte, Bool.false_eq_true, Bool.true_and, Bool.and_true, Bool.and_self, Bool.false_and, Bool.and_false, or_false, false_or, true_or, or_true, ne_eq, not_true_eq_false, not_false_eq_true, eq_self_iff_true, decide_true, decide_false, HE1.out, c1, c2]).trans HE.out)
      obtain ⟨e2, e3⟩ := Prod.mk.inj e2
      subst e1 e2 e3
      have G0 := Lib.hid (show ∀ m' r e w', MStep p base v1 v2 v3 m' r w e w' → MStep p base v1 v2 v3 m' r w e w' from fun _ _ _ _ h => h)
      have M0 := Lib.hid H.out
      have B0 := Lib.hid (Below.refl base w)
      clear HE
      go_enter Tryz.func110, Tryz.ntmps110
      go_wp2_with fail
      refine (procKey2_c id tP w hn (by decide) (HTT.out _ B0.out)).mono ?_
      rintro e w1 ⟨rfl, hb⟩
      have G1 := Lib.hid (show ∀ m' r e w', MStep p base v1 v2 v3 m' r w1 e w' → MStep p base v1 v2 v3 m' r w e w' from fun _ _ _ _ h => G0.out _ _ _ _ (MStep.next (Grow3.of_below hb) (.inl rfl) (.inl rfl) (.inl rfl) h))
      have B1 := Lib.hid (B0.out.trans (hb.mono M0.out.hb))
      have M1 := Lib.hid (M0.out.below hb)
      clear hb G0 M0 B0
      have K2 := Lib.hid (pNum_c p base v1 v2 v3 m m1 x1 (procK id tP) w1 M1.out (O0.out.mono (by omega)) (fun W hW => HTT.out W (B1.out.trans hW)) HE1.out)
      go_wp2_with fail
      refine K2.out.mono ?_
      rintro e w2 ⟨x21, x22, x23, rfl, hm, hg, q1, q2, q3⟩
      have G2 := Lib.hid (show ∀ m' r e w', MStep p base x21 x22 x23 m' r w2 e w' → MStep p base v1 v2 v3 m' r w e w' from fun _ _ _ _ h => G1.out _ _ _ _ (MStep.next hg q1 q2 q3 h))
      have B2 := Lib.hid (B1.out.trans (M1.out.grow hg))
      have M2 := Lib.hid hm
      clear hm hg q1 q2 q3 K2 G1 M1 B1
      have HEND := Lib.hid (show MStep p base v1 v2 v3 _ (.tuple #[.int .i64 0, .int .i64 2]) w (.returned (.tuple #[.int .i64 0, .int .i64 2])) w2 from G2.out _ _ _ _ (M2.out.step (Below.refl _ _) _))
      clear G2 M2 B2
      go_wp2
      go_ret2
      exact HEND.out

set_option maxRecDepth 100000 in
set_option maxHeartbeats 8000000 in
theorem pDrop_c (p base : Nat) (v1 v2 v3 : Value) (m m' : Mch) (x : Unit) (id : Int) (w : World) (h : MAt w p base v1 v2 v3 m) (ho : MOk 800000000000 m) (hn : I64 id) (HT : ∀ W, Below base w W → Tabs W) (E : (dropPagesP id).run m = (m', x)) :
    Calls Tryz.prog 109 #[.pointer (some ⟨p, 0, none⟩), .int .i64 id] w (MStep p base v1 v2 v3 m' (.tuple #[]) w) := by
  have H := Lib.hid h
  have HTT := Lib.hid HT
  have O0 := Lib.hid ho
  have HE := Lib.hid E
  clear h ho HT E
  obtain ⟨m1, u1, E1⟩ : ∃ aa bb, (wipeP (pagesK id)).run m = (aa, bb) := ⟨_, _, rfl⟩
  have O1 := Lib.hid ((wipeP_cost _).okE O0.out E1)
  have HE1 := Lib.hid E1
  clear E1
  obtain ⟨e1, e2⟩ := Prod.mk.inj ((show (m1, u1) = (dropPagesP id).run m from by
    unfold dropPagesP
    simp only [Pg.run_bind, Pg.run_pure, Pg.run_ret, ↓reduceIte, Bool.false_eq_true, Bool.true_and, Bool.and_true, Bool.and_self, Bool.false_and, Bool.and_false, or_false, false_or, true_or, or_true, ne_eq, not_true_eq_false, not_false_eq_true, eq_self_iff_true, decide_true, decide_false, HE1.out]).trans HE.out)
  subst e1
  have G0 := Lib.hid (show ∀ m' r e w', MStep p base v1 v2 v3 m' r w e w' → MStep p base v1 v2 v3 m' r w e w' from fun _ _ _ _ h => h)
  have M0 := Lib.hid H.out
  have B0 := Lib.hid (Below.refl base w)
  clear HE
  go_enter Tryz.func109, Tryz.ntmps109
  go_wp2_with fail
  refine (pagesKey_c id w hn (HTT.out _ B0.out)).mono ?_
  rintro e w1 ⟨rfl, hb⟩
  have G1 := Lib.hid (show ∀ m' r e w', MStep p base v1 v2 v3 m' r w1 e w' → MStep p base v1 v2 v3 m' r w e w' from fun _ _ _ _ h => G0.out _ _ _ _ (MStep.next (Grow3.of_below hb) (.inl rfl) (.inl rfl) (.inl rfl) h))
  have B1 := Lib.hid (B0.out.trans (hb.mono M0.out.hb))
  have M1 := Lib.hid (M0.out.below hb)
  clear hb G0 M0 B0
  have K2 := Lib.hid (pWipe_c p base v1 v2 v3 m m1 u1 (pagesK id) w1 M1.out (O0.out.mono (by omega)) (pagesK_size hn) HE1.out)
  go_wp2_with fail
  refine K2.out.mono ?_
  rintro e w2 ⟨x21, x22, x23, rfl, hm, hg, q1, q2, q3⟩
  have G2 := Lib.hid (show ∀ m' r e w', MStep p base x21 x22 x23 m' r w2 e w' → MStep p base v1 v2 v3 m' r w e w' from fun _ _ _ _ h => G1.out _ _ _ _ (MStep.next hg q1 q2 q3 h))
  have B2 := Lib.hid (B1.out.trans (M1.out.grow hg))
  have M2 := Lib.hid hm
  clear hm hg q1 q2 q3 K2 G1 M1 B1
  have HEND := Lib.hid (show MStep p base v1 v2 v3 _ (.tuple #[]) w (.returned (.tuple #[])) w2 from G2.out _ _ _ _ (M2.out.step (Below.refl _ _) _))
  clear G2 M2 B2
  go_wp2
  exact bodyPost_ret (v := .tuple #[]) (by simp [results, Tryz.results109, go_sem]) rfl HEND.out
end Go.Proofs.YtihghflppegnmaaGreatDoor
namespace Go.Proofs.YtihghflppegnmaaGreatDoor
open Go.ChangeShapes Go.WideShapes Go.ChangeAt Go.RowKit
attribute [local go_sem ↓] Go.wp_at_zero Go.wp_at_succ
theorem MAt.setCell {W : World} {p base : Nat} {v1 v2 v3 : Value} {m : Mch} (h : MAt W p base v1 v2 v3 m) {b : Nat} (hp : p ≠ b) (n1 : v1.ownBlock ≠ some b) (n2 : v2.ownBlock ≠ some b) (n3 : v3.ownBlock ≠ some b) (i : Nat) (v : Value) : MAt (W.setCell ⟨b, i, none⟩ v) p base v1 v2 v3 m := by
  have gs := grownBy_setCell W b i v
  exact ⟨⟨Nat.lt_of_lt_of_le h.box.1 gs.size, h.box.2.elim fun T hT => ⟨T, (gs.block p h.box.1 (fun e => hp (Option.some.inj e))).trans hT⟩⟩, h.o1.kept gs (.inr n1), h.o2.kept gs (.inr n2), h.o3.kept gs (.inr n3), h.n1, h.n2, h.n3, h.d12, h.d13, h.d23, h.hp, Nat.le_trans h.hb gs.size⟩
theorem box_far2 {w : World} {b b' : Nat} {xs : List Value} (h : Box w b xs) (hne : b ≠ b') (i : Nat) (v : Value) : Box (w.setCell ⟨b', i, none⟩ v) b xs := by
  obtain ⟨h1, T, h2⟩ := h
  exact ⟨by simpa [World.setCell] using h1, T, (heap_setCell_other w ⟨b', i, none⟩ b v hne).trans h2⟩
/-- The machine has stepped from w; b .. b+2 are boxes that were made behind w. -/
structure DAt (p base : Nat) (v1 v2 v3 : Value) (w : World) (cs xs : List Value) (W : World) (u1 u2 u3 : Value) (k : Mch) : Prop where
  at_ : MAt W p base u1 u2 u3 k
  bc : Box W w.heap.size cs
  br : ∃ ys, ys.length = 3 ∧ Box W (w.heap.size + 1) ys
  ba : Box W (w.heap.size + 2) xs
  pl : p < w.heap.size
  far : ∀ i, w.heap.size ≤ i → i < w.heap.size + 3 → u1.ownBlock ≠ some i ∧ u2.ownBlock ≠ some i ∧ u3.ownBlock ≠ some i
  gr : Grow3 w W p v1 v2 v3
  q1 : OwnOr w v1 u1
  q2 : OwnOr w v2 u2
  q3 : OwnOr w v3 u3
section
variable {p base : Nat} {v1 v2 v3 u1 u2 u3 x1 x2 x3 : Value} {w W W' : World} {cs xs : List Value} {m k k' : Mch}
theorem DAt.first (h : MAt w p base v1 v2 v3 m) (cs : List Value) (T T2 T3 : TypeId) : DAt p base v1 v2 v3 w cs [.int .i64 0, .int .i64 0, .string ⟨#[]⟩] (((w.alloc (.cells cs.toArray T)).alloc (.cells #[.int .i64 0, .int .i64 0, .string ⟨#[]⟩] T2)).alloc (.cells #[.int .i64 0, .int .i64 0, .string ⟨#[]⟩] T3)) v1 v2 v3 m := by
  have hb : Below w.heap.size w (((w.alloc (.cells cs.toArray T)).alloc (.cells #[.int .i64 0, .int .i64 0, .string ⟨#[]⟩] T2)).alloc (.cells #[.int .i64 0, .int .i64 0, .string ⟨#[]⟩] T3)) := (by repeat (first | exact Below.refl _ _ | refine Below.drew ?_ | refine below_drewN ?_ _ | refine Below.allocC ?_ _ | refine Below.setCell ?_ (by first | (simp; done) | (simp; omega)) _ | refine Below.chain ?_ (by assumption)))
  have e1 : (w.alloc (.cells cs.toArray T)).heap.size = w.heap.size + 1 := by simp
  have e2 : ((w.alloc (.cells cs.toArray T)).alloc (.cells #[.int .i64 0, .int .i64 0, .string ⟨#[]⟩] T2)).heap.size = w.heap.size + 2 := by simp
  have h2 := Box.new (w.alloc (.cells cs.toArray T)) [.int .i64 0, .int .i64 0, .string ⟨#[]⟩] T2
  have h3 := Box.new ((w.alloc (.cells cs.toArray T)).alloc (.cells #[.int .i64 0, .int .i64 0, .string ⟨#[]⟩] T2)) [.int .i64 0, .int .i64 0, .string ⟨#[]⟩] T3
  rw [e1] at h2
  rw [e2] at h3
  refine ⟨h.below hb, ((Box.new w cs T).alloc _).alloc _, ⟨_, rfl, h2.alloc _⟩, h3, h.box.1, fun i h1 _ => ⟨fun e => ?_, fun e => ?_, fun e => ?_⟩, Grow3.of_below hb, .inl rfl, .inl rfl, .inl rfl⟩
  · have := (h.o1.lt i e).2; omega
  · have := (h.o2.lt i e).2; omega
  · have := (h.o3.lt i e).2; omega
theorem DAt.next (d : DAt p base v1 v2 v3 w cs xs W u1 u2 u3 k) (hm : MAt W' p base x1 x2 x3 k') (hg : Grow3 W W' p u1 u2 u3) (r1 : OwnOr W u1 x1) (r2 : OwnOr W u2 x2) (r3 : OwnOr W u3 x3) : DAt p base v1 v2 v3 w cs xs W' x1 x2 x3 k' := by
  have hs : w.heap.size + 3 ≤ W.heap.size := by have := d.ba.1; omega
  have hp := d.pl
  have keep : ∀ (i : Nat) (ys : List Value), w.heap.size ≤ i → i < w.heap.size + 3 → Box W i ys → Box W' i ys := fun i ys h1 h2 hb => by
    obtain ⟨f1, f2, f3⟩ := d.far i h1 h2
    exact ⟨Nat.lt_of_lt_of_le hb.1 hg.size, hb.2.elim fun T hT => ⟨T, (hg.block i hb.1 (by omega) f1 f2 f3).trans hT⟩⟩
  refine ⟨hm, keep _ _ (Nat.le_refl _) (by omega) d.bc, d.br.elim fun ys hy => ⟨ys, hy.1, keep _ _ (by omega) (by omega) hy.2⟩, keep _ _ (by omega) (by omega) d.ba, hp, fun i h1 h2 => ?_, d.gr.trans d.q1 d.q2 d.q3 hg, d.q1.trans r1 d.gr.size, d.q2.trans r2 d.gr.size, d.q3.trans r3 d.gr.size⟩
  obtain ⟨f1, f2, f3⟩ := d.far i h1 h2
  exact ⟨r1.ne (by omega) f1, r2.ne (by omega) f2, r3.ne (by omega) f3⟩
theorem DAt.below (d : DAt p base v1 v2 v3 w cs xs W u1 u2 u3 k) (hb : Below W.heap.size W W') : DAt p base v1 v2 v3 w cs xs W' u1 u2 u3 k := d.next (d.at_.below hb) (Grow3.of_below hb) (.inl rfl) (.inl rfl) (.inl rfl)
theorem grow_set (h : Grow3 w W p v1 v2 v3) {b : Nat} (hb : w.heap.size ≤ b) (i : Nat) (v : Value) : Grow3 w (W.setCell ⟨b, i, none⟩ v) p v1 v2 v3 := by
  have gs := grownBy_setCell W b i v
  exact ⟨gs.os.trans h.os, gs.tape.trans h.tape, gs.output.trans h.output, Nat.le_trans h.size gs.size, fun k hk h0 h1 h2 h3 => (gs.block k (Nat.lt_of_lt_of_le hk h.size) (fun e => by have := Option.some.inj e; omega)).trans (h.block k hk h0 h1 h2 h3)⟩
/-- A cell of the answer is written. -/
theorem DAt.seta (d : DAt p base v1 v2 v3 w cs xs W u1 u2 u3 k) (i : Nat) (v : Value) : DAt p base v1 v2 v3 w cs (xs.set i v) (W.setCell ⟨w.heap.size + 2, i, none⟩ v) u1 u2 u3 k := by
  have hp := d.pl
  obtain ⟨f1, f2, f3⟩ := d.far (w.heap.size + 2) (by omega) (by omega)
  exact ⟨d.at_.setCell (by omega) f1 f2 f3 i v, box_far2 d.bc (by omega) i v, d.br.elim fun ys hy => ⟨ys, hy.1, box_far2 hy.2 (by omega) i v⟩, box_put d.ba i v, hp, d.far, grow_set d.gr (by omega) i v, d.q1, d.q2, d.q3⟩
/-- The result is written, and returned. -/
theorem DAt.done (d : DAt p base v1 v2 v3 w cs xs W u1 u2 u3 k) (r : Value) (a b c : Value) : MStep p base v1 v2 v3 k r w (.returned r) (((W.setCell ⟨w.heap.size + 1, 0, none⟩ a).setCell ⟨w.heap.size + 1, 1, none⟩ b).setCell ⟨w.heap.size + 1, 2, none⟩ c) := by
  have hp := d.pl
  obtain ⟨f1, f2, f3⟩ := d.far (w.heap.size + 1) (by omega) (by omega)
  have h : ∀ (X : World), MAt X p base u1 u2 u3 k → ∀ i v, MAt (X.setCell ⟨w.heap.size + 1, i, none⟩ v) p base u1 u2 u3 k := fun X hX i v => hX.setCell (by omega) f1 f2 f3 i v
  exact ⟨u1, u2, u3, rfl, h _ (h _ (h _ d.at_ 0 a) 1 b) 2 c, grow_set (grow_set (grow_set d.gr (by omega) 0 a) (by omega) 1 b) (by omega) 2 c, d.q1, d.q2, d.q3⟩
theorem DAt.bel (d : DAt p base v1 v2 v3 w cs xs W u1 u2 u3 k) (h : MAt w p base v1 v2 v3 m) : Below base w W := h.grow d.gr
end
/-- A call's bounds. -/
structure COk (c : Cal) : Prop where
  a : I64 c.a
  b : I64 c.b
  n : c.name.size ≤ maxLen
  d : c.dest.size ≤ maxLen
  t : c.text.size ≤ maxLen
theorem ok_sizes {c : Cal} (h : callOkB c = true) : c.name.size ≤ 20 ∧ c.dest.size ≤ 20 ∧ c.text.size ≤ 64 := by
  unfold callOkB at h
  simp only [Bool.and_eq_true, decide_eq_true_eq] at h
  omega
end Go.Proofs.YtihghflppegnmaaGreatDoor
namespace Go.Proofs.YtihghflppegnmaaGreatDoor
open Go.RowKit
attribute [local go_sem ↓] Go.wp_at_zero Go.wp_at_succ
/-- A call returned a Mach of this store, in memory of its own, and of no spans. -/
def FreshMO (T : Nat) (xs : List (ByteArray × ByteArray)) (w : World) (e : Ending) (w' : World) : Prop :=
  ∃ v, e = .returned (.agg #[v, .slice none 0 0, .slice none 0 0]) ∧ w'.ownsRow (w.heap.size + 1) T 2 v xs.length (xs.flatMap encC) ∧ Below w.heap.size w w'

theorem below_of_own1 {W w' : World} {B T K n : Nat} {v : Value} {cells : List Value} (ho : W.ownsRow B T K v n cells) (hg : W.grownBy w' v.ownBlock) (hB : B ≤ W.heap.size) : Below B W w' := by
  rcases ho.2 with ⟨rfl, _⟩ | ⟨g, cap, cur, rfl, hge, _⟩
  · exact ⟨hg.os, hg.tape, hg.output, hg.size, fun k hk => hg.block k (by omega) (by simp [Value.ownBlock])⟩
  · exact below_of_grown hg hge hB
set_option maxHeartbeats 2000000 in
theorem implMachOf_c (a : Option Addr) (cap : Nat) (xs : List (ByteArray × ByteArray)) (w : World) (hlen : xs.length ≤ 2100000000000) (hr : Reads w a 2 encC xs) :
    Calls Tryz.prog 59 #[.slice a xs.length cap] w (FreshMO 99 xs w) := by
  have HB : Below w.heap.size w (w.alloc (.cells #[.slice none 0 0, .slice none 0 0, .slice none 0 0] 87)) := (by repeat (first | exact Below.refl _ _ | refine Below.drew ?_ | refine below_drewN ?_ _ | refine Below.allocC ?_ _ | refine Below.setCell ?_ (by first | (simp; done) | (simp; omega)) _ | refine Below.chain ?_ (by assumption)))
  have HR := Lib.hid (hr.below HB)
  have HBB := Lib.hid HB
  clear hr HB
  go_enter Tryz.func59, Tryz.ntmps59
  go_wp2_with fail
  refine (cloneC_c _ _ _ _ hlen HR.out).mono ?_
  rintro e w1 ⟨v1, rfl, o1, hb1⟩
  have O1 := Lib.hid o1
  obtain ⟨ar, cr, rfl⟩ := ownsRow_shape o1
  have X := (Box.new w [.slice none 0 0, .slice none 0 0, .slice none 0 0] 87).below hb1
  have H1 := Lib.hid hb1
  clear o1 hb1
  have f0 := X.cell 0 _ rfl
  have f1 := X.cell 1 _ rfl
  have f2 := X.cell 2 _ rfl
  have z0 := X.free 0
  have z1 := X.free 1
  have z2 := X.free 2
  clear X
  go_wp2
  have g1 : Below w.heap.size w w1 := HBB.out.trans (H1.out.mono HBB.out.size)
  refine bodyPost_ret (v := .agg #[.slice ar xs.length cr, .slice none 0 0, .slice none 0 0]) (by simp [results, Tryz.results59, go_sem, f0, f1, f2]) rfl ⟨_, rfl, ?_, ?_⟩
  · have h1 := O1.out
    simp only [World.size_alloc] at h1
    exact ownsRow_setCell_below (ownsRow_setCell_below (ownsRow_setCell_below h1 (a := ⟨w.heap.size, 0, none⟩) (by show w.heap.size < _; omega) _) (a := ⟨w.heap.size, 1, none⟩) (by show w.heap.size < _; omega) _) (a := ⟨w.heap.size, 2, none⟩) (by show w.heap.size < _; omega) _
  · exact Below.setCell (Below.setCell (Below.setCell g1 (Nat.le_refl _) _) (Nat.le_refl _) _) (Nat.le_refl _) _

set_option maxHeartbeats 2000000 in
theorem specMachOf_c (a : Option Addr) (cap : Nat) (xs : List (ByteArray × ByteArray)) (w : World) (hlen : xs.length ≤ 2100000000000) (hc : a = none → cap = 0) (hr : Reads w a 2 encC xs) :
    Calls Tryz.prog 74 #[.slice a xs.length cap] w (FreshMO 99 xs w) := by
  obtain ⟨i0, hi, hzz⟩ := Option.map_eq_some_iff.1 infoCell
  simp only [Prod.mk.injEq] at hzz
  have HI := Lib.hid hi
  have HZ := Lib.hid hzz
  clear hi hzz
  have HB : Below w.heap.size w ((w.alloc (.cells #[.slice none 0 0, .slice none 0 0, .slice none 0 0] 87)).alloc (.cells #[] 99)) := (by repeat (first | exact Below.refl _ _ | refine Below.drew ?_ | refine below_drewN ?_ _ | refine Below.allocC ?_ _ | refine Below.setCell ?_ (by first | (simp; done) | (simp; omega)) _ | refine Below.chain ?_ (by assumption)))
  have HR := Lib.hid (hr.below HB)
  have HBB := Lib.hid HB
  have HO := Lib.hid (show ((w.alloc (.cells #[.slice none 0 0, .slice none 0 0, .slice none 0 0] 87)).alloc (.cells #[] 99)).ownsRow (w.heap.size + 1) 99 2 (.slice (some ⟨w.heap.size + 1, 0, none⟩) 0 0) 0 [] from ⟨rfl, .inr ⟨w.heap.size + 1, 0, #[], rfl, Nat.le_refl _, by have := heap_alloc_new (w.alloc (.cells #[.slice none 0 0, .slice none 0 0, .slice none 0 0] 87)) (.cells #[] 99); simpa using this, Nat.le_refl _, Nat.zero_le _, rfl, rfl⟩⟩)
  have X := (Box.new w [.slice none 0 0, .slice none 0 0, .slice none 0 0] 87).alloc (.cells #[] 99)
  have HX := Lib.hid X
  clear hr HB X
  cases a with
  | none =>
    have hcap := hc rfl
    subst hcap
    have hx : xs = [] := by
      rcases HR.out with h | ⟨_, _, e, _⟩
      · exact h
      · cases e
    subst hx
    have X1 := HX.out
    have f0 := X1.cell 0 _ rfl
    have f1 := X1.cell 1 _ rfl
    have f2 := X1.cell 2 _ rfl
    have z0 := X1.free 0
    have z1 := X1.free 1
    have z2 := X1.free 2
    clear X1 hc hlen
    go_enter Tryz.func74, Tryz.ntmps74
    go_wp2_with (at_builtin; refine wpList_append_own_none rfl _ _ 26 rfl (w.heap.size + 1) 99 i0 2 Tryz.underlying26 HI.out _ _ _ rfl HO.out rfl ?_)
    go_wp2
    refine bodyPost_ret (v := .agg #[.slice (some ⟨w.heap.size + 1, 0, none⟩) 0 0, .slice none 0 0, .slice none 0 0]) (by simp [results, Tryz.results74, go_sem]) rfl ⟨.slice (some ⟨w.heap.size + 1, 0, none⟩) 0 0, rfl, ?_, (by repeat (first | exact Below.refl _ _ | refine Below.drew ?_ | refine below_drewN ?_ _ | refine Below.allocC ?_ _ | refine Below.setCell ?_ (by first | (simp; done) | (simp; omega)) _ | refine Below.chain ?_ (by assumption)))⟩
    exact ⟨rfl, .inr ⟨w.heap.size + 1, 0, #[], rfl, Nat.le_refl _, by have := heap_alloc_new (w.alloc (.cells #[.slice (some ⟨w.heap.size + 1, 0, none⟩) 0 0, .slice none 0 0, .slice none 0 0] 87)) (.cells #[] 99); simpa using this, Nat.le_refl _, Nat.zero_le _, rfl, rfl⟩⟩
  | some ad =>
    have HN := Lib.hid (reads_news encC_len (by decide) HR.out)
    go_enter Tryz.func74, Tryz.ntmps74
    go_wp2_with (at_builtin; refine wpList_append_own _ rfl _ _ 26 rfl (w.heap.size + 1) 99 i0 (.agg #[.string ⟨#[]⟩, .string ⟨#[]⟩]) 2 32 Tryz.underlying26 HI.out HZ.out.1 HZ.out.2.1 HZ.out.2.2 rfl (by decide) _ _ _ rfl HO.out ad xs.length cap (xs.flatMap encC) rfl (length_flatMap_const encC_len xs) HN.out ?c2 ?c3 ?c4 ?c5 ?_)
    case c2 =>
      intro u hu
      obtain ⟨x, _, hx⟩ := List.mem_flatMap.1 hu
      simp [encC] at hx
      rcases hx with rfl | rfl <;> rfl
    case c3 => unfold maxLen; omega
    case c4 => omega
    case c5 => simp
    intro v1 w1 hown' hgrow _
    have O1 := Lib.hid hown'
    have HG := Lib.hid hgrow
    have hbl : (w.alloc (.cells #[.slice none 0 0, .slice none 0 0, .slice none 0 0] 87)).heap.size ≤ w.heap.size + 1 := by simp
    have hbx := Lib.hid (below_of_own1 (B := w.heap.size + 1) HO.out hgrow (by simp))
    obtain ⟨ar, cr, rfl⟩ := ownsRow_shape hown'
    have X1 : Box w1 w.heap.size [.slice none 0 0, .slice none 0 0, .slice none 0 0] := by
      obtain ⟨q1, T, q2⟩ := HX.out
      exact ⟨Nat.lt_of_lt_of_le q1 hbx.out.size, T, (hbx.out.block _ (by omega)).trans q2⟩
    clear hown' hgrow hbl
    have f0 := X1.cell 0 _ rfl
    have f1 := X1.cell 1 _ rfl
    have f2 := X1.cell 2 _ rfl
    have z0 := X1.free 0
    have z1 := X1.free 1
    have z2 := X1.free 2
    clear X1
    go_wp2
    have g1 : Below w.heap.size w w1 := HBB.out.trans (hbx.out.mono (by omega))
    refine bodyPost_ret (v := .agg #[.slice ar (0 + xs.length) cr, .slice none 0 0, .slice none 0 0]) (by simp [results, Tryz.results74, go_sem, f0, f1, f2]) rfl ⟨.slice ar (0 + xs.length) cr, rfl, ?_, ?_⟩
    · have h1 := O1.out
      have h2 := ownsRow_setCell_below (ownsRow_setCell_below (ownsRow_setCell_below h1 (a := ⟨w.heap.size, 0, none⟩) (by show w.heap.size < _; omega) (.slice ar (0 + xs.length) cr)) (a := ⟨w.heap.size, 1, none⟩) (by show w.heap.size < _; omega) (.slice none 0 0)) (a := ⟨w.heap.size, 2, none⟩) (by show w.heap.size < _; omega) (.slice none 0 0)
      simp only [Nat.zero_add] at h2 ⊢
      exact h2
    · exact Below.setCell (Below.setCell (Below.setCell g1 (Nat.le_refl _) _) (Nat.le_refl _) _) (Nat.le_refl _) _
end Go.Proofs.YtihghflppegnmaaGreatDoor
namespace Go.Proofs.YtihghflppegnmaaGreatDoor
open Go.ChangeShapes Go.WideShapes Go.ChangeAt Go.RowKit
attribute [local go_sem ↓] Go.wp_at_zero Go.wp_at_succ
/-- A store, an answer and spans are returned, in memory of their own. -/
def CRet (m' : Mch) (an : Ans) (w : World) (e : Ending) (w' : World) : Prop :=
  ∃ u1 u2 u3, e = .returned (.tuple #[u1, .agg #[.int .i64 an.code, .int .i64 an.n, .string an.text], .agg #[u2, u3]]) ∧ Below w.heap.size w w' ∧
    w'.ownsRow w.heap.size 99 2 u1 m'.st.length (m'.st.flatMap encC) ∧ w'.ownsRow w.heap.size 9 1 u2 m'.rs.length (m'.rs.flatMap encS) ∧ w'.ownsRow w.heap.size 9 1 u3 m'.ws.length (m'.ws.flatMap encS) ∧
    (∀ k, u1.ownBlock = some k → u2.ownBlock ≠ some k) ∧ (∀ k, u1.ownBlock = some k → u3.ownBlock ≠ some k) ∧ (∀ k, u2.ownBlock = some k → u3.ownBlock ≠ some k)
/-- What stands ahead of the return. -/
structure CS (w : World) (bm ba : Nat) (u1 u2 u3 : Value) (m' : Mch) (ys : List Value) (W : World) : Prop where
  m : Box W bm [u1, u2, u3]
  a : Box W ba ys
  o1 : W.ownsRow w.heap.size 99 2 u1 m'.st.length (m'.st.flatMap encC)
  o2 : W.ownsRow w.heap.size 9 1 u2 m'.rs.length (m'.rs.flatMap encS)
  o3 : W.ownsRow w.heap.size 9 1 u3 m'.ws.length (m'.ws.flatMap encS)
  far : ∀ b, w.heap.size ≤ b → b < w.heap.size + 3 → u1.ownBlock ≠ some b ∧ u2.ownBlock ≠ some b ∧ u3.ownBlock ≠ some b
  bel : Below w.heap.size w W
theorem CS.set {w W : World} {bm ba : Nat} {u1 u2 u3 : Value} {m' : Mch} {ys : List Value} (h : CS w bm ba u1 u2 u3 m' ys W) {b : Nat} (h1 : bm ≠ b) (h2 : ba ≠ b) (h3 : w.heap.size ≤ b) (h4 : b < w.heap.size + 3) (i : Nat) (v : Value) : CS w bm ba u1 u2 u3 m' ys (W.setCell ⟨b, i, none⟩ v) := by
  have gs := grownBy_setCell W b i v
  obtain ⟨f1, f2, f3⟩ := h.far b h3 h4
  exact ⟨box_far2 h.m h1 i v, box_far2 h.a h2 i v, h.o1.kept gs (.inr f1), h.o2.kept gs (.inr f2), h.o3.kept gs (.inr f3), h.far, h.bel.trans (below_of_grown gs h3 h.bel.size)⟩
theorem CS.drew {w W : World} {bm ba : Nat} {u1 u2 u3 : Value} {m' : Mch} {ys : List Value} (h : CS w bm ba u1 u2 u3 m' ys W) : CS w bm ba u1 u2 u3 m' ys W.drew := by
  have hb : Below W.heap.size W W.drew := (by repeat (first | exact Below.refl _ _ | refine Below.drew ?_ | refine below_drewN ?_ _ | refine Below.allocC ?_ _ | refine Below.setCell ?_ (by first | (simp; done) | (simp; omega)) _ | refine Below.chain ?_ (by assumption)))
  exact ⟨h.m.drew, h.a.drew, ownsRow_below h.o1 hb, ownsRow_below h.o2 hb, ownsRow_below h.o3 hb, h.far, h.bel.trans (hb.mono h.bel.size)⟩
theorem CS.ret {w W : World} {bm ba : Nat} {u1 u2 u3 : Value} {m' : Mch} {ys : List Value} (an : Ans) (h : CS w bm ba u1 u2 u3 m' ys W) (d12 : ∀ k, u1.ownBlock = some k → u2.ownBlock ≠ some k) (d13 : ∀ k, u1.ownBlock = some k → u3.ownBlock ≠ some k) (d23 : ∀ k, u2.ownBlock = some k → u3.ownBlock ≠ some k) :
    CRet m' an w (.returned (.tuple #[u1, .agg #[.int .i64 an.code, .int .i64 an.n, .string an.text], .agg #[u2, u3]])) W := ⟨u1, u2, u3, rfl, h.bel, h.o1, h.o2, h.o3, d12, d13, d23⟩
theorem mach_at {w W : World} {xs : List (ByteArray × ByteArray)} {v : Value} {base : Nat} (hb : base ≤ w.heap.size) (ho : w.ownsRow base 99 2 v xs.length (xs.flatMap encC)) (hW : W = w.alloc (.cells #[v, .slice none 0 0, .slice none 0 0] 87)) :
    MAt W w.heap.size base v (.slice none 0 0) (.slice none 0 0) ⟨xs, [], []⟩ := by
  subst hW
  have hB : Below w.heap.size w (w.alloc (.cells #[v, .slice none 0 0, .slice none 0 0] 87)) := (by repeat (first | exact Below.refl _ _ | refine Below.drew ?_ | refine below_drewN ?_ _ | refine Below.allocC ?_ _ | refine Below.setCell ?_ (by first | (simp; done) | (simp; omega)) _ | refine Below.chain ?_ (by assumption)))
  have on : ∀ T, (w.alloc (.cells #[v, .slice none 0 0, .slice none 0 0] 87)).ownsRow base T 1 (.slice none 0 0) 0 [] := fun T => ⟨by simp, .inl ⟨rfl, rfl⟩⟩
  refine ⟨Box.new w [v, .slice none 0 0, .slice none 0 0] _, ownsRow_below ho hB, on _, on _, fun e => by have := (ho.lt _ e).2; omega, by simp [Value.ownBlock], by simp [Value.ownBlock], ?_, ?_, ?_, hb, Nat.le_trans hb hB.size⟩
  all_goals simp [Value.ownBlock]

set_option maxRecDepth 100000 in
set_option maxHeartbeats 8000000 in
theorem callOnI_c (a : Option Addr) (cap : Nat) (xs : List (ByteArray × ByteArray)) (proc : Int) (c : Cal) (m' : Mch) (an : Ans) (w : World) (hlen : xs.length ≤ 1048576) (hr : Reads w a 2 encC xs)
    (HD : ∀ p v1 v2 v3 W, MAt W p w.heap.size v1 v2 v3 ⟨xs, [], []⟩ → Below w.heap.size w W → Calls Tryz.prog 60 #[.pointer (some ⟨p, 0, none⟩), .int .i64 proc, .agg #[.int .i64 c.kind, .string c.name, .string c.dest, .int .i64 c.a, .int .i64 c.b, .string c.text]] W (MStep p w.heap.size v1 v2 v3 m' (.agg #[.int .i64 an.code, .int .i64 an.n, .string an.text]) W)) :
    Calls Tryz.prog 13 #[.slice a xs.length cap, .int .i64 proc, .agg #[.int .i64 c.kind, .string c.name, .string c.dest, .int .i64 c.a, .int .i64 c.b, .string c.text]] w (CRet m' an w) := by
  obtain ⟨W0, hW0⟩ : ∃ W0, W0 = ((w.alloc (.cells #[.int .i64 c.kind, .string c.name, .string c.dest, .int .i64 c.a, .int .i64 c.b, .string c.text] 36)).alloc (.cells #[.int .i64 0, .int .i64 0, .string ⟨#[]⟩] 28)).alloc (.cells #[.slice none 0 0, .slice none 0 0] 31) := ⟨_, rfl⟩
  have HB0 := Lib.hid (show Below w.heap.size w W0 from by subst hW0; exact (by repeat (first | exact Below.refl _ _ | refine Below.drew ?_ | refine below_drewN ?_ _ | refine Below.allocC ?_ _ | refine Below.setCell ?_ (by first | (simp; done) | (simp; omega)) _ | refine Below.chain ?_ (by assumption))))
  have hs0 : W0.heap.size = w.heap.size + 3 := by subst hW0; simp
  have C0 := Lib.hid (show Box W0 w.heap.size [.int .i64 c.kind, .string c.name, .string c.dest, .int .i64 c.a, .int .i64 c.b, .string c.text] from by subst hW0; exact ((Box.new w [.int .i64 c.kind, .string c.name, .string c.dest, .int .i64 c.a, .int .i64 c.b, .string c.text] _).alloc _).alloc _)
  have R0 := Lib.hid (show Box W0 (w.heap.size + 1) [.int .i64 0, .int .i64 0, .string ⟨#[]⟩] from by
    subst hW0
    have h := Box.new (w.alloc (.cells #[.int .i64 c.kind, .string c.name, .string c.dest, .int .i64 c.a, .int .i64 c.b, .string c.text] 36)) [.int .i64 0, .int .i64 0, .string ⟨#[]⟩] 28
    rw [show (w.alloc (.cells #[.int .i64 c.kind, .string c.name, .string c.dest, .int .i64 c.a, .int .i64 c.b, .string c.text] 36)).heap.size = w.heap.size + 1 by simp] at h
    exact h.alloc _)
  have T0 := Lib.hid (show Box W0 (w.heap.size + 2) [.slice none 0 0, .slice none 0 0] from by
    subst hW0
    have h := Box.new ((w.alloc (.cells #[.int .i64 c.kind, .string c.name, .string c.dest, .int .i64 c.a, .int .i64 c.b, .string c.text] 36)).alloc (.cells #[.int .i64 0, .int .i64 0, .string ⟨#[]⟩] 28)) [.slice none 0 0, .slice none 0 0] 31
    rw [show ((w.alloc (.cells #[.int .i64 c.kind, .string c.name, .string c.dest, .int .i64 c.a, .int .i64 c.b, .string c.text] 36)).alloc (.cells #[.int .i64 0, .int .i64 0, .string ⟨#[]⟩] 28)).heap.size = w.heap.size + 2 by simp] at h
    exact h)
  have KM := Lib.hid (implMachOf_c a cap xs W0 (by omega) (hr.below HB0.out))
  have HDD := Lib.hid HD
  clear HD hr
  subst hW0
  go_enter Tryz.func13, Tryz.ntmps13
  go_wp2_with fail
  refine KM.out.mono ?_
  rintro e w1 ⟨v, rfl, ho1, hb1⟩
  obtain ⟨av, cv, hv, _⟩ := reads_of_owns encC_len ho1
  subst hv
  have B1 := Lib.hid (HB0.out.trans (hb1.mono HB0.out.size))
  have C1 := Lib.hid (C0.out.below hb1)
  have R1 := Lib.hid (R0.out.below hb1)
  have T1 := Lib.hid (T0.out.below hb1)
  have hs1 := hb1.size
  obtain ⟨W1, hW1⟩ : ∃ W1, W1 = w1.alloc (.cells #[.slice av xs.length cv, .slice none 0 0, .slice none 0 0] 87) := ⟨_, rfl⟩
  have hB1 : Below w1.heap.size w1 W1 := by subst hW1; exact (by repeat (first | exact Below.refl _ _ | refine Below.drew ?_ | refine below_drewN ?_ _ | refine Below.allocC ?_ _ | refine Below.setCell ?_ (by first | (simp; done) | (simp; omega)) _ | refine Below.chain ?_ (by assumption)))
  have M1 := mach_at (base := w.heap.size) (by omega) (ownsRow_base ho1 (by omega)) hW1
  have HB1 := Lib.hid (B1.out.trans (hB1.mono B1.out.size))
  have KD := Lib.hid (HDD.out _ _ _ _ W1 M1 HB1.out)
  have HM1 := Lib.hid M1
  have k0 := (C1.out.below hB1).cell 0 _ rfl
  have k1 := (C1.out.below hB1).cell 1 _ rfl
  have k2 := (C1.out.below hB1).cell 2 _ rfl
  have k3 := (C1.out.below hB1).cell 3 _ rfl
  have k4 := (C1.out.below hB1).cell 4 _ rfl
  have k5 := (C1.out.below hB1).cell 5 _ rfl
  have R2 := Lib.hid (R1.out.below hB1)
  have T2 := Lib.hid (T1.out.below hB1)
  have hs2 := hB1.size
  have own1 := Lib.hid (fun b (e : (Value.slice av xs.length cv).ownBlock = some b) => show w.heap.size + 3 < b from by have := (ho1.lt b e).1; omega)
  clear ho1 hb1 KM M1 C0 R0 T0 C1 R1 T1 hB1 HDD B1
  subst hW1
  go_wp2_with fail
  refine KD.out.mono ?_
  rintro e w2 ⟨u1, u2, u3, rfl, hm, hg, q1, q2, q3⟩
  obtain ⟨ax1, kx1, hx1, _⟩ := reads_of_owns encC_len hm.o1
  obtain ⟨ax2, kx2, hx2, _⟩ := reads_of_owns encS_len hm.o2
  obtain ⟨ax3, kx3, hx3, _⟩ := reads_of_owns encS_len hm.o3
  subst hx1 hx2 hx3
  have far : ∀ b ys, w.heap.size ≤ b → b < w.heap.size + 3 → Box (w1.alloc (.cells #[.slice av xs.length cv, .slice none 0 0, .slice none 0 0] 87)) b ys → Box w2 b ys := fun b ys h1 h2 hb => by
    have f0 := HM1.out
    exact ⟨Nat.lt_of_lt_of_le hb.1 hg.size, hb.2.elim fun T hT => ⟨T, (hg.block b hb.1 (by omega) (fun e => by have := (own1.out b e); omega) (by simp [Value.ownBlock]) (by simp [Value.ownBlock])).trans hT⟩⟩
  have R3 := far _ _ (by omega) (by omega) R2.out
  have T3 : Box w2 (w.heap.size + 1 + 1) [.slice none 0 0, .slice none 0 0] := far _ _ (by omega) (by omega) T2.out
  have hB3 := HB1.out.trans (HM1.out.grow hg)
  have hsz3 := hg.size
  have nw : ∀ u v0 : Value, OwnOr (w1.alloc (.cells #[.slice av xs.length cv, .slice none 0 0, .slice none 0 0] 87)) v0 u → (∀ b, v0.ownBlock = some b → w.heap.size + 3 < b) → ∀ b, b < w.heap.size + 3 → u.ownBlock ≠ some b := fun u v0 ho hv b hb e => by
    rcases ho with h | h
    · have := hv b (h ▸ e); omega
    · have := h b e
      have := HM1.out.box.1
      omega
  have SX : CS w w1.heap.size w2.heap.size (.slice ax1 m'.st.length kx1) (.slice ax2 m'.rs.length kx2) (.slice ax3 m'.ws.length kx3) m' [.int .i64 an.code, .int .i64 an.n, .string an.text] (w2.alloc (.cells #[.int .i64 an.code, .int .i64 an.n, .string an.text] 28)) := by
    have hb : Below w2.heap.size w2 (w2.alloc (.cells #[.int .i64 an.code, .int .i64 an.n, .string an.text] 28)) := (by repeat (first | exact Below.refl _ _ | refine Below.drew ?_ | refine below_drewN ?_ _ | refine Below.allocC ?_ _ | refine Below.setCell ?_ (by first | (simp; done) | (simp; omega)) _ | refine Below.chain ?_ (by assumption)))
    exact ⟨hm.box.below hb, Box.new w2 [.int .i64 an.code, .int .i64 an.n, .string an.text] _, ownsRow_below hm.o1 hb, ownsRow_below hm.o2 hb, ownsRow_below hm.o3 hb, fun b h1 h2 => ⟨nw _ _ q1 own1.out b h2, nw _ _ q2 (by simp [Value.ownBlock]) b h2, nw _ _ q3 (by simp [Value.ownBlock]) b h2⟩, hB3.trans (hb.mono hB3.size)⟩
  have cr0 : ∀ W, CS w w1.heap.size w2.heap.size (.slice ax1 m'.st.length kx1) (.slice ax2 m'.rs.length kx2) (.slice ax3 m'.ws.length kx3) m' [.int .i64 an.code, .int .i64 an.n, .string an.text] W → W.cell? ⟨w1.heap.size, 0, none⟩ = some (.slice ax1 m'.st.length kx1) := fun W h => h.m.cell 0 _ rfl
  have cr1 : ∀ W, CS w w1.heap.size w2.heap.size (.slice ax1 m'.st.length kx1) (.slice ax2 m'.rs.length kx2) (.slice ax3 m'.ws.length kx3) m' [.int .i64 an.code, .int .i64 an.n, .string an.text] W → W.cell? ⟨w1.heap.size, 1, none⟩ = some (.slice ax2 m'.rs.length kx2) := fun W h => h.m.cell 1 _ rfl
  have cr2 : ∀ W, CS w w1.heap.size w2.heap.size (.slice ax1 m'.st.length kx1) (.slice ax2 m'.rs.length kx2) (.slice ax3 m'.ws.length kx3) m' [.int .i64 an.code, .int .i64 an.n, .string an.text] W → W.cell? ⟨w1.heap.size, 2, none⟩ = some (.slice ax3 m'.ws.length kx3) := fun W h => h.m.cell 2 _ rfl
  have ca0 : ∀ W, CS w w1.heap.size w2.heap.size (.slice ax1 m'.st.length kx1) (.slice ax2 m'.rs.length kx2) (.slice ax3 m'.ws.length kx3) m' [.int .i64 an.code, .int .i64 an.n, .string an.text] W → W.cell? ⟨w2.heap.size, 0, none⟩ = some (.int .i64 an.code) := fun W h => h.a.cell 0 _ rfl
  have ca1 : ∀ W, CS w w1.heap.size w2.heap.size (.slice ax1 m'.st.length kx1) (.slice ax2 m'.rs.length kx2) (.slice ax3 m'.ws.length kx3) m' [.int .i64 an.code, .int .i64 an.n, .string an.text] W → W.cell? ⟨w2.heap.size, 1, none⟩ = some (.int .i64 an.n) := fun W h => h.a.cell 1 _ rfl
  have ca2 : ∀ W, CS w w1.heap.size w2.heap.size (.slice ax1 m'.st.length kx1) (.slice ax2 m'.rs.length kx2) (.slice ax3 m'.ws.length kx3) m' [.int .i64 an.code, .int .i64 an.n, .string an.text] W → W.cell? ⟨w2.heap.size, 2, none⟩ = some (.string an.text) := fun W h => h.a.cell 2 _ rfl
  have rc0 := (R3.alloc (.cells #[.int .i64 an.code, .int .i64 an.n, .string an.text] 28)).cell 0 _ rfl
  have rf0 := (R3.alloc (.cells #[.int .i64 an.code, .int .i64 an.n, .string an.text] 28)).free 0
  have rc1 := (R3.alloc (.cells #[.int .i64 an.code, .int .i64 an.n, .string an.text] 28)).cell 1 _ rfl
  have rf1 := (R3.alloc (.cells #[.int .i64 an.code, .int .i64 an.n, .string an.text] 28)).free 1
  have rc2 := (R3.alloc (.cells #[.int .i64 an.code, .int .i64 an.n, .string an.text] 28)).cell 2 _ rfl
  have rf2 := (R3.alloc (.cells #[.int .i64 an.code, .int .i64 an.n, .string an.text] 28)).free 2
  have tc0 := (T3.alloc (.cells #[.int .i64 an.code, .int .i64 an.n, .string an.text] 28)).cell 0 _ rfl
  have tf0 := (T3.alloc (.cells #[.int .i64 an.code, .int .i64 an.n, .string an.text] 28)).free 0
  have tc1 := (T3.alloc (.cells #[.int .i64 an.code, .int .i64 an.n, .string an.text] 28)).cell 1 _ rfl
  have tf1 := (T3.alloc (.cells #[.int .i64 an.code, .int .i64 an.n, .string an.text] 28)).free 1
  have D12 := Lib.hid hm.d12
  have D13 := Lib.hid hm.d13
  have D23 := Lib.hid hm.d23
  have hp2 := hm.box.1
  have hn1 : ¬ w.heap.size + 1 + 1 = w.heap.size + 1 := by omega
  have hn2 : ¬ w.heap.size + 1 = w.heap.size + 1 + 1 := by omega
  clear hm hg q1 q2 q3 far nw k0 k1 k2 k3 k4 k5 KD HM1 HB1 R2 T2 R3 T3 hB3 own1 HB0
  go_wp2_with fail
  go_region_held3 (fun w' => CS w w1.heap.size w2.heap.size (.slice ax1 m'.st.length kx1) (.slice ax2 m'.rs.length kx2) (.slice ax3 m'.ws.length kx3) m' [.int .i64 an.code, .int .i64 an.n, .string an.text] w') (first | with_reducible assumption | ((repeat (first | with_reducible refine CS.drew ?_ | with_reducible refine CS.set ?_ (by omega) (by omega) (by omega) (by omega) _ _)); with_reducible assumption)) (fail)
  all_goals
    go_wp2
    exact bodyPost_ret (v := .tuple #[(.slice ax1 m'.st.length kx1), .agg #[.int .i64 an.code, .int .i64 an.n, .string an.text], .agg #[(.slice ax2 m'.rs.length kx2), (.slice ax3 m'.ws.length kx3)]]) (by simp [results, Tryz.results13, go_sem, *]) rfl (CS.ret an (bm := w1.heap.size) (ba := w2.heap.size) (ys := [.int .i64 an.code, .int .i64 an.n, .string an.text]) (by with_reducible assumption) D12.out D13.out D23.out)
end Go.Proofs.YtihghflppegnmaaGreatDoor
