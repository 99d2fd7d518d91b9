/- Contracts for the laws' helpers on a Mach and for SameMach of both sides. Conditions: only the bounds that any Go string and slice meets. -/
import Derived.Test.YtnccenfdclmkkaaSliceCell
import Derived.Test.YtnccenfdclmkkaaTouch
import Derived.Test.YtnccenfdclmkkaaSameTouch
import Derived.Test.YtnccenfdclmkkaaEqSCell
import Derived.Test.YtnccenfdclmkkaaImplSameStore
namespace Go.Proofs.Ytnccenfdclmkkaa
open Go.RowKit
def bulkM (xs : List (ByteArray × ByteArray)) (rs ws : List ByteArray) : Nat := bulkL bulkC xs + bulkT rs ws
/-- What an argument of the kind Mach gives. -/
def IsMach (w : World) (a b g : Option Addr) (xs : List (ByteArray × ByteArray)) (rs ws : List ByteArray) : Prop :=
  (xs.length ≤ maxLen ∧ Reads w a 2 encC xs ∧ ∀ x ∈ xs, okC x) ∧ (rs.length ≤ maxLen ∧ Reads w b 1 encS rs ∧ ∀ x ∈ rs, x.size ≤ maxLen) ∧ (ws.length ≤ maxLen ∧ Reads w g 1 encS ws ∧ ∀ x ∈ ws, x.size ≤ maxLen)
theorem IsMach.below {w w' : World} {a b g : Option Addr} {xs : List (ByteArray × ByteArray)} {rs ws : List ByteArray} (h : IsMach w a b g xs rs ws) (hb : Below w.heap.size w w') : IsMach w' a b g xs rs ws :=
  ⟨⟨h.1.1, h.1.2.1.below hb, h.1.2.2⟩, ⟨h.2.1.1, h.2.1.2.1.below hb, h.2.1.2.2⟩, ⟨h.2.2.1, h.2.2.2.1.below hb, h.2.2.2.2⟩⟩

set_option maxHeartbeats 1600000 in
theorem szMach_c (a b g : Option Addr) (c d h : Nat) (xs : List (ByteArray × ByteArray)) (rs ws : List ByteArray) (left : Int) (l0 : 0 ≤ left) (l1 : left ≤ 1048576) (w : World) (hm : IsMach w a b g xs rs ws) :
    Calls Try.prog 34 #[.agg #[.slice a xs.length c, .slice b rs.length d, .slice g ws.length h], .int .i64 left] w fun e w' => e = .returned (.int .i64 (szSub left (bulkM xs rs ws))) ∧ Below w.heap.size w w' := by
  have HM := Lib.hid hm
  clear hm
  have HB : Below w.heap.size w (w.alloc (.cells #[.slice a xs.length c, .slice b rs.length d, .slice g ws.length h] 44)) := (by repeat (first | exact Below.refl _ _ | refine Below.drew ?_ | refine below_drewN ?_ _ | refine Below.allocC ?_ _ | refine Below.setCell ?_ (by first | (simp; done) | (simp; omega)) _ | refine Below.chain ?_ (by assumption)))
  by_cases h1 : left < (bulkL bulkC xs : Nat)
  · have E1 := Lib.hid (szSub_no h1)
    have ET := Lib.hid (szSub_no (left := left) (n := bulkM xs rs ws) (by unfold bulkM; omega))
    clear h1
    go_enter Try.func34, Try.ntmps34
    go_wp2_with fail
    refine (szCellS_c _ _ _ _ l0 l1 _ HM.out.1.1 (HM.out.1.2.1.below HB) HM.out.1.2.2).mono ?_
    rintro e w1 ⟨rfl, hb1⟩
    rw [E1.out]
    go_wp2
    go_ret
    exact ⟨by rw [ET.out]; rfl, (by repeat (first | exact Below.refl _ _ | refine Below.drew ?_ | refine below_drewN ?_ _ | refine Below.allocC ?_ _ | refine Below.setCell ?_ (by first | (simp; done) | (simp; omega)) _ | refine Below.chain ?_ (by assumption)))⟩
  · have E1 := Lib.hid (szSub_yes (left := left) (n := bulkL bulkC xs) (by omega))
    by_cases h2 : left - (bulkL bulkC xs : Nat) < (bulkT rs ws : Nat)
    · have E2 := Lib.hid (szSub_no h2)
      have ET := Lib.hid (szSub_no (left := left) (n := bulkM xs rs ws) (by unfold bulkM; omega))
      clear h2
      go_enter Try.func34, Try.ntmps34
      go_wp2_with fail
      refine (szCellS_c _ _ _ _ l0 l1 _ HM.out.1.1 (HM.out.1.2.1.below HB) HM.out.1.2.2).mono ?_
      rintro e w1 ⟨rfl, hb1⟩
      rw [E1.out]
      have X0 := (Box.new w [.slice a xs.length c, .slice b rs.length d, .slice g ws.length h] 44).below hb1
      have f1 := X0.cell 1 _ rfl
      have f2 := X0.cell 2 _ rfl
      have M1 := (HM.out.below HB).below hb1
      have HMM := Lib.hid M1
      clear M1
      go_wp2_with fail
      refine (szTouch_c _ _ _ _ _ _ _ (by omega) (by omega) _ HMM.out.2.1 HMM.out.2.2).mono ?_
      rintro e w2 ⟨rfl, hb2⟩
      rw [E2.out]
      go_wp2
      go_ret
      exact ⟨by rw [ET.out]; rfl, (by repeat (first | exact Below.refl _ _ | refine Below.drew ?_ | refine below_drewN ?_ _ | refine Below.allocC ?_ _ | refine Below.setCell ?_ (by first | (simp; done) | (simp; omega)) _ | refine Below.chain ?_ (by assumption)))⟩
    · have E2 := Lib.hid (szSub_yes (left := left - (bulkL bulkC xs : Nat)) (n := bulkT rs ws) (by omega))
      have ET := Lib.hid (show szSub left (bulkM xs rs ws) = left - (bulkL bulkC xs : Nat) - (bulkT rs ws : Nat) by rw [szSub_yes (by unfold bulkM; omega)]; unfold bulkM; omega)
      go_enter Try.func34, Try.ntmps34
      go_wp2_with fail
      refine (szCellS_c _ _ _ _ l0 l1 _ HM.out.1.1 (HM.out.1.2.1.below HB) HM.out.1.2.2).mono ?_
      rintro e w1 ⟨rfl, hb1⟩
      rw [E1.out]
      have X0 := (Box.new w [.slice a xs.length c, .slice b rs.length d, .slice g ws.length h] 44).below hb1
      have f1 := X0.cell 1 _ rfl
      have f2 := X0.cell 2 _ rfl
      have M1 := (HM.out.below HB).below hb1
      have HMM := Lib.hid M1
      clear M1
      go_wp2_with fail
      refine (szTouch_c _ _ _ _ _ _ _ (by omega) (by omega) _ HMM.out.2.1 HMM.out.2.2).mono ?_
      rintro e w2 ⟨rfl, hb2⟩
      rw [E2.out]
      go_wp2
      go_ret
      exact ⟨by rw [ET.out]; rfl, (by repeat (first | exact Below.refl _ _ | refine Below.drew ?_ | refine below_drewN ?_ _ | refine Below.allocC ?_ _ | refine Below.setCell ?_ (by first | (simp; done) | (simp; omega)) _ | refine Below.chain ?_ (by assumption)))⟩

set_option maxHeartbeats 1600000 in
theorem eqMach_c (a b g : Option Addr) (c d h : Nat) (xs : List (ByteArray × ByteArray)) (rs ws : List ByteArray) (a' b' g' : Option Addr) (c' d' h' : Nat) (xs' : List (ByteArray × ByteArray)) (rs' ws' : List ByteArray) (w : World) (l1 : xs.length ≤ maxLen) (l2 : rs.length ≤ maxLen) (l3 : ws.length ≤ maxLen) (h1 : Reads w a 2 encC xs) (h2 : Reads w b 1 encS rs) (h3 : Reads w g 1 encS ws) (h4 : Reads w a' 2 encC xs') (h5 : Reads w b' 1 encS rs') (h6 : Reads w g' 1 encS ws') :
    Calls Try.prog 38 #[.agg #[.slice a xs.length c, .slice b rs.length d, .slice g ws.length h], .agg #[.slice a' xs'.length c', .slice b' rs'.length d', .slice g' ws'.length h']] w fun e w' => e = .returned (.bool (same xs xs' && (same rs rs' && same ws ws'))) ∧ Below w.heap.size w w' := by
  have HB : Below w.heap.size w ((w.alloc (.cells #[.slice a xs.length c, .slice b rs.length d, .slice g ws.length h] 48)).alloc (.cells #[.slice a' xs'.length c', .slice b' rs'.length d', .slice g' ws'.length h'] 48)) := ((Below.refl _ _).alloc (Nat.le_refl _) _).alloc (by simp) _
  have K1 := Lib.hid (fun (W : World) (hW : Below w.heap.size w W) => eqCellS_c a a' c c' xs xs' W l1 (h1.below hW) (h4.below hW))
  have K2 := Lib.hid (fun (W : World) (hW : Below w.heap.size w W) => eqTouch_c b g b' g' d h d' h' rs ws rs' ws' W l2 l3 (h2.below hW) (h3.below hW) (h5.below hW) (h6.below hW))
  have X0 := (Box.new w [.slice a xs.length c, .slice b rs.length d, .slice g ws.length h] 48).alloc (.cells #[.slice a' xs'.length c', .slice b' rs'.length d', .slice g' ws'.length h'] 48)
  have X1 := Box.new (w.alloc (.cells #[.slice a xs.length c, .slice b rs.length d, .slice g ws.length h] 48)) [.slice a' xs'.length c', .slice b' rs'.length d', .slice g' ws'.length h'] 48
  have H0 := Lib.hid X0
  have H1 := Lib.hid X1
  have HBB := Lib.hid HB
  clear h1 h2 h3 h4 h5 h6 l1 l2 l3 X0 X1 HB
  cases hr : same xs xs'
  · go_enter Try.func38, Try.ntmps38
    go_wp2_with fail
    refine (K1.out _ HBB.out).mono ?_
    rintro e w1 ⟨rfl, hb1⟩
    rw [hr]
    go_wp2
    go_ret
    exact ⟨rfl, HBB.out.trans (hb1.mono HBB.out.size)⟩
  · go_enter Try.func38, Try.ntmps38
    go_wp2_with fail
    refine (K1.out _ HBB.out).mono ?_
    rintro e w1 ⟨rfl, hb1⟩
    rw [hr]
    have B1 := HBB.out.trans (hb1.mono HBB.out.size)
    have Y0 := H0.out.below hb1
    have Y1 := H1.out.below hb1
    simp only [World.size_alloc] at Y1
    have f1 := Y0.cell 1 _ rfl
    have f2 := Y0.cell 2 _ rfl
    have f3 := Y1.cell 1 _ rfl
    have f4 := Y1.cell 2 _ rfl
    clear Y0 Y1
    go_wp2_with fail
    refine (K2.out _ B1).mono ?_
    rintro e w2 ⟨rfl, hb2⟩
    have B2 := B1.trans (hb2.mono B1.size)
    cases hw : (same rs rs' && same ws ws')
    all_goals
      go_wp2
      go_ret
      exact ⟨by first | rfl | (rw [hw]; rfl), B2⟩

set_option maxHeartbeats 1600000 in
theorem specSameMach_c (a b g : Option Addr) (c d h : Nat) (xs : List (ByteArray × ByteArray)) (rs ws : List ByteArray) (a' b' g' : Option Addr) (c' d' h' : Nat) (xs' : List (ByteArray × ByteArray)) (rs' ws' : List ByteArray) (w : World) (l1 : xs.length ≤ maxLen) (l2 : rs.length ≤ maxLen) (l3 : ws.length ≤ maxLen) (h1 : Reads w a 2 encC xs) (h2 : Reads w b 1 encS rs) (h3 : Reads w g 1 encS ws) (h4 : Reads w a' 2 encC xs') (h5 : Reads w b' 1 encS rs') (h6 : Reads w g' 1 encS ws') :
    Calls Try.prog 35 #[.agg #[.slice a xs.length c, .slice b rs.length d, .slice g ws.length h], .agg #[.slice a' xs'.length c', .slice b' rs'.length d', .slice g' ws'.length h']] w fun e w' => e = .returned (.bool (same xs xs' && (same rs rs' && same ws ws'))) ∧ Below w.heap.size w w' := by
  have HB : Below w.heap.size w ((w.alloc (.cells #[.slice a xs.length c, .slice b rs.length d, .slice g ws.length h] 48)).alloc (.cells #[.slice a' xs'.length c', .slice b' rs'.length d', .slice g' ws'.length h'] 48)) := ((Below.refl _ _).alloc (Nat.le_refl _) _).alloc (by simp) _
  have K1 := Lib.hid (fun (W : World) (hW : Below w.heap.size w W) => specEqCell_c a a' c c' xs xs' W l1 (h1.below hW) (h4.below hW))
  have K2 := Lib.hid (fun (W : World) (hW : Below w.heap.size w W) => specSameTouch_c b g b' g' d h d' h' rs ws rs' ws' W l2 l3 (h2.below hW) (h3.below hW) (h5.below hW) (h6.below hW))
  have X0 := (Box.new w [.slice a xs.length c, .slice b rs.length d, .slice g ws.length h] 48).alloc (.cells #[.slice a' xs'.length c', .slice b' rs'.length d', .slice g' ws'.length h'] 48)
  have X1 := Box.new (w.alloc (.cells #[.slice a xs.length c, .slice b rs.length d, .slice g ws.length h] 48)) [.slice a' xs'.length c', .slice b' rs'.length d', .slice g' ws'.length h'] 48
  have H0 := Lib.hid X0
  have H1 := Lib.hid X1
  have HBB := Lib.hid HB
  clear h1 h2 h3 h4 h5 h6 l1 l2 l3 X0 X1 HB
  cases hr : same xs xs'
  · go_enter Try.func35, Try.ntmps35
    go_wp2_with fail
    refine (K1.out _ HBB.out).mono ?_
    rintro e w1 ⟨rfl, hb1⟩
    rw [hr]
    go_wp2
    go_ret
    exact ⟨rfl, HBB.out.trans (hb1.mono HBB.out.size)⟩
  · go_enter Try.func35, Try.ntmps35
    go_wp2_with fail
    refine (K1.out _ HBB.out).mono ?_
    rintro e w1 ⟨rfl, hb1⟩
    rw [hr]
    have B1 := HBB.out.trans (hb1.mono HBB.out.size)
    have Y0 := H0.out.below hb1
    have Y1 := H1.out.below hb1
    simp only [World.size_alloc] at Y1
    have f1 := Y0.cell 1 _ rfl
    have f2 := Y0.cell 2 _ rfl
    have f3 := Y1.cell 1 _ rfl
    have f4 := Y1.cell 2 _ rfl
    clear Y0 Y1
    go_wp2_with fail
    refine (K2.out _ B1).mono ?_
    rintro e w2 ⟨rfl, hb2⟩
    have B2 := B1.trans (hb2.mono B1.size)
    cases hw : (same rs rs' && same ws ws')
    all_goals
      go_wp2
      go_ret
      exact ⟨by first | rfl | (rw [hw]; rfl), B2⟩

set_option maxHeartbeats 1600000 in
theorem implSameMach_c (a b g : Option Addr) (c d h : Nat) (xs : List (ByteArray × ByteArray)) (rs ws : List ByteArray) (a' b' g' : Option Addr) (c' d' h' : Nat) (xs' : List (ByteArray × ByteArray)) (rs' ws' : List ByteArray) (w : World) (l1 : xs.length ≤ maxLen) (l2 : rs.length ≤ maxLen) (l3 : ws.length ≤ maxLen) (h1 : Reads w a 2 encC xs) (h2 : Reads w b 1 encS rs) (h3 : Reads w g 1 encS ws) (h4 : Reads w a' 2 encC xs') (h5 : Reads w b' 1 encS rs') (h6 : Reads w g' 1 encS ws') :
    Calls Try.prog 37 #[.agg #[.slice a xs.length c, .slice b rs.length d, .slice g ws.length h], .agg #[.slice a' xs'.length c', .slice b' rs'.length d', .slice g' ws'.length h']] w fun e w' => e = .returned (.bool (same xs xs' && (same rs rs' && same ws ws'))) ∧ Below w.heap.size w w' := by
  have HB : Below w.heap.size w ((w.alloc (.cells #[.slice a xs.length c, .slice b rs.length d, .slice g ws.length h] 48)).alloc (.cells #[.slice a' xs'.length c', .slice b' rs'.length d', .slice g' ws'.length h'] 48)) := ((Below.refl _ _).alloc (Nat.le_refl _) _).alloc (by simp) _
  have K1 := Lib.hid (fun (W : World) (hW : Below w.heap.size w W) => implSameStore_c a a' c c' xs xs' W l1 (h1.below hW) (h4.below hW))
  have K2 := Lib.hid (fun (W : World) (hW : Below w.heap.size w W) => implSameTouch_c b g b' g' d h d' h' rs ws rs' ws' W l2 l3 (h2.below hW) (h3.below hW) (h5.below hW) (h6.below hW))
  have X0 := (Box.new w [.slice a xs.length c, .slice b rs.length d, .slice g ws.length h] 48).alloc (.cells #[.slice a' xs'.length c', .slice b' rs'.length d', .slice g' ws'.length h'] 48)
  have X1 := Box.new (w.alloc (.cells #[.slice a xs.length c, .slice b rs.length d, .slice g ws.length h] 48)) [.slice a' xs'.length c', .slice b' rs'.length d', .slice g' ws'.length h'] 48
  have H0 := Lib.hid X0
  have H1 := Lib.hid X1
  have HBB := Lib.hid HB
  clear h1 h2 h3 h4 h5 h6 l1 l2 l3 X0 X1 HB
  cases hr : same xs xs'
  · go_enter Try.func37, Try.ntmps37
    go_wp2_with fail
    refine (K1.out _ HBB.out).mono ?_
    rintro e w1 ⟨rfl, hb1⟩
    rw [hr]
    go_wp2
    go_ret
    exact ⟨rfl, HBB.out.trans (hb1.mono HBB.out.size)⟩
  · go_enter Try.func37, Try.ntmps37
    go_wp2_with fail
    refine (K1.out _ HBB.out).mono ?_
    rintro e w1 ⟨rfl, hb1⟩
    rw [hr]
    have B1 := HBB.out.trans (hb1.mono HBB.out.size)
    have Y0 := H0.out.below hb1
    have Y1 := H1.out.below hb1
    simp only [World.size_alloc] at Y1
    have f1 := Y0.cell 1 _ rfl
    have f2 := Y0.cell 2 _ rfl
    have f3 := Y1.cell 1 _ rfl
    have f4 := Y1.cell 2 _ rfl
    clear Y0 Y1
    go_wp2_with fail
    refine (K2.out _ B1).mono ?_
    rintro e w2 ⟨rfl, hb2⟩
    have B2 := B1.trans (hb2.mono B1.size)
    cases hw : (same rs rs' && same ws ws')
    all_goals
      go_wp2
      go_ret
      exact ⟨by first | rfl | (rw [hw]; rfl), B2⟩

end Go.Proofs.Ytnccenfdclmkkaa
