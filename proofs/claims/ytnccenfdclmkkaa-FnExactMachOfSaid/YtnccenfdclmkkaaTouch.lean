/- Contracts for the laws' helpers on a Touch (two slices of strings): szTouch counts, toTouch copies. Conditions: only the bounds that any Go string and slice meets. -/
import Derived.Test.YtnccenfdclmkkaaSliceString
namespace Go.Proofs.Ytnccenfdclmkkaa
open Go.RowKit
def bulkT (rs ws : List ByteArray) : Nat := bulkL bulkS rs + bulkL bulkS ws

set_option maxHeartbeats 1600000 in
theorem szTouch_c (a b : Option Addr) (c d : Nat) (rs ws : List ByteArray) (left : Int) (l0 : 0 ≤ left) (l1 : left ≤ 1048576) (w : World)
    (hr : rs.length ≤ maxLen ∧ Reads w a 1 encS rs ∧ ∀ x ∈ rs, x.size ≤ maxLen) (hw : ws.length ≤ maxLen ∧ Reads w b 1 encS ws ∧ ∀ x ∈ ws, x.size ≤ maxLen) :
    Calls Try.prog 29 #[.agg #[.slice a rs.length c, .slice b ws.length d], .int .i64 left] w fun e w' => e = .returned (.int .i64 (szSub left (bulkT rs ws))) ∧ Below w.heap.size w w' := by
  have HR := Lib.hid hr
  have HW := Lib.hid hw
  clear hr hw
  have HB : Below w.heap.size w (w.alloc (.cells #[.slice a rs.length c, .slice b ws.length d] 37)) := (by repeat (first | exact Below.refl _ _ | refine Below.drew ?_ | refine below_drewN ?_ _ | refine Below.allocC ?_ _ | refine Below.setCell ?_ (by first | (simp; done) | (simp; omega)) _ | refine Below.chain ?_ (by assumption)))
  by_cases h1 : left < (bulkL bulkS rs : Nat)
  · have E1 := Lib.hid (szSub_no h1)
    have ET := Lib.hid (szSub_no (left := left) (n := bulkT rs ws) (by unfold bulkT; omega))
    clear h1
    go_enter Try.func29, Try.ntmps29
    go_wp2_with fail
    refine (szStringS_c _ _ _ _ l0 l1 _ HR.out.1 (HR.out.2.1.below HB) HR.out.2.2).mono ?_
    rintro e w1 ⟨rfl, hb1⟩
    rw [E1.out]
    go_wp2
    go_ret
    exact ⟨by rw [ET.out]; rfl, (by repeat (first | exact Below.refl _ _ | refine Below.drew ?_ | refine below_drewN ?_ _ | refine Below.allocC ?_ _ | refine Below.setCell ?_ (by first | (simp; done) | (simp; omega)) _ | refine Below.chain ?_ (by assumption)))⟩
  · have E1 := Lib.hid (szSub_yes (left := left) (n := bulkL bulkS rs) (by omega))
    by_cases h2 : left - (bulkL bulkS rs : Nat) < (bulkL bulkS ws : Nat)
    · have E2 := Lib.hid (szSub_no h2)
      have ET := Lib.hid (szSub_no (left := left) (n := bulkT rs ws) (by unfold bulkT; omega))
      clear h2
      go_enter Try.func29, Try.ntmps29
      go_wp2_with fail
      refine (szStringS_c _ _ _ _ l0 l1 _ HR.out.1 (HR.out.2.1.below HB) HR.out.2.2).mono ?_
      rintro e w1 ⟨rfl, hb1⟩
      rw [E1.out]
      have X0 := (Box.new w [.slice a rs.length c, .slice b ws.length d] 37).below hb1
      have f0 := X0.cell 0 _ rfl
      have f1 := X0.cell 1 _ rfl
      go_wp2_with fail
      refine (szStringS_c _ _ _ _ (by omega) (by omega) _ HW.out.1 ((HW.out.2.1.below HB).below hb1) HW.out.2.2).mono ?_
      rintro e w2 ⟨rfl, hb2⟩
      rw [E2.out]
      go_wp2
      go_ret
      exact ⟨by rw [ET.out]; rfl, (by repeat (first | exact Below.refl _ _ | refine Below.drew ?_ | refine below_drewN ?_ _ | refine Below.allocC ?_ _ | refine Below.setCell ?_ (by first | (simp; done) | (simp; omega)) _ | refine Below.chain ?_ (by assumption)))⟩
    · have E2 := Lib.hid (szSub_yes (left := left - (bulkL bulkS rs : Nat)) (n := bulkL bulkS ws) (by omega))
      have ET := Lib.hid (show szSub left (bulkT rs ws) = left - (bulkL bulkS rs : Nat) - (bulkL bulkS ws : Nat) by rw [szSub_yes (by unfold bulkT; omega)]; unfold bulkT; omega)
      go_enter Try.func29, Try.ntmps29
      go_wp2_with fail
      refine (szStringS_c _ _ _ _ l0 l1 _ HR.out.1 (HR.out.2.1.below HB) HR.out.2.2).mono ?_
      rintro e w1 ⟨rfl, hb1⟩
      rw [E1.out]
      have X0 := (Box.new w [.slice a rs.length c, .slice b ws.length d] 37).below hb1
      have f0 := X0.cell 0 _ rfl
      have f1 := X0.cell 1 _ rfl
      go_wp2_with fail
      refine (szStringS_c _ _ _ _ (by omega) (by omega) _ HW.out.1 ((HW.out.2.1.below HB).below hb1) HW.out.2.2).mono ?_
      rintro e w2 ⟨rfl, hb2⟩
      rw [E2.out]
      go_wp2
      go_ret
      exact ⟨by rw [ET.out]; rfl, (by repeat (first | exact Below.refl _ _ | refine Below.drew ?_ | refine below_drewN ?_ _ | refine Below.allocC ?_ _ | refine Below.setCell ?_ (by first | (simp; done) | (simp; omega)) _ | refine Below.chain ?_ (by assumption)))⟩

/-- A call returned a Touch whose two slices lie in memory of its own, the second in newer memory than the first. -/
def FreshT (T : Nat) (rs ws : List ByteArray) (w : World) (e : Ending) (w' : World) : Prop :=
  ∃ v1 v2 B2, e = .returned (.agg #[v1, v2]) ∧ w.heap.size ≤ B2 ∧ (∀ k, v1.ownBlock = some k → k < B2) ∧ w'.ownsRow w.heap.size T 1 v1 rs.length (rs.flatMap encS) ∧ w'.ownsRow B2 T 1 v2 ws.length (ws.flatMap encS) ∧ Below w.heap.size w w'

theorem boxS (w : World) (b : Nat) (xs : List Value) (i : Nat) (v : Value) (h : Box w b xs) : Box (w.setCell ⟨b, i, none⟩ v) b (xs.set i v) := by
  obtain ⟨h1, T, h2⟩ := h
  refine ⟨by simpa [World.setCell] using h1, T, ?_⟩
  have := heap_setCell_same w b i xs.toArray T v h2
  simpa using this
theorem boxO {w : World} {b b' : Nat} {xs : List Value} (h : Box w b xs) (hne : b ≠ b') (i : Nat) (v : Value) : Box (w.setCell ⟨b', i, none⟩ v) b xs := by
  obtain ⟨h1, T, h2⟩ := h
  exact ⟨by simpa [World.setCell] using h1, T, (heap_setCell_other w ⟨b', i, none⟩ b v hne).trans h2⟩

set_option maxHeartbeats 3200000 in
theorem toTouch_c (a b : Option Addr) (c d : Nat) (rs ws : List ByteArray) (w : World) (hr : rs.length ≤ 1048576 ∧ Reads w a 1 encS rs) (hw : ws.length ≤ 1048576 ∧ Reads w b 1 encS ws) :
    Calls Try.prog 31 #[.agg #[.slice a rs.length c, .slice b ws.length d]] w (FreshT 9 rs ws w) := by
  have HR := Lib.hid hr
  have HW := Lib.hid hw
  clear hr hw
  have HB : Below w.heap.size w (((w.alloc (.cells #[.slice a rs.length c, .slice b ws.length d] 37)).alloc (.cells #[.slice none 0 0, .slice none 0 0] 40)).alloc (.cells #[.slice none 0 0, .slice none 0 0] 40)) := (by repeat (first | exact Below.refl _ _ | refine Below.drew ?_ | refine below_drewN ?_ _ | refine Below.allocC ?_ _ | refine Below.setCell ?_ (by first | (simp; done) | (simp; omega)) _ | refine Below.chain ?_ (by assumption)))
  go_enter Try.func31, Try.ntmps31
  go_wp2_with fail
  refine (toStringS_c _ _ _ _ HR.out.1 (HR.out.2.below HB)).mono ?_
  rintro e w1 ⟨v1, rfl, o1, hb1⟩
  have X0 := (((Box.new w [.slice a rs.length c, .slice b ws.length d] 37).alloc (.cells #[.slice none 0 0, .slice none 0 0] 40)).alloc (.cells #[.slice none 0 0, .slice none 0 0] 40)).below hb1
  have X1 := ((Box.new (w.alloc (.cells #[.slice a rs.length c, .slice b ws.length d] 37)) [.slice none 0 0, .slice none 0 0] 40).alloc (.cells #[.slice none 0 0, .slice none 0 0] 40)).below hb1
  have X2 := (Box.new ((w.alloc (.cells #[.slice a rs.length c, .slice b ws.length d] 37)).alloc (.cells #[.slice none 0 0, .slice none 0 0] 40)) [.slice none 0 0, .slice none 0 0] 40).below hb1
  have O1 := Lib.hid o1
  obtain ⟨ar, cr, rfl⟩ := ownsRow_shape o1
  have HB1 := Lib.hid (HB.trans (hb1.mono HB.size))
  have hz1 := Lib.hid hb1.size
  simp only [World.size_alloc] at X1 X2
  have f00 := X0.cell 0 _ rfl
  have f01 := X0.cell 1 _ rfl
  have f20 := X2.cell 0 _ rfl
  have f21 := X2.cell 1 _ rfl
  have z20 := X2.free 0
  have z21 := X2.free 1
  have H0 := Lib.hid X0
  have H1 := Lib.hid X1
  have H2 := Lib.hid X2
  clear X0 X1 X2 o1 hb1 HB
  go_wp2_with fail
  refine (toStringS_c _ _ _ _ HW.out.1 (HW.out.2.below (Below.setCell HB1.out (by show w.heap.size ≤ w.heap.size + 1 + 1; omega) _))).mono ?_
  rintro e w2 ⟨v2, rfl, o2, hb2⟩
  have O2 := Lib.hid o2
  obtain ⟨aw, cw, rfl⟩ := ownsRow_shape o2
  have Y1 := (boxO H1.out (by omega : w.heap.size + 1 ≠ w.heap.size + 1 + 1) 0 (.slice ar rs.length cr)).below hb2
  have Y2 := (boxS _ _ _ 0 (.slice ar rs.length cr) H2.out).below hb2
  have HB2 := Lib.hid hb2
  clear o2 hb2 f00 f01 f20 f21 z20 z21
  have f10 := Y1.cell 0 _ rfl
  have f11 := Y1.cell 1 _ rfl
  have f20 := Y2.cell 0 _ rfl
  have f21 := Y2.cell 1 _ rfl
  have z10 := Y1.free 0
  have z11 := Y1.free 1
  have z20 := Y2.free 0
  have z21 := Y2.free 1
  clear Y1 Y2
  go_wp2
  refine bodyPost_ret (v := .agg #[.slice ar rs.length cr, .slice aw ws.length cw]) (by simp [results, Try.results31, go_sem, f10, f11]) rfl ⟨_, _, w1.heap.size, rfl, ?_, ?_, ?_, ?_, ?_⟩
  · have := HB1.out.size; omega
  · intro k hk; exact (O1.out.lt k hk).2
  · have hB : w.heap.size + 3 = (((w.alloc (.cells #[.slice a rs.length c, .slice b ws.length d] 37)).alloc (.cells #[.slice none 0 0, .slice none 0 0] 40)).alloc (.cells #[.slice none 0 0, .slice none 0 0] 40)).heap.size := by simp
    have h1 := O1.out
    rw [← hB] at h1
    have h2 := ownsRow_setCell_below h1 (a := ⟨w.heap.size + 1 + 1, 0, none⟩) (by show w.heap.size + 1 + 1 < _; omega) (.slice ar rs.length cr)
    have h3 := ownsRow_below h2 HB2.out
    have h4 := ownsRow_setCell_below h3 (a := ⟨w.heap.size + 1 + 1, 1, none⟩) (by show w.heap.size + 1 + 1 < _; omega) (.slice aw ws.length cw)
    have h5 := ownsRow_setCell_below h4 (a := ⟨w.heap.size + 1, 0, none⟩) (by show w.heap.size + 1 < _; omega) (.slice ar rs.length cr)
    have h6 := ownsRow_setCell_below h5 (a := ⟨w.heap.size + 1, 1, none⟩) (by show w.heap.size + 1 < _; omega) (.slice aw ws.length cw)
    exact ownsRow_base h6 (by omega)
  · have hs : (w1.setCell ⟨w.heap.size + 1 + 1, 0, none⟩ (.slice ar rs.length cr)).heap.size = w1.heap.size := by simp [World.setCell]
    have hz := hz1.out
    simp only [World.size_alloc] at hz
    have h1 := O2.out
    rw [hs] at h1
    have h4 := ownsRow_setCell_below h1 (a := ⟨w.heap.size + 1 + 1, 1, none⟩) (by show w.heap.size + 1 + 1 < _; omega) (.slice aw ws.length cw)
    have h5 := ownsRow_setCell_below h4 (a := ⟨w.heap.size + 1, 0, none⟩) (by show w.heap.size + 1 < _; omega) (.slice ar rs.length cr)
    exact ownsRow_setCell_below h5 (a := ⟨w.heap.size + 1, 1, none⟩) (by show w.heap.size + 1 < _; omega) (.slice aw ws.length cw)
  · have hs : (w1.setCell ⟨w.heap.size + 1 + 1, 0, none⟩ (.slice ar rs.length cr)).heap.size = w1.heap.size := by simp [World.setCell]
    have g1 := Below.setCell HB1.out (p := ⟨w.heap.size + 1 + 1, 0, none⟩) (by show w.heap.size ≤ w.heap.size + 1 + 1; omega) (.slice ar rs.length cr)
    have g2 := g1.trans (HB2.out.mono (by rw [hs]; exact HB1.out.size))
    exact Below.setCell (Below.setCell (Below.setCell g2 (by show w.heap.size ≤ w.heap.size + 1 + 1; omega) _) (by show w.heap.size ≤ w.heap.size + 1; omega) _) (by show w.heap.size ≤ w.heap.size + 1; omega) _

set_option maxHeartbeats 1600000 in
theorem eqTouch_c (a b a' b' : Option Addr) (c d c' d' : Nat) (rs ws rs' ws' : List ByteArray) (w : World) (l1 : rs.length ≤ maxLen) (l2 : ws.length ≤ maxLen) (h1 : Reads w a 1 encS rs) (h2 : Reads w b 1 encS ws) (h3 : Reads w a' 1 encS rs') (h4 : Reads w b' 1 encS ws') :
    Calls Try.prog 33 #[.agg #[.slice a rs.length c, .slice b ws.length d], .agg #[.slice a' rs'.length c', .slice b' ws'.length d']] w fun e w' => e = .returned (.bool (same rs rs' && same ws ws')) ∧ Below w.heap.size w w' := by
  have HB : Below w.heap.size w ((w.alloc (.cells #[.slice a rs.length c, .slice b ws.length d] 40)).alloc (.cells #[.slice a' rs'.length c', .slice b' ws'.length d'] 40)) := ((Below.refl _ _).alloc (Nat.le_refl _) _).alloc (by simp) _
  have K1 := Lib.hid (eqStringS_c a a' c c' rs rs' _ l1 (h1.below HB) (h3.below HB))
  have H2 := Lib.hid (h2.below HB)
  have H4 := Lib.hid (h4.below HB)
  have X0 := (Box.new w [.slice a rs.length c, .slice b ws.length d] 40).alloc (.cells #[.slice a' rs'.length c', .slice b' ws'.length d'] 40)
  have X1 := Box.new (w.alloc (.cells #[.slice a rs.length c, .slice b ws.length d] 40)) [.slice a' rs'.length c', .slice b' ws'.length d'] 40
  have H0 := Lib.hid X0
  have H1 := Lib.hid X1
  have HL := Lib.hid l2
  have HBB := Lib.hid HB
  clear h1 h2 h3 h4 l1 l2 X0 X1 HB
  cases hr : same rs rs'
  · go_enter Try.func33, Try.ntmps33
    go_wp2_with fail
    refine K1.out.mono ?_
    rintro e w1 ⟨rfl, hb1⟩
    go_wp2
    go_ret
    exact ⟨rfl, HBB.out.trans (hb1.mono HBB.out.size)⟩
  · go_enter Try.func33, Try.ntmps33
    go_wp2_with fail
    refine K1.out.mono ?_
    rintro e w1 ⟨rfl, hb1⟩
    have Y0 := H0.out.below hb1
    have Y1 := H1.out.below hb1
    simp only [World.size_alloc] at Y1
    have f0 := Y0.cell 1 _ rfl
    have f1 := Y1.cell 1 _ rfl
    clear Y0 Y1
    go_wp2_with fail
    refine (eqStringS_c b b' d d' ws ws' _ HL.out (H2.out.below hb1) (H4.out.below hb1)).mono ?_
    rintro e w2 ⟨rfl, hb2⟩
    cases hw : same ws ws'
    · go_wp2
      go_ret
      exact ⟨by rw [hw]; rfl, (HBB.out.trans (hb1.mono HBB.out.size)).trans (hb2.mono (Nat.le_trans HBB.out.size hb1.size))⟩
    · go_wp2
      go_ret
      exact ⟨by rw [hw]; rfl, (HBB.out.trans (hb1.mono HBB.out.size)).trans (hb2.mono (Nat.le_trans HBB.out.size hb1.size))⟩

end Go.Proofs.Ytnccenfdclmkkaa
