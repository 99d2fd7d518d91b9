/- Contract: the laws' toMach copies a Mach into memory of its own. Conditions: only that its slices have at most 2^20 elements. -/
import Derived.Test.YtnccenfdclmkkaaMach
namespace Go.Proofs.Ytnccenfdclmkkaa
open Go.RowKit
/-- A call returned a Mach that reads as these lists, and wrote nothing that was there. -/
def ReadM (xs : List (ByteArray × ByteArray)) (rs ws : List ByteArray) (w : World) (e : Ending) (w' : World) : Prop :=
  ∃ a c b d g h, e = .returned (.agg #[.slice a xs.length c, .slice b rs.length d, .slice g ws.length h]) ∧ Reads w' a 2 encC xs ∧ Reads w' b 1 encS rs ∧ Reads w' g 1 encS ws ∧ Below w.heap.size w w'

set_option maxHeartbeats 3200000 in
theorem toMach_c (a b g : Option Addr) (c d h : Nat) (xs : List (ByteArray × ByteArray)) (rs ws : List ByteArray) (w : World) (hl : xs.length ≤ 1048576 ∧ rs.length ≤ 1048576 ∧ ws.length ≤ 1048576) (hm : IsMach w a b g xs rs ws) :
    Calls Try.prog 36 #[.agg #[.slice a xs.length c, .slice b rs.length d, .slice g ws.length h]] w (ReadM xs rs ws w) := by
  have HL := Lib.hid hl
  have HM := Lib.hid hm
  clear hl hm
  have HB : Below w.heap.size w (((w.alloc (.cells #[.slice a xs.length c, .slice b rs.length d, .slice g ws.length h] 44)).alloc (.cells #[.slice none 0 0, .slice none 0 0, .slice none 0 0] 48)).alloc (.cells #[.slice none 0 0, .slice none 0 0, .slice none 0 0] 48)) := (by repeat (first | exact Below.refl _ _ | refine Below.drew ?_ | refine below_drewN ?_ _ | refine Below.allocC ?_ _ | refine Below.setCell ?_ (by first | (simp; done) | (simp; omega)) _ | refine Below.chain ?_ (by assumption)))
  go_enter Try.func36, Try.ntmps36
  go_wp2_with fail
  refine (toCellS_c _ _ _ _ HL.out.1 (HM.out.1.2.1.below HB)).mono ?_
  rintro e w1 ⟨v1, rfl, o1, hb1⟩
  have X0 := (((Box.new w [.slice a xs.length c, .slice b rs.length d, .slice g ws.length h] 44).alloc (.cells #[.slice none 0 0, .slice none 0 0, .slice none 0 0] 48)).alloc (.cells #[.slice none 0 0, .slice none 0 0, .slice none 0 0] 48)).below hb1
  have X1 := ((Box.new (w.alloc (.cells #[.slice a xs.length c, .slice b rs.length d, .slice g ws.length h] 44)) [.slice none 0 0, .slice none 0 0, .slice none 0 0] 48).alloc (.cells #[.slice none 0 0, .slice none 0 0, .slice none 0 0] 48)).below hb1
  have X2 := (Box.new ((w.alloc (.cells #[.slice a xs.length c, .slice b rs.length d, .slice g ws.length h] 44)).alloc (.cells #[.slice none 0 0, .slice none 0 0, .slice none 0 0] 48)) [.slice none 0 0, .slice none 0 0, .slice none 0 0] 48).below hb1
  have O1 := Lib.hid o1
  obtain ⟨ar, cr, rfl⟩ := ownsRow_shape o1
  have HB1 := Lib.hid (HB.trans (hb1.mono HB.size))
  have hz1 := Lib.hid hb1.size
  simp only [World.size_alloc] at X1 X2
  have f00 := X0.cell 0 _ rfl
  have f01 := X0.cell 1 _ rfl
  have f02 := X0.cell 2 _ rfl
  have f20 := X2.cell 0 _ rfl
  have f21 := X2.cell 1 _ rfl
  have f22 := X2.cell 2 _ rfl
  have z20 := X2.free 0
  have H0 := Lib.hid X0
  have H1 := Lib.hid X1
  have H2 := Lib.hid X2
  clear X0 X1 X2 o1 hb1 HB
  go_wp2_with fail
  refine (toTouch_c _ _ _ _ _ _ _ ⟨HL.out.2.1, HM.out.2.1.2.1.below (Below.setCell HB1.out (by show w.heap.size ≤ w.heap.size + 1 + 1; omega) _)⟩ ⟨HL.out.2.2, HM.out.2.2.2.1.below (Below.setCell HB1.out (by show w.heap.size ≤ w.heap.size + 1 + 1; omega) _)⟩).mono ?_
  rintro e w2 ⟨v2, v3, B2, rfl, hB2, _, o2, o3, hb2⟩
  have O2 := Lib.hid o2
  have O3 := Lib.hid o3
  have HBB := Lib.hid hB2
  obtain ⟨aw, cw, rfl⟩ := ownsRow_shape o2
  obtain ⟨ax, cx, rfl⟩ := ownsRow_shape o3
  have Y1 := (boxO H1.out (by omega : w.heap.size + 1 ≠ w.heap.size + 1 + 1) 0 (.slice ar xs.length cr)).below hb2
  have Y2 := (boxS _ _ _ 0 (.slice ar xs.length cr) H2.out).below hb2
  have HB2 := Lib.hid hb2
  clear o2 o3 hb2 hB2 f00 f01 f02 f20 f21 f22 z20
  have f10 := Y1.cell 0 _ rfl
  have f11 := Y1.cell 1 _ rfl
  have f12 := Y1.cell 2 _ rfl
  have f20 := Y2.cell 0 _ rfl
  have f21 := Y2.cell 1 _ rfl
  have f22 := Y2.cell 2 _ rfl
  have z10 := Y1.free 0
  have z11 := Y1.free 1
  have z12 := Y1.free 2
  have z20 := Y2.free 0
  have z21 := Y2.free 1
  have z22 := Y2.free 2
  clear Y1 Y2
  go_wp2
  have hs : (w1.setCell ⟨w.heap.size + 1 + 1, 0, none⟩ (.slice ar xs.length cr)).heap.size = w1.heap.size := by simp [World.setCell]
  have hz := hz1.out
  simp only [World.size_alloc] at hz
  have five : ∀ {base T K n : Nat} {v : Value} {cells : List Value}, w2.ownsRow base T K v n cells → w.heap.size + 1 + 1 < base → (((((w2.setCell ⟨w.heap.size + 1 + 1, 1, none⟩ (.slice aw rs.length cw)).setCell ⟨w.heap.size + 1 + 1, 2, none⟩ (.slice ax ws.length cx)).setCell ⟨w.heap.size + 1, 0, none⟩ (.slice ar xs.length cr)).setCell ⟨w.heap.size + 1, 1, none⟩ (.slice aw rs.length cw)).setCell ⟨w.heap.size + 1, 2, none⟩ (.slice ax ws.length cx)).ownsRow base T K v n cells := by
    intro base T K n v cells ho hb
    exact ownsRow_setCell_below (ownsRow_setCell_below (ownsRow_setCell_below (ownsRow_setCell_below (ownsRow_setCell_below ho (a := ⟨w.heap.size + 1 + 1, 1, none⟩) hb _) (a := ⟨w.heap.size + 1 + 1, 2, none⟩) hb _) (a := ⟨w.heap.size + 1, 0, none⟩) (by show w.heap.size + 1 < _; omega) _) (a := ⟨w.heap.size + 1, 1, none⟩) (by show w.heap.size + 1 < _; omega) _) (a := ⟨w.heap.size + 1, 2, none⟩) (by show w.heap.size + 1 < _; omega) _
  have q1 := O1.out
  have hB : w.heap.size + 3 = (((w.alloc (.cells #[.slice a xs.length c, .slice b rs.length d, .slice g ws.length h] 44)).alloc (.cells #[.slice none 0 0, .slice none 0 0, .slice none 0 0] 48)).alloc (.cells #[.slice none 0 0, .slice none 0 0, .slice none 0 0] 48)).heap.size := by simp
  rw [← hB] at q1
  have q2 := ownsRow_below (ownsRow_setCell_below q1 (a := ⟨w.heap.size + 1 + 1, 0, none⟩) (by show w.heap.size + 1 + 1 < _; omega) (.slice ar xs.length cr)) HB2.out
  have q3 := O2.out
  have q4 := O3.out
  have q5 := HBB.out
  rw [hs] at q3 q5
  obtain ⟨ar', cr', e1, r1⟩ := reads_of_owns encC_len (five q2 (by omega))
  obtain ⟨aw', cw', e2, r2⟩ := reads_of_owns encS_len (five q3 (by omega))
  obtain ⟨ax', cx', e3, r3⟩ := reads_of_owns encS_len (five q4 (by omega))
  cases e1
  cases e2
  cases e3
  refine bodyPost_ret (v := .agg #[.slice ar xs.length cr, .slice aw rs.length cw, .slice ax ws.length cx]) (by simp [results, Try.results36, go_sem, f10, f11, f12]) rfl ⟨_, _, _, _, _, _, rfl, r1, r2, r3, ?_⟩
  have g1 := Below.setCell HB1.out (p := ⟨w.heap.size + 1 + 1, 0, none⟩) (by show w.heap.size ≤ w.heap.size + 1 + 1; omega) (.slice ar xs.length cr)
  have g2 := g1.trans (HB2.out.mono (by rw [hs]; exact HB1.out.size))
  exact Below.setCell (Below.setCell (Below.setCell (Below.setCell (Below.setCell g2 (by show w.heap.size ≤ w.heap.size + 1 + 1; omega) _) (by show w.heap.size ≤ w.heap.size + 1 + 1; omega) _) (by show w.heap.size ≤ w.heap.size + 1; omega) _) (by show w.heap.size ≤ w.heap.size + 1; omega) _) (by show w.heap.size ≤ w.heap.size + 1; omega) _
end Go.Proofs.Ytnccenfdclmkkaa
