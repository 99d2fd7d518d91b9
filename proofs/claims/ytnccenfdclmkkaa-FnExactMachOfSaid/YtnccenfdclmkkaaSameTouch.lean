/- Contracts: SameTouch of both sides says whether two access sets are equal. Conditions: only the bounds that any Go slice meets. -/
import Derived.Test.YtnccenfdclmkkaaEqSString
import Derived.Test.YtnccenfdclmkkaaEqLString
namespace Go.Proofs.Ytnccenfdclmkkaa
open Go.RowKit

set_option maxHeartbeats 1600000 in
theorem specSameTouch_c (a b a' b' : Option Addr) (c d c' d' : Nat) (rs ws rs' ws' : List ByteArray) (w : World) (l1 : rs.length ≤ maxLen) (l2 : ws.length ≤ maxLen) (h1 : Reads w a 1 encS rs) (h2 : Reads w b 1 encS ws) (h3 : Reads w a' 1 encS rs') (h4 : Reads w b' 1 encS ws') :
    Calls Try.prog 65 #[.agg #[.slice a rs.length c, .slice b ws.length d], .agg #[.slice a' rs'.length c', .slice b' ws'.length d']] w fun e w' => e = .returned (.bool (same rs rs' && same ws ws')) ∧ Below w.heap.size w w' := by
  have HB : Below w.heap.size w ((w.alloc (.cells #[.slice a rs.length c, .slice b ws.length d] 40)).alloc (.cells #[.slice a' rs'.length c', .slice b' ws'.length d'] 40)) := ((Below.refl _ _).alloc (Nat.le_refl _) _).alloc (by simp) _
  have K1 := Lib.hid (specEqString_c a a' c c' rs rs' _ l1 (h1.below HB) (h3.below HB))
  have H2 := Lib.hid (h2.below HB)
  have H4 := Lib.hid (h4.below HB)
  have X0 := (Box.new w [.slice a rs.length c, .slice b ws.length d] 40).alloc (.cells #[.slice a' rs'.length c', .slice b' ws'.length d'] 40)
  have X1 := Box.new (w.alloc (.cells #[.slice a rs.length c, .slice b ws.length d] 40)) [.slice a' rs'.length c', .slice b' ws'.length d'] 40
  have H0 := Lib.hid X0
  have H1 := Lib.hid X1
  have HL := Lib.hid l2
  have HBB := Lib.hid HB
  clear h1 h2 h3 h4 l1 l2 X0 X1 HB
  cases hr : same rs rs'
  · go_enter Try.func65, Try.ntmps65
    go_wp2_with fail
    refine K1.out.mono ?_
    rintro e w1 ⟨rfl, hb1⟩
    go_wp2
    go_ret
    exact ⟨rfl, HBB.out.trans (hb1.mono HBB.out.size)⟩
  · go_enter Try.func65, Try.ntmps65
    go_wp2_with fail
    refine K1.out.mono ?_
    rintro e w1 ⟨rfl, hb1⟩
    have Y0 := H0.out.below hb1
    have Y1 := H1.out.below hb1
    simp only [World.size_alloc] at Y1
    have f0 := Y0.cell 1 _ rfl
    have f1 := Y1.cell 1 _ rfl
    clear Y0 Y1
    go_wp2_with fail
    refine (specEqString_c b b' d d' ws ws' _ HL.out (H2.out.below hb1) (H4.out.below hb1)).mono ?_
    rintro e w2 ⟨rfl, hb2⟩
    generalize hr2 : same ws ws' = r
    go_wp2
    go_ret
    exact ⟨by rw [hr2]; rfl, (HBB.out.trans (hb1.mono HBB.out.size)).trans (hb2.mono (Nat.le_trans HBB.out.size hb1.size))⟩

set_option maxHeartbeats 1600000 in
theorem implSameTouch_c (a b a' b' : Option Addr) (c d c' d' : Nat) (rs ws rs' ws' : List ByteArray) (w : World) (l1 : rs.length ≤ maxLen) (l2 : ws.length ≤ maxLen) (h1 : Reads w a 1 encS rs) (h2 : Reads w b 1 encS ws) (h3 : Reads w a' 1 encS rs') (h4 : Reads w b' 1 encS ws') :
    Calls Try.prog 67 #[.agg #[.slice a rs.length c, .slice b ws.length d], .agg #[.slice a' rs'.length c', .slice b' ws'.length d']] w fun e w' => e = .returned (.bool (same rs rs' && same ws ws')) ∧ Below w.heap.size w w' := by
  have HB : Below w.heap.size w ((w.alloc (.cells #[.slice a rs.length c, .slice b ws.length d] 40)).alloc (.cells #[.slice a' rs'.length c', .slice b' ws'.length d'] 40)) := ((Below.refl _ _).alloc (Nat.le_refl _) _).alloc (by simp) _
  have K1 := Lib.hid (libEqString_c a a' c c' rs rs' _ l1 (h1.below HB) (h3.below HB))
  have H2 := Lib.hid (h2.below HB)
  have H4 := Lib.hid (h4.below HB)
  have X0 := (Box.new w [.slice a rs.length c, .slice b ws.length d] 40).alloc (.cells #[.slice a' rs'.length c', .slice b' ws'.length d'] 40)
  have X1 := Box.new (w.alloc (.cells #[.slice a rs.length c, .slice b ws.length d] 40)) [.slice a' rs'.length c', .slice b' ws'.length d'] 40
  have H0 := Lib.hid X0
  have H1 := Lib.hid X1
  have HL := Lib.hid l2
  have HBB := Lib.hid HB
  clear h1 h2 h3 h4 l1 l2 X0 X1 HB
  cases hr : same rs rs'
  · go_enter Try.func67, Try.ntmps67
    go_wp2_with fail
    refine K1.out.mono ?_
    rintro e w1 ⟨rfl, hb1⟩
    go_wp2
    go_ret
    exact ⟨rfl, HBB.out.trans (hb1.mono HBB.out.size)⟩
  · go_enter Try.func67, Try.ntmps67
    go_wp2_with fail
    refine K1.out.mono ?_
    rintro e w1 ⟨rfl, hb1⟩
    have Y0 := H0.out.below hb1
    have Y1 := H1.out.below hb1
    simp only [World.size_alloc] at Y1
    have f0 := Y0.cell 1 _ rfl
    have f1 := Y1.cell 1 _ rfl
    clear Y0 Y1
    go_wp2_with fail
    refine (libEqString_c b b' d d' ws ws' _ HL.out (H2.out.below hb1) (H4.out.below hb1)).mono ?_
    rintro e w2 ⟨rfl, hb2⟩
    generalize hr2 : same ws ws' = r
    go_wp2
    go_ret
    exact ⟨by rw [hr2]; rfl, (HBB.out.trans (hb1.mono HBB.out.size)).trans (hb2.mono (Nat.le_trans HBB.out.size hb1.size))⟩
end Go.Proofs.Ytnccenfdclmkkaa
