/- Contracts: Clash of both sides ('clashB'). Conditions: only the bounds that any Go slice and string meets. -/
import Derived.Test.YtnccenfdclmkkaaMeetAny
namespace Go.Proofs.Ytnccenfdclmkkaa
open Go.RowKit
theorem begins_comm (a b : ByteArray) : (a.toList == b.toList) = (b.toList == a.toList) := by rw [Bool.eq_iff_iff]; simp only [beq_iff_eq]; exact eq_comm
theorem meetB_comm (a b : ByteArray) : meetB a b = meetB b a := by
  unfold meetB spanHasB
  cases ha : starB a <;> cases hb : starB b <;> simp [begins_comm b a, Bool.or_comm]
theorem meetAny_iff (xs ys : List ByteArray) : meetAnyB xs ys = true ↔ ∃ x ∈ xs, ∃ y ∈ ys, meetB x y = true := by
  unfold meetAnyB meetP
  simp [List.any_eq_true]
theorem meetAny_comm (xs ys : List ByteArray) : meetAnyB xs ys = meetAnyB ys xs := by
  rw [Bool.eq_iff_iff, meetAny_iff, meetAny_iff]
  constructor
  · rintro ⟨x, hx, y, hy, h⟩; exact ⟨y, hy, x, hx, by rw [meetB_comm]; exact h⟩
  · rintro ⟨x, hx, y, hy, h⟩; exact ⟨y, hy, x, hx, by rw [meetB_comm]; exact h⟩
def clashB (rs ws rs' ws' : List ByteArray) : Bool := meetAnyB ws rs' || meetAnyB ws ws' || meetAnyB rs ws'


set_option maxHeartbeats 1600000 in
theorem specClash_c (a b a' b' : Option Addr) (c d c' d' : Nat) (rs ws rs' ws' : List ByteArray) (w : World) (l : rs.length ≤ maxLen ∧ ws.length ≤ maxLen ∧ rs'.length ≤ maxLen ∧ ws'.length ≤ maxLen) (o : (∀ x ∈ rs, x.size ≤ maxLen) ∧ (∀ x ∈ ws, x.size ≤ maxLen) ∧ (∀ x ∈ rs', x.size ≤ maxLen) ∧ (∀ x ∈ ws', x.size ≤ maxLen)) (h1 : Reads w a 1 encS rs) (h2 : Reads w b 1 encS ws) (h3 : Reads w a' 1 encS rs') (h4 : Reads w b' 1 encS ws') :
    Calls Try.prog 30 #[.agg #[.slice a rs.length c, .slice b ws.length d], .agg #[.slice a' rs'.length c', .slice b' ws'.length d']] w fun e w' => e = .returned (.bool (clashB rs ws rs' ws')) ∧ Below w.heap.size w w' := by
  have HB : Below w.heap.size w ((w.alloc (.cells #[.slice a rs.length c, .slice b ws.length d] 40)).alloc (.cells #[.slice a' rs'.length c', .slice b' ws'.length d'] 40)) := ((Below.refl _ _).alloc (Nat.le_refl _) _).alloc (by simp) _
  have K1 := Lib.hid (fun (W : World) (hW : Below w.heap.size w W) => specMeetAny_c b a' d c' ws rs' W l.2.1 l.2.2.1 (h2.below hW) (h3.below hW) o.2.1 o.2.2.1)
  have K2 := Lib.hid (fun (W : World) (hW : Below w.heap.size w W) => specMeetAny_c b b' d d' ws ws' W l.2.1 l.2.2.2 (h2.below hW) (h4.below hW) o.2.1 o.2.2.2)
  have K3 := Lib.hid (fun (W : World) (hW : Below w.heap.size w W) => specMeetAny_c a b' c d' rs ws' W l.1 l.2.2.2 (h1.below hW) (h4.below hW) o.1 o.2.2.2)
  have X0 := (Box.new w [.slice a rs.length c, .slice b ws.length d] 40).alloc (.cells #[.slice a' rs'.length c', .slice b' ws'.length d'] 40)
  have X1 := Box.new (w.alloc (.cells #[.slice a rs.length c, .slice b ws.length d] 40)) [.slice a' rs'.length c', .slice b' ws'.length d'] 40
  have H0 := Lib.hid X0
  have H1 := Lib.hid X1
  have HBB := Lib.hid HB
  have HC := Lib.hid (show clashB rs ws rs' ws' = (meetAnyB ws rs' || meetAnyB ws ws' || meetAnyB rs ws') from rfl)
  clear h1 h2 h3 h4 X0 X1 HB
  cases hq1 : meetAnyB ws rs'
  rotate_left
  · rw [hq1] at K1 HC
    go_enter Try.func30, Try.ntmps30
    go_wp2_with fail
    refine (K1.out _ HBB.out).mono ?_
    rintro e w1 ⟨rfl, hb1⟩
    clear hq1
    go_wp2
    go_ret
    exact ⟨by rw [HC.out]; rfl, HBB.out.trans (hb1.mono HBB.out.size)⟩
  cases hq2 : meetAnyB ws ws'
  rotate_left
  all_goals
    rw [hq1] at K1 HC
    rw [hq2] at K2 HC
    clear hq1 hq2
    generalize meetAnyB rs ws' = r at *
    go_enter Try.func30, Try.ntmps30
    go_wp2_with fail
    refine (K1.out _ HBB.out).mono ?_
    rintro e w1 ⟨rfl, hb1⟩
    have B1 := HBB.out.trans (hb1.mono HBB.out.size)
    have Y0 := H0.out.below hb1
    have Y1 := H1.out.below hb1
    simp only [World.size_alloc] at Y1
    have f0 := Y0.cell 1 _ rfl
    have f1 := Y1.cell 1 _ rfl
    go_wp2_with fail
    refine (K2.out _ B1).mono ?_
    rintro e w2 ⟨rfl, hb2⟩
    have B2 := B1.trans (hb2.mono B1.size)
    replace Y0 := Y0.below hb2
    replace Y1 := Y1.below hb2
    clear f0 f1
    have f0 := Y0.cell 0 _ rfl
    have f1 := Y1.cell 1 _ rfl
  · go_wp2
    go_ret
    exact ⟨by rw [HC.out]; rfl, B2⟩
  · go_wp2_with fail
    refine (K3.out _ B2).mono ?_
    rintro e w3 ⟨rfl, hb3⟩
    go_wp2
    go_ret
    exact ⟨by rw [HC.out]; rfl, B2.trans (hb3.mono B2.size)⟩


set_option maxHeartbeats 1600000 in
theorem implClash_c (a b a' b' : Option Addr) (c d c' d' : Nat) (rs ws rs' ws' : List ByteArray) (w : World) (l : rs.length ≤ maxLen ∧ ws.length ≤ maxLen ∧ rs'.length ≤ maxLen ∧ ws'.length ≤ maxLen) (o : (∀ x ∈ rs, x.size ≤ maxLen) ∧ (∀ x ∈ ws, x.size ≤ maxLen) ∧ (∀ x ∈ rs', x.size ≤ maxLen) ∧ (∀ x ∈ ws', x.size ≤ maxLen)) (h1 : Reads w a 1 encS rs) (h2 : Reads w b 1 encS ws) (h3 : Reads w a' 1 encS rs') (h4 : Reads w b' 1 encS ws') :
    Calls Try.prog 32 #[.agg #[.slice a rs.length c, .slice b ws.length d], .agg #[.slice a' rs'.length c', .slice b' ws'.length d']] w fun e w' => e = .returned (.bool (clashB rs ws rs' ws')) ∧ Below w.heap.size w w' := by
  have HB : Below w.heap.size w ((w.alloc (.cells #[.slice a rs.length c, .slice b ws.length d] 40)).alloc (.cells #[.slice a' rs'.length c', .slice b' ws'.length d'] 40)) := ((Below.refl _ _).alloc (Nat.le_refl _) _).alloc (by simp) _
  have K1 := Lib.hid (fun (W : World) (hW : Below w.heap.size w W) => implMeetAny_c b a' d c' ws rs' W l.2.1 l.2.2.1 (h2.below hW) (h3.below hW) o.2.1 o.2.2.1)
  have K2 := Lib.hid (fun (W : World) (hW : Below w.heap.size w W) => implMeetAny_c b b' d d' ws ws' W l.2.1 l.2.2.2 (h2.below hW) (h4.below hW) o.2.1 o.2.2.2)
  have K3 := Lib.hid (fun (W : World) (hW : Below w.heap.size w W) => implMeetAny_c b' a d' c ws' rs W l.2.2.2 l.1 (h4.below hW) (h1.below hW) o.2.2.2 o.1)
  rw [meetAny_comm ws' rs] at K3
  have X0 := (Box.new w [.slice a rs.length c, .slice b ws.length d] 40).alloc (.cells #[.slice a' rs'.length c', .slice b' ws'.length d'] 40)
  have X1 := Box.new (w.alloc (.cells #[.slice a rs.length c, .slice b ws.length d] 40)) [.slice a' rs'.length c', .slice b' ws'.length d'] 40
  have H0 := Lib.hid X0
  have H1 := Lib.hid X1
  have HBB := Lib.hid HB
  have HC := Lib.hid (show clashB rs ws rs' ws' = (meetAnyB ws rs' || meetAnyB ws ws' || meetAnyB rs ws') from rfl)
  clear h1 h2 h3 h4 X0 X1 HB
  cases hq1 : meetAnyB ws rs'
  rotate_left
  · rw [hq1] at K1 HC
    go_enter Try.func32, Try.ntmps32
    go_wp2_with fail
    refine (K1.out _ HBB.out).mono ?_
    rintro e w1 ⟨rfl, hb1⟩
    clear hq1
    go_wp2
    go_ret
    exact ⟨by rw [HC.out]; rfl, HBB.out.trans (hb1.mono HBB.out.size)⟩
  cases hq2 : meetAnyB ws ws'
  rotate_left
  all_goals
    rw [hq1] at K1 HC
    rw [hq2] at K2 HC
    clear hq1 hq2
    generalize meetAnyB rs ws' = r at *
    go_enter Try.func32, Try.ntmps32
    go_wp2_with fail
    refine (K1.out _ HBB.out).mono ?_
    rintro e w1 ⟨rfl, hb1⟩
    have B1 := HBB.out.trans (hb1.mono HBB.out.size)
    have Y0 := H0.out.below hb1
    have Y1 := H1.out.below hb1
    simp only [World.size_alloc] at Y1
    have f0 := Y0.cell 1 _ rfl
    have f1 := Y1.cell 1 _ rfl
    go_wp2_with fail
    refine (K2.out _ B1).mono ?_
    rintro e w2 ⟨rfl, hb2⟩
    have B2 := B1.trans (hb2.mono B1.size)
    replace Y0 := Y0.below hb2
    replace Y1 := Y1.below hb2
    clear f0 f1
    have f0 := Y0.cell 0 _ rfl
    have f1 := Y1.cell 1 _ rfl
  · go_wp2
    go_ret
    exact ⟨by rw [HC.out]; rfl, B2⟩
  · go_wp2_with fail
    refine (K3.out _ B2).mono ?_
    rintro e w3 ⟨rfl, hb3⟩
    go_wp2
    go_ret
    exact ⟨by rw [HC.out]; rfl, B2.trans (hb3.mono B2.size)⟩

end Go.Proofs.Ytnccenfdclmkkaa
