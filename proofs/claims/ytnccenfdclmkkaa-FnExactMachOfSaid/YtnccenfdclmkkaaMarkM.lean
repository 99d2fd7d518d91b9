/- Contracts: the laws' markMach and heldMach at a Mach without spans (as MachOf makes it). Conditions: the store's row is the caller's own; the numbers are positive and small. -/
import Derived.Test.YtnccenfdclmkkaaHeldC
import Derived.Test.YtnccenfdclmkkaaMarkC
import Derived.Test.YtnccenfdclmkkaaKeysUnder
namespace Go.Proofs.Ytnccenfdclmkkaa
open Go.RowKit
theorem below_of_none {w w' : World} (hg : w.grownBy w' none) : Below w.heap.size w w' := ⟨hg.os, hg.tape, hg.output, hg.size, fun k hk => hg.block k hk (by simp)⟩

set_option maxHeartbeats 1600000 in
theorem markTouch0_c (k : Nat) (w : World) (hk : 0 < k) (hn : k ≤ 1000000000) :
    Calls Try.prog 72 #[.agg #[.slice none 0 0, .slice none 0 0], .int .i64 k] w fun e w' => e = .returned (.int .i64 k) ∧ Below w.heap.size w w' := by
  have HM := Lib.hid (fun (W : World) => markStringS_c (.slice none 0 0) 0 0 k [] W hk (by omega) ⟨rfl, .inl ⟨rfl, rfl⟩⟩)
  go_enter Try.func72, Try.ntmps72
  go_wp2_with fail
  refine (HM.out _).mono ?_
  rintro e w1 ⟨rfl, _, g1⟩
  have X0 := (Box.new w [.slice none 0 0, .slice none 0 0] 40).below (below_of_none g1)
  have hb1 := below_of_none g1
  have f1 := X0.cell 1 _ rfl
  clear X0 g1
  go_wp2_with fail
  refine (HM.out _).mono ?_
  rintro e w2 ⟨rfl, _, g2⟩
  have hb2 := below_of_none g2
  clear g2
  go_wp2
  go_ret
  exact ⟨rfl, (by repeat (first | exact Below.refl _ _ | refine Below.drew ?_ | refine below_drewN ?_ _ | refine Below.allocC ?_ _ | refine Below.setCell ?_ (by first | (simp; done) | (simp; omega)) _ | refine Below.chain ?_ (by assumption)))⟩

set_option maxHeartbeats 1600000 in
theorem heldTouch0_c (k : Nat) (w : World) (hk : 0 < k) (hn : k ≤ 1000000000) :
    Calls Try.prog 74 #[.agg #[.slice none 0 0, .slice none 0 0], .int .i64 k] w fun e w' => e = .returned (.int .i64 k) ∧ Below w.heap.size w w' := by
  have HM := Lib.hid (fun (W : World) => heldStringS_c none 0 0 k W hk (by omega) (.inl rfl))
  have p0 : ¬ ((k : Nat) : Int) < 0 := by omega
  go_enter Try.func74, Try.ntmps74
  go_wp2_with fail
  refine (HM.out _).mono ?_
  rintro e w1 ⟨rfl, hb1⟩
  have X0 := (Box.new w [.slice none 0 0, .slice none 0 0] 40).below hb1
  have f1 := X0.cell 1 _ rfl
  clear X0
  go_wp2_with fail
  refine (HM.out _).mono ?_
  rintro e w2 ⟨rfl, hb2⟩
  go_wp2
  go_ret
  exact ⟨rfl, (by repeat (first | exact Below.refl _ _ | refine Below.drew ?_ | refine below_drewN ?_ _ | refine Below.allocC ?_ _ | refine Below.setCell ?_ (by first | (simp; done) | (simp; omega)) _ | refine Below.chain ?_ (by assumption)))⟩

set_option maxHeartbeats 1600000 in
theorem markMach0_c (v : Value) (base n k : Nat) (cells : List Value) (w : World) (hk : 0 < k) (hn : k + 2 * n ≤ 1000000000) (ho : w.ownsRow base 60 2 v n cells) :
    Calls Try.prog 46 #[.agg #[v, .slice none 0 0, .slice none 0 0], .int .i64 k] w (MarkedC 60 k n v base w) := by
  have HM := Lib.hid (markCellS_c v base n k cells (w.alloc (.cells #[v, .slice none 0 0, .slice none 0 0] 48)) hk hn (ho.alloc _))
  have HT := Lib.hid (fun (W : World) => markTouch0_c (k + 2 * n) W (by omega) hn)
  have HL := Lib.hid (fun b h => (ho.lt b h).2)
  obtain ⟨ar, cr, rfl⟩ := ownsRow_shape ho
  clear ho
  go_enter Try.func46, Try.ntmps46
  go_wp2_with fail
  refine HM.out.mono ?_
  rintro e w1 ⟨rfl, o1, g1⟩
  have X : Box w1 w.heap.size [.slice ar n cr, .slice none 0 0, .slice none 0 0] := by
    obtain ⟨q1, T, q2⟩ := Box.new w [.slice ar n cr, .slice none 0 0, .slice none 0 0] 48
    exact ⟨Nat.lt_of_lt_of_le q1 g1.size, T, (g1.block _ q1 (by intro e; exact absurd (HL.out _ e.symm) (Nat.lt_irrefl _))).trans q2⟩
  have f1 := X.cell 1 _ rfl
  have f2 := X.cell 2 _ rfl
  have O1 := Lib.hid o1
  have G1 := Lib.hid g1
  clear X o1 g1
  go_wp2_with fail
  refine (HT.out _).mono ?_
  rintro e w2 ⟨rfl, hb2⟩
  go_wp2
  go_ret
  exact ⟨rfl, ownsRow_below O1.out hb2, grownBy_trans (grownBy_trans (World.grownBy_alloc w _ _) G1.out) (grownBy_of_below hb2 _)⟩

set_option maxHeartbeats 1600000 in
theorem heldMach0_c (a : Option Addr) (cap n k : Nat) (w : World) (hk : 0 < k) (hn : k + 2 * n ≤ 1000000000) (hr : Reads w a 2 encC (marksC k n)) :
    Calls Try.prog 47 #[.agg #[.slice a n cap, .slice none 0 0, .slice none 0 0], .int .i64 k] w fun e w' => e = .returned (.int .i64 ((k + 2 * n : Nat) : Int)) ∧ Below w.heap.size w w' := by
  have HB : Below w.heap.size w (w.alloc (.cells #[.slice a n cap, .slice none 0 0, .slice none 0 0] 48)) := (by repeat (first | exact Below.refl _ _ | refine Below.drew ?_ | refine below_drewN ?_ _ | refine Below.allocC ?_ _ | refine Below.setCell ?_ (by first | (simp; done) | (simp; omega)) _ | refine Below.chain ?_ (by assumption)))
  have HM := Lib.hid (heldCellS_c a cap n k _ hk hn (hr.below HB))
  have HT := Lib.hid (fun (W : World) => heldTouch0_c (k + 2 * n) W (by omega) hn)
  have p0 : ¬ ((k + 2 * n : Nat) : Int) < 0 := by omega
  have HBB := Lib.hid HB
  clear hr HB
  generalize ((k + 2 * n : Nat) : Int) = kk at *
  go_enter Try.func47, Try.ntmps47
  go_wp2_with fail
  refine HM.out.mono ?_
  rintro e w1 ⟨rfl, hb1⟩
  have X0 := (Box.new w [.slice a n cap, .slice none 0 0, .slice none 0 0] 48).below hb1
  have f1 := X0.cell 1 _ rfl
  have f2 := X0.cell 2 _ rfl
  clear X0
  go_wp2_with fail
  refine (HT.out _).mono ?_
  rintro e w2 ⟨rfl, hb2⟩
  go_wp2
  go_ret
  exact ⟨rfl, (HBB.out.trans (hb1.mono HBB.out.size)).trans (hb2.mono (Nat.le_trans HBB.out.size hb1.size))⟩
end Go.Proofs.Ytnccenfdclmkkaa
