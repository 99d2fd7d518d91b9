/- Contracts: the laws' markCellS and heldCellS: marks written into an own row of cells, and found there. Conditions: the row is the caller's own; the numbers are positive and small. -/
import Derived.Test.YtedbmmoddemngaaDoorMarkS
namespace Go.Proofs.YtedbmmoddemngaaDoor
open Go.RowKit
attribute [local go_sem ↓] Go.wp_at_zero Go.wp_at_succ
/-- The n marked cells from k on. -/
def marksC (k n : Nat) : List (ByteArray × ByteArray) := (List.range n).map (fun j => (markT (k + 2 * j), markT (k + 2 * j + 1)))
theorem marksC_len (k n : Nat) : (marksC k n).length = n := by simp [marksC]
theorem marksC_succ (k n : Nat) : marksC k (n + 1) = marksC k n ++ [(markT (k + 2 * n), markT (k + 2 * n + 1))] := by simp [marksC, List.range_succ]
theorem marksC_get {k n j : Nat} (h : j < n) : (marksC k n)[j]? = some (markT (k + 2 * j), markT (k + 2 * j + 1)) := by simp [marksC, h]
theorem marksC_flat (k n : Nat) : ((marksC k n).flatMap encC).length = n * 2 := by rw [length_flatMap_const encC_len, marksC_len]
def MarkedC (T k n : Nat) (v : Value) (base : Nat) (w : World) (e : Ending) (w' : World) : Prop :=
  e = .returned (.int .i64 ((k + 2 * n : Nat) : Int)) ∧ w'.ownsRow base T 2 v n ((marksC k n).flatMap encC) ∧ w.grownBy w' v.ownBlock

set_option maxRecDepth 100000 in
set_option maxHeartbeats 3200000 in
theorem markCellS_c (v : Value) (base n k : Nat) (cells : List Value) (w : World) (hk : 0 < k) (hn : k + 2 * n ≤ 1000000000) (ho : w.ownsRow base 82 2 v n cells) :
    Calls Tryd.prog 38 #[v, .int .i64 k] w (MarkedC 82 k n v base w) := by
  rcases ho.2 with ⟨rfl, rfl⟩ | ⟨g, cap, cur, rfl, hb, h1, h2, h3, h4, h5⟩
  · have HO := Lib.hid (show w.ownsRow base 82 2 (.slice none 0 0) 0 ((marksC k 0).flatMap encC) from ⟨by simp [marksC], .inl ⟨rfl, rfl⟩⟩)
    clear ho
    go_enter Tryd.func38, Tryd.ntmps38
    go_wp2
    go_loopw [1, 5] (fun q i wr => q = .int .i64 k ∧ i = .int .i64 0 ∧ wr = w) (fun _ _ _ => 0)
    case atStart => exact ⟨rfl, rfl, rfl⟩
    case round =>
      obtain ⟨rfl, rfl, rfl⟩ := hrel
      go_wp2
      go_ret
      exact ⟨rfl, HO.out, grownBy_refl _ _⟩
  · have F0 : Filling w g 82 2 cap ((marksC k 0).flatMap encC) := ⟨cur, h1, h4, by simp [marksC]⟩
    have HF0 := Lib.hid F0
    have HB := Lib.hid hb
    have H2 := Lib.hid h2
    have H3 := Lib.hid h3
    have hcap : n ≤ cap := h2
    have hnm : n ≤ 1000000000 := by omega
    clear h1 h2 h3 h4 h5 ho F0 hb
    go_enter Tryd.func38, Tryd.ntmps38
    go_wp2
    go_loopw [1, 5] (fun q i wr => ∃ m : Nat, m ≤ n ∧ q = .int .i64 ((k + 2 * m : Nat) : Int) ∧ i = .int .i64 m ∧ Hid (Filling wr g 82 2 cap ((marksC k m).flatMap encC)) ∧ Hid (w.grownBy wr (some g))) (fun _ i _ => n - (intOf i).toNat)
    case atStart => exact ⟨0, Nat.zero_le _, rfl, rfl, HF0, Lib.hid (grownBy_refl _ _)⟩
    case round =>
      obtain ⟨m, hm, rfl, rfl, HF, HG⟩ := hrel
      by_cases hlt : m < n
      · have p1 : (0 : Int) ≤ (m : Int) := by omega
        have p2 : (m : Int) < (n : Int) := by omega
        have hK := Lib.hid (markText_c (k + 2 * m) wr (by omega) (by omega))
        have hK2 := Lib.hid (fun W => markText_c (k + 2 * m + 1) W (by omega) (by omega))
        go_wp2_with fail
        refine hK.out.mono ?_
        rintro e w1 ⟨rfl, hb1⟩
        have F1 := HF.out.below hb1
        have F2 := F1.stores [.string (markT (k + 2 * m))] (m * 2) (marksC_flat k m).symm (by rw [marksC_flat]; simp; omega)
        have HF2 := Lib.hid F2
        have HG2 := Lib.hid (grownBy_trans (grownBy_trans HG.out (grownBy_of_below hb1 (some g))) (sets_grown [.string (markT (k + 2 * m))] w1 g (m * 2)))
        have f0 := F1.free (m * 2)
        obtain ⟨o0, z0⟩ := F1.cell (m * 2) (by omega)
        clear F1 F2
        have cst : ((k + 2 * m : Nat) : Int) + 1 = ((k + 2 * m + 1 : Nat) : Int) := by omega
        go_wp2_with fail
        refine (hK2.out _).mono ?_
        rintro e w2 ⟨rfl, hb2⟩
        clear f0 z0
        have F3 := (show Filling (w1.setCell ⟨g, m * 2, none⟩ (.string (markT (k + 2 * m)))) g 82 2 cap ((marksC k m).flatMap encC ++ [.string (markT (k + 2 * m))]) from HF2.out).below hb2
        have F4 := F3.stores [.string (markT (k + 2 * m + 1))] (m * 2 + 1) (by rw [List.length_append, marksC_flat]; rfl) (by rw [List.length_append, marksC_flat]; simp; omega)
        have H3' := Lib.hid (show Filling (sets w2 g (m * 2 + 1) [.string (markT (k + 2 * m + 1))]) g 82 2 cap ((marksC k (m + 1)).flatMap encC) by
          rw [marksC_succ, List.flatMap_append]
          simp only [List.append_assoc] at F4
          exact F4)
        have HG3 := Lib.hid (grownBy_trans (grownBy_trans HG2.out (grownBy_of_below hb2 (some g))) (sets_grown [.string (markT (k + 2 * m + 1))] w2 g (m * 2 + 1)))
        have f0 := F3.free (m * 2 + 1)
        obtain ⟨o1, z1⟩ := F3.cell (m * 2 + 1) (by omega)
        clear F3 F4
        go_wp2
        go_roundw
        case rel => exact ⟨m + 1, by omega, by go_num, by go_num, H3', HG3⟩
        case measure => simp [intOf]; omega
      · obtain rfl : m = n := by omega
        have HO := Lib.hid (HF.out.owned (n := m) (base := base) (marksC_flat k m) HB.out H2.out H3.out)
        have p2 : ¬ (m : Int) < (m : Int) := by omega
        go_wp2
        go_ret
        exact ⟨rfl, HO.out, HG.out⟩
end Go.Proofs.YtedbmmoddemngaaDoor
