/- Contract: the laws' heldCellS finds the marks in a row of cells. Conditions: the numbers are positive and small. -/
import Derived.Test.YtjlmoghifkgehaaDoorMarkC
namespace Go.Proofs.YtjlmoghifkgehaaDoor
open Go.RowKit
attribute [local go_sem ↓] Go.wp_at_zero Go.wp_at_succ
set_option maxHeartbeats 3200000 in
theorem heldCellS_c (a : Option Addr) (cap n k : Nat) (w : World) (hk : 0 < k) (hn : k + 2 * n ≤ 1000000000) (hr : Reads w a 2 encC (marksC k n)) :
    Calls Tryd.prog 8 #[.slice a n cap, .int .i64 k] w fun e w' => e = .returned (.int .i64 ((k + 2 * n : Nat) : Int)) ∧ Below w.heap.size w w' := by
  have HR := Lib.hid hr
  clear hr
  go_enter Tryd.func8, Tryd.ntmps8
  go_wp2
  go_loopw [1, 5] (fun q i wr => ∃ m : Nat, m ≤ n ∧ q = .int .i64 ((k + 2 * m : Nat) : Int) ∧ i = .int .i64 m ∧ Below w.heap.size w wr) (fun _ i _ => n - (intOf i).toNat)
  case atStart => exact ⟨0, Nat.zero_le _, rfl, rfl, (by repeat (first | exact Below.refl _ _ | refine Below.drew ?_ | refine below_drewN ?_ _ | refine Below.allocC ?_ _ | refine Below.setCell ?_ (by first | (simp; done) | (simp; omega)) _ | refine Below.chain ?_ (by assumption)))⟩
  case round =>
    obtain ⟨m, hm, rfl, rfl, hb⟩ := hrel
    by_cases hlt : m < n
    · have p1 : (0 : Int) ≤ (m : Int) := by omega
      have p2 : (m : Int) < (n : Int) := by omega
      obtain ⟨b, off, hab, c0, c1⟩ := readFC HR.out hb (marksC_get (k := k) hlt)
      subst hab
      dsimp only at c0 c1
      have hK := Lib.hid (fun W => markText_c (k + 2 * m) W (by omega) (by omega))
      have hK2 := Lib.hid (fun W => markText_c (k + 2 * m + 1) W (by omega) (by omega))
      generalize markT (k + 2 * m) = x at *
      generalize markT (k + 2 * m + 1) = y at *
      go_wp2_with fail
      go_region_held3 (fun w' => w'.cell? ⟨b, off + m * 2, none⟩ = some (.string x) ∧ w'.cell? ⟨b, off + m * 2 + 1, none⟩ = some (.string y)) ((go_split_ands; (repeat' apply And.intro) <;> first | assumption | exact keepS (by assumption) (by assumption))) (first | (go_at_call 13; refine (hK.out _).mono ?_; rintro e w1 ⟨rfl, hb1⟩))
      have H1 : w1.cell? ⟨b, off + m * 2, none⟩ = some (.string x) ∧ w1.cell? ⟨b, off + m * 2 + 1, none⟩ = some (.string y) := by assumption
      obtain ⟨d0, d1⟩ := H1
      clear c0 c1
      have cst : ((k + 2 * m : Nat) : Int) + 1 = ((k + 2 * m + 1 : Nat) : Int) := by omega
      go_wp2_with fail
      go_region_held3 (fun w' => w'.cell? ⟨b, off + m * 2, none⟩ = some (.string x) ∧ w'.cell? ⟨b, off + m * 2 + 1, none⟩ = some (.string y)) ((go_split_ands; (repeat' apply And.intro) <;> first | assumption | exact keepS (by assumption) (by assumption))) (first | (go_at_call 13; refine (hK2.out _).mono ?_; rintro e w2 ⟨rfl, hb2⟩))
      go_wp2
      go_roundw
      case rel => exact ⟨m + 1, by omega, by go_num, by go_num, (by repeat (first | exact Below.refl _ _ | refine Below.drew ?_ | refine below_drewN ?_ _ | refine Below.allocC ?_ _ | refine Below.setCell ?_ (by first | (simp; done) | (simp; omega)) _ | refine Below.chain ?_ (by assumption)))⟩
      case measure => simp [intOf]; omega
    · obtain rfl : m = n := by omega
      have p2 : ¬ (m : Int) < (m : Int) := by omega
      go_wp2
      go_ret
      exact ⟨rfl, hb⟩
end Go.Proofs.YtjlmoghifkgehaaDoor
