/- Contracts: the laws' markStringS and heldStringS: marks written into an own row of texts, and found there. Conditions: the row is the caller's own; the numbers are positive and small. -/
import Derived.Test.YtedbmmoddemngaaDoorMark
import Derived.Test.YtedbmmoddemngaaDoorFind
namespace Go.Proofs.YtedbmmoddemngaaDoor
open Go.RowKit
attribute [local go_sem ↓] Go.wp_at_zero Go.wp_at_succ
/-- The n marks from k on. -/
def marks (k n : Nat) : List ByteArray := (List.range n).map (fun j => markT (k + j))
theorem marks_len (k n : Nat) : (marks k n).length = n := by simp [marks]
theorem marks_succ (k n : Nat) : marks k (n + 1) = marks k n ++ [markT (k + n)] := by simp [marks, List.range_succ]
theorem marks_get {k n j : Nat} (h : j < n) : (marks k n)[j]? = some (markT (k + j)) := by simp [marks, h]
theorem marks_flat (k n : Nat) : ((marks k n).flatMap encS).length = n := by rw [length_flatMap_const encS_len, marks_len, Nat.mul_one]
/-- A row of which the first cells are 'done' and that is the caller's own. -/
theorem Filling.owned {w : World} {b e K n cap base : Nat} {done : List Value} (h : Filling w b e K cap done) (hd : done.length = n * K) (hb : base ≤ b) (hn : n ≤ cap) (hc : cap ≤ maxLen) : w.ownsRow base e K (.slice (some ⟨b, 0, none⟩) n cap) n done := by
  obtain ⟨cur, h1, h2, h3⟩ := h
  exact ⟨hd, .inr ⟨b, cap, cur, rfl, hb, h1, hn, hc, h2, by rw [← hd]; exact h3⟩⟩

/-- Behind marking: the value holds the marks, and nothing else that was there is written. -/
def MarkedS (T k n : Nat) (v : Value) (base : Nat) (w : World) (e : Ending) (w' : World) : Prop :=
  e = .returned (.int .i64 ((k + n : Nat) : Int)) ∧ w'.ownsRow base T 1 v n ((marks k n).flatMap encS) ∧ w.grownBy w' v.ownBlock

set_option maxRecDepth 100000 in
set_option maxHeartbeats 3200000 in
theorem markStringS_c (v : Value) (base n k : Nat) (cells : List Value) (w : World) (hk : 0 < k) (hn : k + n ≤ 1000000000) (ho : w.ownsRow base 9 1 v n cells) :
    Calls Tryd.prog 39 #[v, .int .i64 k] w (MarkedS 9 k n v base w) := by
  rcases ho.2 with ⟨rfl, rfl⟩ | ⟨g, cap, cur, rfl, hb, h1, h2, h3, h4, h5⟩
  · have HO := Lib.hid (show w.ownsRow base 9 1 (.slice none 0 0) 0 ((marks k 0).flatMap encS) from ⟨by simp [marks], .inl ⟨rfl, rfl⟩⟩)
    clear ho
    go_enter Tryd.func39, Tryd.ntmps39
    go_wp2
    go_loopw [1, 5] (fun q i wr => q = .int .i64 k ∧ i = .int .i64 0 ∧ wr = w) (fun _ _ _ => 0)
    case atStart => exact ⟨rfl, rfl, rfl⟩
    case round =>
      obtain ⟨rfl, rfl, rfl⟩ := hrel
      go_wp2
      go_ret
      exact ⟨rfl, HO.out, grownBy_refl _ _⟩
  · have F0 : Filling w g 9 1 cap ((marks k 0).flatMap encS) := ⟨cur, h1, h4, by simp [marks]⟩
    have HF0 := Lib.hid F0
    have HB := Lib.hid hb
    have H2 := Lib.hid h2
    have H3 := Lib.hid h3
    have hcap : n ≤ cap := h2
    have hnm : n ≤ 1000000000 := by omega
    clear h1 h2 h3 h4 h5 ho F0 hb
    go_enter Tryd.func39, Tryd.ntmps39
    go_wp2
    go_loopw [1, 5] (fun q i wr => ∃ m : Nat, m ≤ n ∧ q = .int .i64 ((k + m : Nat) : Int) ∧ i = .int .i64 m ∧ Hid (Filling wr g 9 1 cap ((marks k m).flatMap encS)) ∧ Hid (w.grownBy wr (some g))) (fun _ i _ => n - (intOf i).toNat)
    case atStart => exact ⟨0, Nat.zero_le _, rfl, rfl, HF0, Lib.hid (grownBy_refl _ _)⟩
    case round =>
      obtain ⟨m, hm, rfl, rfl, HF, HG⟩ := hrel
      by_cases hlt : m < n
      · have p1 : (0 : Int) ≤ (m : Int) := by omega
        have p2 : (m : Int) < (n : Int) := by omega
        have hK := Lib.hid (markText_c (k + m) wr (by omega) (by omega))
        go_wp2_with fail
        refine hK.out.mono ?_
        rintro e w1 ⟨rfl, hb1⟩
        have F1 := HF.out.below hb1
        have F2 := F1.stores [.string (markT (k + m))] m (marks_flat k m).symm (by rw [marks_flat]; simp; omega)
        have H3' := Lib.hid (show Filling (sets w1 g m [.string (markT (k + m))]) g 9 1 cap ((marks k (m + 1)).flatMap encS) by rw [marks_succ, List.flatMap_append]; exact F2)
        have HG2 := Lib.hid (grownBy_trans (grownBy_trans HG.out (grownBy_of_below hb1 (some g))) (sets_grown [.string (markT (k + m))] w1 g m))
        have f0 := F1.free m
        obtain ⟨o0, z0⟩ := F1.cell m (by omega)
        clear F1 F2
        go_wp2
        go_roundw
        case rel => exact ⟨m + 1, by omega, by go_num, by go_num, H3', HG2⟩
        case measure => simp [intOf]; omega
      · obtain rfl : m = n := by omega
        have HO := Lib.hid (HF.out.owned (n := m) (base := base) (by rw [marks_flat, Nat.mul_one]) HB.out H2.out H3.out)
        have p2 : ¬ (m : Int) < (m : Int) := by omega
        go_wp2
        go_ret
        exact ⟨rfl, HO.out, HG.out⟩

set_option maxRecDepth 100000 in
set_option maxHeartbeats 3200000 in
theorem heldStringS_c (a : Option Addr) (cap n k : Nat) (w : World) (hk : 0 < k) (hn : k + n ≤ 1000000000) (hr : Reads w a 1 encS (marks k n)) :
    Calls Tryd.prog 40 #[.slice a n cap, .int .i64 k] w fun e w' => e = .returned (.int .i64 ((k + n : Nat) : Int)) ∧ Below w.heap.size w w' := by
  have HR := Lib.hid hr
  clear hr
  go_enter Tryd.func40, Tryd.ntmps40
  go_wp2
  go_loopw [1, 5] (fun q i wr => ∃ m : Nat, m ≤ n ∧ q = .int .i64 ((k + m : Nat) : Int) ∧ i = .int .i64 m ∧ Below w.heap.size w wr) (fun _ i _ => n - (intOf i).toNat)
  case atStart => exact ⟨0, Nat.zero_le _, rfl, rfl, (by repeat (first | exact Below.refl _ _ | refine Below.drew ?_ | refine below_drewN ?_ _ | refine Below.allocC ?_ _ | refine Below.setCell ?_ (by first | (simp; done) | (simp; omega)) _ | refine Below.chain ?_ (by assumption)))⟩
  case round =>
    obtain ⟨m, hm, rfl, rfl, hb⟩ := hrel
    by_cases hlt : m < n
    · have p1 : (0 : Int) ≤ (m : Int) := by omega
      have p2 : (m : Int) < (n : Int) := by omega
      obtain ⟨b, off, hab, c0⟩ := readFS HR.out hb (marks_get (k := k) hlt)
      subst hab
      have hK := Lib.hid (fun W => markText_c (k + m) W (by omega) (by omega))
      generalize markT (k + m) = x at *
      go_wp2_with fail
      go_region_held3 (fun w' => w'.cell? ⟨b, off + m, none⟩ = some (.string x)) ((go_split_ands; (repeat' apply And.intro) <;> first | assumption | exact keepS (by assumption) (by assumption))) (first | (go_at_call 73; refine (hK.out _).mono ?_; rintro e w1 ⟨rfl, hb1⟩))
      go_wp2
      go_roundw
      case rel => exact ⟨m + 1, by omega, by go_num, by go_num, (by repeat (first | exact Below.refl _ _ | refine Below.drew ?_ | refine below_drewN ?_ _ | refine Below.allocC ?_ _ | refine Below.setCell ?_ (by first | (simp; done) | (simp; omega)) _ | refine Below.chain ?_ (by assumption)))⟩
      case measure => simp [intOf]; omega
    · obtain rfl : m = n := by omega
      have p2 : ¬ (m : Int) < (m : Int) := by omega
      go_wp2
      go_ret
      exact ⟨rfl, hb⟩
end Go.Proofs.YtedbmmoddemngaaDoor
