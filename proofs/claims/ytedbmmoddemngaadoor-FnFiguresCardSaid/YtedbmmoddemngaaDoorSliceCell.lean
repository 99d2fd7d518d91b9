/- Contracts for the laws' helpers on slices of Cell: szCellS counts, eqCellS compares. Conditions: only the bounds that any Go string and slice meets. -/
import Derived.Test.YtedbmmoddemngaaDoorProg
import Derived.WalkKit
import Derived.WalkSpells
import Derived.WalkLawsBesides
import Derived.Test.YtedbmmoddemngaaDoorOwn
import Derived.Test.YtedbmmoddemngaaDoorElemCell
import Derived.Lib.Hide
import Derived.Deep.RegionHeld3
import Derived.Deep.DrawnRows
namespace Go.Proofs.YtedbmmoddemngaaDoor
open Go.RowKit
attribute [local go_sem ↓] Go.wp_at_zero Go.wp_at_succ

theorem readCell {w wr : World} {a : Option Addr} {xs : List (ByteArray × ByteArray)} (hr : Reads w a 2 encC xs) (hb : Below w.heap.size w wr) {k : Nat} {x : (ByteArray × ByteArray)} (hx : xs[k]? = some x) :
    ∃ b off, a = some ⟨b, off, none⟩ ∧ wr.cell? ⟨b, off + k * 2, none⟩ = some (.string x.1) ∧ wr.cell? ⟨b, off + k * 2 + 1, none⟩ = some (.string x.2) := by
  rcases hr.below hb with rfl | ⟨b, off, h1, _, h3⟩
  · simp at hx
  · exact ⟨b, off, h1, by simpa [Nat.add_assoc] using h3 k x hx 0 _ rfl, by simpa [Nat.add_assoc] using h3 k x hx 1 _ rfl⟩

set_option maxHeartbeats 1000000 in
theorem szCellS_c (a : Option Addr) (cap : Nat) (xs : List (ByteArray × ByteArray)) (left : Int) (l0 : 0 ≤ left) (l1 : left ≤ 1048576) (w : World) (hlen : xs.length ≤ maxLen) (hr : Reads w a 2 encC xs) (hok : ∀ x ∈ xs, okC x) :
    Calls Tryd.prog 30 #[.slice a xs.length cap, .int .i64 left] w fun e w' => e = .returned (.int .i64 (szSub left (bulkL bulkC xs))) ∧ Below w.heap.size w w' := by
  have HR := Lib.hid hr
  have HO := Lib.hid hok
  clear hr hok
  unfold maxLen at hlen
  by_cases h1 : left < xs.length
  · have HS := Lib.hid (szSub_no (left := left) (n := bulkL bulkC xs) (by have := bulkL_ge bulkC xs; omega))
    clear HR HO
    go_enter Tryd.func30, Tryd.ntmps30
    go_wp2
    go_ret
    exact ⟨by rw [HS.out]; rfl, (by repeat (first | exact Below.refl _ _ | assumption | refine Below.alloc ?_ (by simp <;> omega) _ | refine Below.setCell ?_ (by simp <;> omega) _ | refine Below.drew ?_))⟩
  · have h1' : (xs.length : Int) ≤ left := by omega
    clear h1
    go_enter Tryd.func30, Tryd.ntmps30
    go_wp2
    go_loopw [1, 5] (fun l i wr => ∃ k : Nat, k ≤ xs.length ∧ i = .int .i64 k ∧ (bulkUp bulkC xs k : Int) ≤ left ∧ l = .int .i64 (left - bulkUp bulkC xs k) ∧ Below w.heap.size w wr) (fun _ i _ => xs.length - (intOf i).toNat)
    case atStart => exact ⟨0, Nat.zero_le _, rfl, by rw [bulkUp_zero]; exact h1', by rw [bulkUp_zero], (by repeat (first | exact Below.refl _ _ | assumption | refine Below.alloc ?_ (by simp <;> omega) _ | refine Below.setCell ?_ (by simp <;> omega) _ | refine Below.drew ?_))⟩
    case round =>
      obtain ⟨k, hk, rfl, hle, rfl, hb⟩ := hrel
      by_cases hlt : k < xs.length
      · obtain ⟨x, hx⟩ := some_of_lt hlt
        obtain ⟨b, off, rfl, c0, c1⟩ := readCell HR.out hb hx
        have hokx := HO.out x (mem_of_some hx)
        by_cases hfit : (bulkC x : Int) ≤ left - bulkUp bulkC xs k
        · have HY := Lib.hid (szSub_yes hfit)
          have HU := Lib.hid (bulkUp_succ (f := bulkC) hx)
          clear hx
          go_wp2_with fail
          refine (szCell_c x _ (by omega) (by omega) hokx.1 hokx.2 _).mono ?_
          rintro e w2 ⟨rfl, hb2⟩
          rw [HY.out]
          go_wp2
          go_roundw
          case rel => exact ⟨k + 1, by omega, by go_num, by rw [HU.out]; omega, by rw [HU.out]; exact congrArg (Value.int .i64) (by omega), (by repeat (first | exact Below.refl _ _ | refine Below.drew ?_ | refine below_drewN ?_ _ | refine Below.allocC ?_ _ | refine Below.setCell ?_ (by first | (simp; done) | (simp; omega)) _ | refine Below.chain ?_ (by assumption)))⟩
          case measure => simp [intOf]; omega
        · have HY := Lib.hid (szSub_no (left := left - bulkUp bulkC xs k) (n := bulkC x) (by omega))
          have HN := Lib.hid (szSub_no (left := left) (n := bulkL bulkC xs) (by have := bulkUp_succ (f := bulkC) hx; have := bulkUp_le bulkC xs (k + 1); omega))
          clear hx
          go_wp2_with fail
          refine (szCell_c x _ (by omega) (by omega) hokx.1 hokx.2 _).mono ?_
          rintro e w2 ⟨rfl, hb2⟩
          rw [HY.out]
          go_wp2
          go_ret
          exact ⟨by rw [HN.out]; rfl, (by repeat (first | exact Below.refl _ _ | refine Below.drew ?_ | refine below_drewN ?_ _ | refine Below.allocC ?_ _ | refine Below.setCell ?_ (by first | (simp; done) | (simp; omega)) _ | refine Below.chain ?_ (by assumption)))⟩
      · have HS := Lib.hid (szSub_yes (left := left) (n := bulkL bulkC xs) (by rw [← bulkUp_end (k := k) (by omega)]; exact hle))
        have HE := Lib.hid (bulkUp_end (f := bulkC) (xs := xs) (k := k) (by omega))
        go_wp2
        go_ret
        exact ⟨by rw [HS.out, ← HE.out]; rfl, hb⟩

set_option maxHeartbeats 2000000 in
theorem eqCellS_c (a a2 : Option Addr) (cap cap2 : Nat) (xs ys : List (ByteArray × ByteArray)) (w : World) (hlen : xs.length ≤ maxLen) (hr : Reads w a 2 encC xs) (hr2 : Reads w a2 2 encC ys) :
    Calls Tryd.prog 34 #[.slice a xs.length cap, .slice a2 ys.length cap2] w fun e w' => e = .returned (.bool (same xs ys)) ∧ Below w.heap.size w w' := by
  have HR := Lib.hid hr
  have HR2 := Lib.hid hr2
  clear hr hr2
  unfold maxLen at hlen
  by_cases h1 : xs.length = ys.length
  · have HE := Lib.hid h1
    have hq : ((xs.length : Int) != (ys.length : Int)) = false := by simp [h1]
    have h1' : ys.length ≤ xs.length := by omega
    have h1'' : xs.length ≤ ys.length := by omega
    clear h1
    go_enter Tryd.func34, Tryd.ntmps34
    go_wp2
    go_loopw [5] (fun i wr => ∃ k : Nat, k ≤ xs.length ∧ i = .int .i64 k ∧ upTo xs ys k ∧ Below w.heap.size w wr) (fun i _ => xs.length - (intOf i).toNat)
    case atStart => exact ⟨0, Nat.zero_le _, rfl, upTo_zero _ _, (by repeat (first | exact Below.refl _ _ | assumption | refine Below.alloc ?_ (by simp <;> omega) _ | refine Below.setCell ?_ (by simp <;> omega) _ | refine Below.drew ?_))⟩
    case round =>
      obtain ⟨k, hk, rfl, hup, hb⟩ := hrel
      by_cases hlt : k < xs.length
      · obtain ⟨x, hx⟩ := some_of_lt hlt
        obtain ⟨y, hy⟩ := some_of_lt (xs := ys) (k := k) (by omega)
        obtain ⟨b, off, rfl, c0, c1⟩ := readCell HR.out hb hx
        obtain ⟨b2, off2, rfl, d0, d1⟩ := readCell HR2.out hb hy
        have p1 : (0 : Int) ≤ (k : Int) := by omega
        have p2 : (k : Int) < (xs.length : Int) := by omega
        have p3 : (k : Int) < (ys.length : Int) := by omega
        cases hxy : same x y
        · have HN := Lib.hid (same_at hx hy hxy)
          clear hx hy
          go_wp2_with fail
          go_region_held3 (fun w' => w'.cell? ⟨b, off + k * 2, none⟩ = some (.string x.1) ∧ w'.cell? ⟨b, off + k * 2 + 1, none⟩ = some (.string x.2) ∧ w'.cell? ⟨b2, off2 + k * 2, none⟩ = some (.string y.1) ∧ w'.cell? ⟨b2, off2 + k * 2 + 1, none⟩ = some (.string y.2)) ((go_split_ands; (repeat' apply And.intro) <;> first | assumption | exact keepS (by assumption) (by assumption)))
            (first | (go_at_call 68; refine (eqCell_c x y _).mono ?_; rintro e w' ⟨rfl, hb3⟩))
          try rw [hxy]
          go_wp2
          go_ret
          exact ⟨by rw [HN.out]; rfl, (by repeat (first | exact Below.refl _ _ | refine Below.drew ?_ | refine below_drewN ?_ _ | refine Below.allocC ?_ _ | refine Below.setCell ?_ (by first | (simp; done) | (simp; omega)) _ | refine Below.chain ?_ (by assumption)))⟩
        · have hs := upTo_succ hup hx hy hxy
          clear hx hy
          go_wp2_with fail
          go_region_held3 (fun w' => w'.cell? ⟨b, off + k * 2, none⟩ = some (.string x.1) ∧ w'.cell? ⟨b, off + k * 2 + 1, none⟩ = some (.string x.2) ∧ w'.cell? ⟨b2, off2 + k * 2, none⟩ = some (.string y.1) ∧ w'.cell? ⟨b2, off2 + k * 2 + 1, none⟩ = some (.string y.2)) ((go_split_ands; (repeat' apply And.intro) <;> first | assumption | exact keepS (by assumption) (by assumption)))
            (first | (go_at_call 68; refine (eqCell_c x y _).mono ?_; rintro e w' ⟨rfl, hb3⟩))
          try rw [hxy]
          go_wp2
          go_roundw
          case rel => exact ⟨k + 1, by omega, by go_num, hs, (by repeat (first | exact Below.refl _ _ | refine Below.drew ?_ | refine below_drewN ?_ _ | refine Below.allocC ?_ _ | refine Below.setCell ?_ (by first | (simp; done) | (simp; omega)) _ | refine Below.chain ?_ (by assumption)))⟩
          case measure => simp [intOf]; omega
      · have HS := Lib.hid (same_end hup (by omega) (by omega))
        go_wp2
        go_ret
        exact ⟨by rw [HS.out]; rfl, hb⟩
  · have HS := Lib.hid (same_len h1)
    have hq : ((xs.length : Int) != (ys.length : Int)) = true := by simp; omega
    clear h1
    go_enter Tryd.func34, Tryd.ntmps34
    go_wp2
    go_ret
    exact ⟨by rw [HS.out]; rfl, (by repeat (first | exact Below.refl _ _ | assumption | refine Below.alloc ?_ (by simp <;> omega) _ | refine Below.setCell ?_ (by simp <;> omega) _ | refine Below.drew ?_))⟩

theorem infoCell : (Tryd.prog.info? 82).map (fun i => (i.zero, i.size, i.bytes)) = some (some (.agg #[.string ⟨#[]⟩, .string ⟨#[]⟩]), 2, 32) := by kernel_rfl
set_option maxHeartbeats 2000000 in
theorem toCellS_c (a : Option Addr) (cap : Nat) (xs : List (ByteArray × ByteArray)) (w : World) (hlen : xs.length ≤ 1048576) (hr : Reads w a 2 encC xs) :
    Calls Tryd.prog 32 #[.slice a xs.length cap] w (Fresh 82 2 (xs.flatMap encC) xs.length w) := by
  have HR := Lib.hid hr
  clear hr
  have hmk := make_eq (P := Tryd.prog) 47 82 2 32 _ Tryd.underlying47 infoCell xs.length (by omega) (by omega)
  go_enter Tryd.func32, Tryd.ntmps32
  go_wp2
  go_loopw [4] (fun i wr => ∃ k : Nat, k ≤ xs.length ∧ i = .int .i64 k ∧ Filling wr w.heap.size 82 2 xs.length ((xs.take k).flatMap encC) ∧ Below w.heap.size w wr) (fun i _ => xs.length - (intOf i).toNat)
  case atStart => exact ⟨0, Nat.zero_le _, rfl, by simpa using Filling.made w _ _ 2 xs.length, (by repeat (first | exact Below.refl _ _ | refine Below.drew ?_ | refine below_drewN ?_ _ | refine Below.allocC ?_ _ | refine Below.setCell ?_ (by first | (simp; done) | (simp; omega)) _ | refine Below.chain ?_ (by assumption)))⟩
  case round =>
    obtain ⟨k, hk, rfl, F, hb⟩ := hrel
    clear hmk
    by_cases hlt : k < xs.length
    · obtain ⟨x, hx⟩ := some_of_lt hlt
      obtain ⟨b, off, rfl, c0, c1⟩ := readCell HR.out hb hx
      have hfm := Lib.hid (flatMap_snoc (enc := encC) hx)
      have hdl : ((xs.take k).flatMap encC).length = k * 2 := by rw [length_flatMap_const encC_len, List.length_take, Nat.min_eq_left (by omega)]
      have HD := Lib.hid hdl
      clear hx hdl
      go_wp2_with fail
      refine (toCell_c x _).mono ?_
      rintro e w2 ⟨rfl, hb2'⟩
      have hb2 := Below.chain hb hb2'
      have F2 := F.below hb2'
      have F3 := F2.stores [.string x.1, .string x.2] (k * 2) HD.out.symm (by rw [HD.out]; simp; omega)
      have H3 := Lib.hid F3
      have D2 := Lib.hid hb2
      have hB := Lib.hid (below_of_grown (sets_grown [.string x.1, .string x.2] w2 w.heap.size (k * 2)) (Nat.le_refl w.heap.size) hb2.size)
      have f0 := F2.free (k * 2)
      obtain ⟨o0, z0⟩ := F2.cell (k * 2) (by omega)
      have f1 := F2.free (k * 2 + 1)
      obtain ⟨o1, z1⟩ := F2.cell (k * 2 + 1) (by omega)
      clear F F2 F3
      go_wp2
      go_roundw
      case rel => exact ⟨k + 1, by omega, by go_num, by rw [hfm.out]; exact H3.out, D2.out.trans hB.out⟩
      case measure => simp [intOf]; omega
    · have hd : (xs.take k).flatMap encC = xs.flatMap encC := by rw [List.take_of_length_le (by omega)]
      rw [hd] at F
      have hO := Lib.hid (F.owns (base := w.heap.size) (length_flatMap_const encC_len xs) (Nat.le_refl _) (by unfold maxLen; omega))
      clear F hd
      go_wp2
      go_ret
      exact ⟨_, rfl, hO.out, hb⟩

end Go.Proofs.YtedbmmoddemngaaDoor
