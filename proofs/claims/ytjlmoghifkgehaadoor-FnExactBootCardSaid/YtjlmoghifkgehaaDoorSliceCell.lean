/- Contracts for the laws' helpers on slices of Cell: szCellS counts, eqCellS compares. Conditions: only the bounds that any Go string and slice meets. -/
import Derived.Test.YtjlmoghifkgehaaDoorProg
import Derived.WalkKit
import Derived.WalkSpells
import Derived.WalkLawsBesides
import Derived.Test.YtjlmoghifkgehaaDoorOwn
import Derived.Test.YtjlmoghifkgehaaDoorElemCell
import Derived.Lib.Hide
import Derived.Deep.RegionHeld3
import Derived.Deep.DrawnRows
namespace Go.Proofs.YtjlmoghifkgehaaDoor
open Go.RowKit
attribute [local go_sem ↓] Go.wp_at_zero Go.wp_at_succ

theorem readCell {w wr : World} {a : Option Addr} {xs : List (ByteArray × ByteArray)} (hr : Reads w a 2 encC xs) (hb : Below w.heap.size w wr) {k : Nat} {x : (ByteArray × ByteArray)} (hx : xs[k]? = some x) :
    ∃ b off, a = some ⟨b, off, none⟩ ∧ wr.cell? ⟨b, off + k * 2, none⟩ = some (.string x.1) ∧ wr.cell? ⟨b, off + k * 2 + 1, none⟩ = some (.string x.2) := by
  rcases hr.below hb with rfl | ⟨b, off, h1, _, h3⟩
  · simp at hx
  · exact ⟨b, off, h1, by simpa [Nat.add_assoc] using h3 k x hx 0 _ rfl, by simpa [Nat.add_assoc] using h3 k x hx 1 _ rfl⟩

set_option maxHeartbeats 2000000 in
theorem eqCellS_c (a a2 : Option Addr) (cap cap2 : Nat) (xs ys : List (ByteArray × ByteArray)) (w : World) (hlen : xs.length ≤ maxLen) (hr : Reads w a 2 encC xs) (hr2 : Reads w a2 2 encC ys) :
    Calls Tryd.prog 6 #[.slice a xs.length cap, .slice a2 ys.length cap2] w fun e w' => e = .returned (.bool (same xs ys)) ∧ Below w.heap.size w w' := by
  have HR := Lib.hid hr
  have HR2 := Lib.hid hr2
  clear hr hr2
  unfold maxLen at hlen
  by_cases h1 : xs.length = ys.length
  · have HE := Lib.hid h1
    have hq : ((xs.length : Int) != (ys.length : Int)) = false := by simp [h1]
    have h1' : ys.length ≤ xs.length := by omega
    have h1'' : xs.length ≤ ys.length := by omega
    clear h1
    go_enter Tryd.func6, Tryd.ntmps6
    go_wp2
    go_loopw [5] (fun i wr => ∃ k : Nat, k ≤ xs.length ∧ i = .int .i64 k ∧ upTo xs ys k ∧ Below w.heap.size w wr) (fun i _ => xs.length - (intOf i).toNat)
    case atStart => exact ⟨0, Nat.zero_le _, rfl, upTo_zero _ _, (by repeat (first | exact Below.refl _ _ | assumption | refine Below.alloc ?_ (by simp <;> omega) _ | refine Below.setCell ?_ (by simp <;> omega) _ | refine Below.drew ?_))⟩
    case round =>
      obtain ⟨k, hk, rfl, hup, hb⟩ := hrel
      by_cases hlt : k < xs.length
      · obtain ⟨x, hx⟩ := some_of_lt hlt
        obtain ⟨y, hy⟩ := some_of_lt (xs := ys) (k := k) (by omega)
        obtain ⟨b, off, rfl, c0, c1⟩ := readCell HR.out hb hx
        obtain ⟨b2, off2, rfl, d0, d1⟩ := readCell HR2.out hb hy
        have p1 : (0 : Int) ≤ (k : Int) := by omega
        have p2 : (k : Int) < (xs.length : Int) := by omega
        have p3 : (k : Int) < (ys.length : Int) := by omega
        cases hxy : same x y
        · have HN := Lib.hid (same_at hx hy hxy)
          clear hx hy
          go_wp2_with fail
          go_region_held3 (fun w' => w'.cell? ⟨b, off + k * 2, none⟩ = some (.string x.1) ∧ w'.cell? ⟨b, off + k * 2 + 1, none⟩ = some (.string x.2) ∧ w'.cell? ⟨b2, off2 + k * 2, none⟩ = some (.string y.1) ∧ w'.cell? ⟨b2, off2 + k * 2 + 1, none⟩ = some (.string y.2)) ((go_split_ands; (repeat' apply And.intro) <;> first | assumption | exact keepS (by assumption) (by assumption)))
            (first | (go_at_call 12; refine (eqCell_c x y _).mono ?_; rintro e w' ⟨rfl, hb3⟩))
          try rw [hxy]
          go_wp2
          go_ret
          exact ⟨by rw [HN.out]; rfl, (by repeat (first | exact Below.refl _ _ | refine Below.drew ?_ | refine below_drewN ?_ _ | refine Below.allocC ?_ _ | refine Below.setCell ?_ (by first | (simp; done) | (simp; omega)) _ | refine Below.chain ?_ (by assumption)))⟩
        · have hs := upTo_succ hup hx hy hxy
          clear hx hy
          go_wp2_with fail
          go_region_held3 (fun w' => w'.cell? ⟨b, off + k * 2, none⟩ = some (.string x.1) ∧ w'.cell? ⟨b, off + k * 2 + 1, none⟩ = some (.string x.2) ∧ w'.cell? ⟨b2, off2 + k * 2, none⟩ = some (.string y.1) ∧ w'.cell? ⟨b2, off2 + k * 2 + 1, none⟩ = some (.string y.2)) ((go_split_ands; (repeat' apply And.intro) <;> first | assumption | exact keepS (by assumption) (by assumption)))
            (first | (go_at_call 12; refine (eqCell_c x y _).mono ?_; rintro e w' ⟨rfl, hb3⟩))
          try rw [hxy]
          go_wp2
          go_roundw
          case rel => exact ⟨k + 1, by omega, by go_num, hs, (by repeat (first | exact Below.refl _ _ | refine Below.drew ?_ | refine below_drewN ?_ _ | refine Below.allocC ?_ _ | refine Below.setCell ?_ (by first | (simp; done) | (simp; omega)) _ | refine Below.chain ?_ (by assumption)))⟩
          case measure => simp [intOf]; omega
      · have HS := Lib.hid (same_end hup (by omega) (by omega))
        go_wp2
        go_ret
        exact ⟨by rw [HS.out]; rfl, hb⟩
  · have HS := Lib.hid (same_len h1)
    have hq : ((xs.length : Int) != (ys.length : Int)) = true := by simp; omega
    clear h1
    go_enter Tryd.func6, Tryd.ntmps6
    go_wp2
    go_ret
    exact ⟨by rw [HS.out]; rfl, (by repeat (first | exact Below.refl _ _ | assumption | refine Below.alloc ?_ (by simp <;> omega) _ | refine Below.setCell ?_ (by simp <;> omega) _ | refine Below.drew ?_))⟩

theorem infoCell : (Tryd.prog.info? 39).map (fun i => (i.zero, i.size, i.bytes)) = some (some (.agg #[.string ⟨#[]⟩, .string ⟨#[]⟩]), 2, 32) := by kernel_rfl
end Go.Proofs.YtjlmoghifkgehaaDoor
