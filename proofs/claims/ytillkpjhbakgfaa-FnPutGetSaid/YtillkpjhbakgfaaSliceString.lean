/- Contracts for the laws' helpers on slices of String: szStringS counts, eqStringS compares. Conditions: only the bounds that any Go string and slice meets. -/
import Derived.Test.YtillkpjhbakgfaaProg
import Derived.WalkKit
import Derived.WalkSpells
import Derived.WalkLawsBesides
import Derived.Test.YtillkpjhbakgfaaOwn
import Derived.Lib.Hide
import Derived.Deep.RegionHeld3
import Derived.Deep.DrawnRows
namespace Go.Proofs.Ytillkpjhbakgfaa
open Go.RowKit
attribute [local go_sem ↓] Go.wp_at_zero Go.wp_at_succ

theorem readString {w wr : World} {a : Option Addr} {xs : List ByteArray} (hr : Reads w a 1 encS xs) (hb : Below w.heap.size w wr) {k : Nat} {x : ByteArray} (hx : xs[k]? = some x) :
    ∃ b off, a = some ⟨b, off, none⟩ ∧ wr.cell? ⟨b, off + k, none⟩ = some (.string x) := by
  rcases hr.below hb with rfl | ⟨b, off, h1, _, h3⟩
  · simp at hx
  · exact ⟨b, off, h1, by simpa [Nat.add_assoc] using h3 k x hx 0 _ rfl⟩

set_option maxHeartbeats 1000000 in
theorem szStringS_c (a : Option Addr) (cap : Nat) (xs : List ByteArray) (left : Int) (l0 : 0 ≤ left) (l1 : left ≤ 1048576) (w : World) (hlen : xs.length ≤ maxLen) (hr : Reads w a 1 encS xs) (hok : ∀ x ∈ xs, (fun s : ByteArray => s.size ≤ maxLen) x) :
    Calls Try.prog 11 #[.slice a xs.length cap, .int .i64 left] w fun e w' => e = .returned (.int .i64 (szSub left (bulkL bulkS xs))) ∧ Below w.heap.size w w' := by
  have HR := Lib.hid hr
  have HO := Lib.hid hok
  clear hr hok
  unfold maxLen at hlen
  by_cases h1 : left < xs.length
  · have HS := Lib.hid (szSub_no (left := left) (n := bulkL bulkS xs) (by have := bulkL_ge bulkS xs; omega))
    clear HR HO
    go_enter Try.func11, Try.ntmps11
    go_wp2
    go_ret
    exact ⟨by rw [HS.out]; rfl, (by repeat (first | exact Below.refl _ _ | assumption | refine Below.alloc ?_ (by simp <;> omega) _ | refine Below.setCell ?_ (by simp <;> omega) _ | refine Below.drew ?_))⟩
  · have h1' : (xs.length : Int) ≤ left := by omega
    clear h1
    go_enter Try.func11, Try.ntmps11
    go_wp2
    go_loopw [1, 5] (fun l i wr => ∃ k : Nat, k ≤ xs.length ∧ i = .int .i64 k ∧ (bulkUp bulkS xs k : Int) ≤ left ∧ l = .int .i64 (left - bulkUp bulkS xs k) ∧ Below w.heap.size w wr) (fun _ i _ => xs.length - (intOf i).toNat)
    case atStart => exact ⟨0, Nat.zero_le _, rfl, by rw [bulkUp_zero]; exact h1', by rw [bulkUp_zero], (by repeat (first | exact Below.refl _ _ | assumption | refine Below.alloc ?_ (by simp <;> omega) _ | refine Below.setCell ?_ (by simp <;> omega) _ | refine Below.drew ?_))⟩
    case round =>
      obtain ⟨k, hk, rfl, hle, rfl, hb⟩ := hrel
      by_cases hlt : k < xs.length
      · obtain ⟨x, hx⟩ := some_of_lt hlt
        obtain ⟨b, off, rfl, c0⟩ := readString HR.out hb hx
        have hokx := HO.out x (mem_of_some hx)
        unfold maxLen at hokx
        by_cases hfit : (x.size : Int) ≤ left - bulkUp bulkS xs k
        · have HU := Lib.hid (bulkUp_succ (f := bulkS) hx)
          clear hx
          go_wp2
          go_roundw
          case rel => exact ⟨k + 1, by omega, by go_num, by rw [HU.out]; show ((bulkUp bulkS xs k + x.size : Nat) : Int) ≤ left; omega, by rw [HU.out]; exact congrArg (Value.int .i64) (show left - (bulkUp bulkS xs k : Int) - (x.size : Int) = left - ((bulkUp bulkS xs k + x.size : Nat) : Int) by omega), (by repeat (first | exact Below.refl _ _ | refine Below.drew ?_ | refine below_drewN ?_ _ | refine Below.allocC ?_ _ | refine Below.setCell ?_ (by first | (simp; done) | (simp; omega)) _ | refine Below.chain ?_ (by assumption)))⟩
          case measure => simp [intOf]; omega
        · have HN := Lib.hid (szSub_no (left := left) (n := bulkL bulkS xs) (by have := bulkUp_succ (f := bulkS) hx; have := bulkUp_le bulkS xs (k + 1); have : bulkS x = x.size := rfl; omega))
          clear hx
          go_wp2
          go_ret
          exact ⟨by rw [HN.out]; rfl, (by repeat (first | exact Below.refl _ _ | refine Below.drew ?_ | refine below_drewN ?_ _ | refine Below.allocC ?_ _ | refine Below.setCell ?_ (by first | (simp; done) | (simp; omega)) _ | refine Below.chain ?_ (by assumption)))⟩
      · have HS := Lib.hid (szSub_yes (left := left) (n := bulkL bulkS xs) (by rw [← bulkUp_end (k := k) (by omega)]; exact hle))
        have HE := Lib.hid (bulkUp_end (f := bulkS) (xs := xs) (k := k) (by omega))
        go_wp2
        go_ret
        exact ⟨by rw [HS.out, ← HE.out]; rfl, hb⟩

set_option maxHeartbeats 2000000 in
theorem eqStringS_c (a a2 : Option Addr) (cap cap2 : Nat) (xs ys : List ByteArray) (w : World) (hlen : xs.length ≤ maxLen) (hr : Reads w a 1 encS xs) (hr2 : Reads w a2 1 encS ys) :
    Calls Try.prog 15 #[.slice a xs.length cap, .slice a2 ys.length cap2] w fun e w' => e = .returned (.bool (same xs ys)) ∧ Below w.heap.size w w' := by
  have HR := Lib.hid hr
  have HR2 := Lib.hid hr2
  clear hr hr2
  unfold maxLen at hlen
  by_cases h1 : xs.length = ys.length
  · have HE := Lib.hid h1
    have hq : ((xs.length : Int) != (ys.length : Int)) = false := by simp [h1]
    have h1' : ys.length ≤ xs.length := by omega
    have h1'' : xs.length ≤ ys.length := by omega
    clear h1
    go_enter Try.func15, Try.ntmps15
    go_wp2
    go_loopw [5] (fun i wr => ∃ k : Nat, k ≤ xs.length ∧ i = .int .i64 k ∧ upTo xs ys k ∧ Below w.heap.size w wr) (fun i _ => xs.length - (intOf i).toNat)
    case atStart => exact ⟨0, Nat.zero_le _, rfl, upTo_zero _ _, (by repeat (first | exact Below.refl _ _ | assumption | refine Below.alloc ?_ (by simp <;> omega) _ | refine Below.setCell ?_ (by simp <;> omega) _ | refine Below.drew ?_))⟩
    case round =>
      obtain ⟨k, hk, rfl, hup, hb⟩ := hrel
      by_cases hlt : k < xs.length
      · obtain ⟨x, hx⟩ := some_of_lt hlt
        obtain ⟨y, hy⟩ := some_of_lt (xs := ys) (k := k) (by omega)
        obtain ⟨b, off, rfl, c0⟩ := readString HR.out hb hx
        obtain ⟨b2, off2, rfl, d0⟩ := readString HR2.out hb hy
        have p1 : (0 : Int) ≤ (k : Int) := by omega
        have p2 : (k : Int) < (xs.length : Int) := by omega
        have p3 : (k : Int) < (ys.length : Int) := by omega
        cases hxy : same x y
        · have HN := Lib.hid (same_at hx hy hxy)
          have hne : x ≠ y := fun e => by rw [e, same_self] at hxy; cases hxy
          have q1 := toList_ne hne
          have q2 := beq_toList_false hne
          have q3 := bne_toList_true hne
          clear hx hy hne hxy
          go_wp2_with fail
          go_region_held3 (fun w' => w'.cell? ⟨b, off + k, none⟩ = some (.string x) ∧ w'.cell? ⟨b2, off2 + k, none⟩ = some (.string y)) ((go_split_ands; (repeat' apply And.intro) <;> first | assumption | exact keepS (by assumption) (by assumption)))
            (fail)
          go_wp2
          go_ret
          exact ⟨by rw [HN.out]; rfl, (by repeat (first | exact Below.refl _ _ | refine Below.drew ?_ | refine below_drewN ?_ _ | refine Below.allocC ?_ _ | refine Below.setCell ?_ (by first | (simp; done) | (simp; omega)) _ | refine Below.chain ?_ (by assumption)))⟩
        · have hs := upTo_succ hup hx hy hxy
          clear hx hy
          obtain rfl := same_iff.1 hxy
          clear hxy
          go_wp2_with fail
          go_region_held3 (fun w' => w'.cell? ⟨b, off + k, none⟩ = some (.string x) ∧ w'.cell? ⟨b2, off2 + k, none⟩ = some (.string x)) ((go_split_ands; (repeat' apply And.intro) <;> first | assumption | exact keepS (by assumption) (by assumption)))
            (fail)
          go_wp2
          go_roundw
          case rel => exact ⟨k + 1, by omega, by go_num, hs, (by repeat (first | exact Below.refl _ _ | refine Below.drew ?_ | refine below_drewN ?_ _ | refine Below.allocC ?_ _ | refine Below.setCell ?_ (by first | (simp; done) | (simp; omega)) _ | refine Below.chain ?_ (by assumption)))⟩
          case measure => simp [intOf]; omega
      · have HS := Lib.hid (same_end hup (by omega) (by omega))
        go_wp2
        go_ret
        exact ⟨by rw [HS.out]; rfl, hb⟩
  · have HS := Lib.hid (same_len h1)
    have hq : ((xs.length : Int) != (ys.length : Int)) = true := by simp; omega
    clear h1
    go_enter Try.func15, Try.ntmps15
    go_wp2
    go_ret
    exact ⟨by rw [HS.out]; rfl, (by repeat (first | exact Below.refl _ _ | assumption | refine Below.alloc ?_ (by simp <;> omega) _ | refine Below.setCell ?_ (by simp <;> omega) _ | refine Below.drew ?_))⟩

theorem infoString : (Try.prog.info? 9).map (fun i => (i.zero, i.size, i.bytes)) = some (some (.string ⟨#[]⟩), 1, 16) := by kernel_rfl
set_option maxHeartbeats 2000000 in
theorem toStringS_c (a : Option Addr) (cap : Nat) (xs : List ByteArray) (w : World) (hlen : xs.length ≤ 1048576) (hr : Reads w a 1 encS xs) :
    Calls Try.prog 13 #[.slice a xs.length cap] w (Fresh 9 1 (xs.flatMap encS) xs.length w) := by
  have HR := Lib.hid hr
  clear hr
  have hmk := make_eq (P := Try.prog) 22 9 1 16 _ Try.underlying22 infoString xs.length (by omega) (by omega)
  go_enter Try.func13, Try.ntmps13
  go_wp2
  go_loopw [4] (fun i wr => ∃ k : Nat, k ≤ xs.length ∧ i = .int .i64 k ∧ Filling wr w.heap.size 9 1 xs.length ((xs.take k).flatMap encS) ∧ Below w.heap.size w wr) (fun i _ => xs.length - (intOf i).toNat)
  case atStart => exact ⟨0, Nat.zero_le _, rfl, by simpa using Filling.made w _ _ 1 xs.length, (by repeat (first | exact Below.refl _ _ | refine Below.drew ?_ | refine below_drewN ?_ _ | refine Below.allocC ?_ _ | refine Below.setCell ?_ (by first | (simp; done) | (simp; omega)) _ | refine Below.chain ?_ (by assumption)))⟩
  case round =>
    obtain ⟨k, hk, rfl, F, hb⟩ := hrel
    clear hmk
    by_cases hlt : k < xs.length
    · obtain ⟨x, hx⟩ := some_of_lt hlt
      obtain ⟨b, off, rfl, c0⟩ := readString HR.out hb hx
      have hfm := Lib.hid (flatMap_snoc (enc := encS) hx)
      have hdl : ((xs.take k).flatMap encS).length = k := by rw [length_flatMap_const encS_len, List.length_take, Nat.min_eq_left (by omega), Nat.mul_one]
      have HD := Lib.hid hdl
      clear hx hdl
      have F2 := F
      have hb2 := hb
      have F3 := F2.stores [.string x] (k) HD.out.symm (by rw [HD.out]; simp; omega)
      have H3 := Lib.hid F3
      have D2 := Lib.hid hb2
      have hB := Lib.hid (below_of_grown (sets_grown [.string x] wr w.heap.size (k)) (Nat.le_refl w.heap.size) hb2.size)
      have f0 := F2.free (k)
      obtain ⟨o0, z0⟩ := F2.cell (k) (by omega)
      clear F F2 F3
      go_wp2
      go_roundw
      case rel => exact ⟨k + 1, by omega, by go_num, by rw [hfm.out]; exact H3.out, D2.out.trans hB.out⟩
      case measure => simp [intOf]; omega
    · have hd : (xs.take k).flatMap encS = xs.flatMap encS := by rw [List.take_of_length_le (by omega)]
      rw [hd] at F
      have hO := Lib.hid (F.owns (base := w.heap.size) (length_flatMap_const encS_len xs) (Nat.le_refl _) (by unfold maxLen; omega))
      clear F hd
      go_wp2
      go_ret
      exact ⟨_, rfl, hO.out, hb⟩

end Go.Proofs.Ytillkpjhbakgfaa
