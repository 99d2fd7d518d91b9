/- Contracts: HasKey and GetKey of the reference: the first cell with a key. Conditions: only the bounds that any Go slice meets. -/
import Derived.Test.YtedbmmoddemngaaDoorFind
namespace Go.Proofs.YtedbmmoddemngaaDoor
open Go.RowKit
attribute [local go_sem ↓] Go.wp_at_zero Go.wp_at_succ
/-- The cell has the key. -/
def keyP (key : ByteArray) (c : ByteArray × ByteArray) : Bool := c.1.toList == key.toList
/-- The value of the first cell with the key. -/
def getKeyS (xs : List (ByteArray × ByteArray)) (key : ByteArray) : ByteArray := match xs[xs.findIdx (keyP key)]? with | some c => c.2 | none => ByteArray.empty
theorem getKey_hit {xs : List (ByteArray × ByteArray)} {key : ByteArray} {k : Nat} {x : ByteArray × ByteArray} (h : noneUp (keyP key) xs k) (hx : xs[k]? = some x) (hp : keyP key x = true) : getKeyS xs key = x.2 := by
  unfold getKeyS; rw [find_hit h hx hp, hx]
theorem getKey_miss {xs : List (ByteArray × ByteArray)} {key : ByteArray} {k : Nat} (h : noneUp (keyP key) xs k) (hk : xs.length ≤ k) : getKeyS xs key = ByteArray.empty := by
  unfold getKeyS; rw [find_miss h hk]; simp

set_option maxRecDepth 100000 in
set_option maxHeartbeats 2000000 in
theorem specGetKey_c (a : Option Addr) (cap : Nat) (xs : List (ByteArray × ByteArray)) (key : ByteArray) (w : World) (hlen : xs.length ≤ maxLen) (hr : Reads w a 2 encC xs) :
    Calls Tryd.prog 70 #[.slice a xs.length cap, .string key] w fun e w' => e = .returned (.string (getKeyS xs key)) ∧ Below w.heap.size w w' := by
  have HR := Lib.hid hr
  clear hr
  unfold maxLen at hlen
  go_enter Tryd.func70, Tryd.ntmps70
  go_wp2
  go_loopw [5] (fun i wr => ∃ k : Nat, k ≤ xs.length ∧ i = .int .i64 k ∧ noneUp (keyP key) xs k ∧ Below w.heap.size w wr) (fun i _ => xs.length - (intOf i).toNat)
  case atStart => exact ⟨0, Nat.zero_le _, rfl, noneUp_zero _ _, (by repeat (first | exact Below.refl _ _ | assumption | refine Below.alloc ?_ (by simp <;> omega) _ | refine Below.setCell ?_ (by simp <;> omega) _ | refine Below.drew ?_))⟩
  case round =>
    obtain ⟨k, hk, rfl, hup, hb⟩ := hrel
    by_cases hlt : k < xs.length
    · obtain ⟨x, hx⟩ := some_of_lt hlt
      obtain ⟨b, off, rfl, c0, c1⟩ := readFC HR.out hb hx
      have p1 : (0 : Int) ≤ (k : Int) := by omega
      have p2 : (k : Int) < (xs.length : Int) := by omega
      have HX := Lib.hid hx
      clear hx
      cases hq : keyP key x with
      | true =>
        have q : (x.1.toList == key.toList) = true := hq
        have HA := Lib.hid (getKey_hit hup HX.out hq)
        clear hq hup
        go_wp2
        go_ret
        exact ⟨by rw [HA.out]; rfl, hb⟩
      | false =>
        have q : (x.1.toList == key.toList) = false := hq
        have hs := noneUp_succ hup HX.out hq
        clear hq
        go_wp2
        go_roundw
        case rel => exact ⟨k + 1, by omega, by go_num, hs, (by repeat (first | exact Below.refl _ _ | refine Below.drew ?_ | refine below_drewN ?_ _ | refine Below.allocC ?_ _ | refine Below.setCell ?_ (by first | (simp; done) | (simp; omega)) _ | refine Below.chain ?_ (by assumption)))⟩
        case measure => simp [intOf]; omega
    · have HS := Lib.hid (getKey_miss hup (by omega))
      have p2 : ¬ (k : Int) < (xs.length : Int) := by omega
      go_wp2
      go_ret
      exact ⟨by rw [HS.out]; rfl, hb⟩

/-- The closure of cellAt: the cell has the key, which lies in a cell of cellAt's own. -/
theorem cellAtFn_c (key : ByteArray) (B : Nat) (w W : World) (hB : w.cell? ⟨B, 0, none⟩ = some (.string key)) (x : ByteArray × ByteArray) (hb : Below w.heap.size w W) :
    Calls Tryd.prog 101 #[.agg #[.string x.1, .string x.2], .pointer (some ⟨B, 0, none⟩)] W fun e w' => e = .returned (.bool (keyP key x)) ∧ Below W.heap.size W w' := by
  have hc : W.cell? ⟨B, 0, none⟩ = some (.string key) := keepS hb hB
  have hBW : B < W.heap.size := World.block_lt_of_cell? W _ hc
  have hne : B ≠ W.heap.size := by omega
  cases hq : keyP key x
  all_goals
    have q : (x.1.toList == key.toList) = _ := hq
    go_enter Tryd.func101, Tryd.ntmps101
    go_wp2
    go_ret
    exact ⟨by simp_all, (by repeat (first | exact Below.refl _ _ | refine Below.drew ?_ | refine below_drewN ?_ _ | refine Below.allocC ?_ _ | refine Below.setCell ?_ (by first | (simp; done) | (simp; omega)) _ | refine Below.chain ?_ (by assumption)))⟩

set_option maxRecDepth 100000 in
set_option maxHeartbeats 2000000 in
theorem cellAt_c (a : Option Addr) (cap : Nat) (xs : List (ByteArray × ByteArray)) (key : ByteArray) (w : World) (hlen : xs.length ≤ maxLen) (hr : Reads w a 2 encC xs) :
    Calls Tryd.prog 87 #[.slice a xs.length cap, .string key] w fun e w' => e = .returned (.int .i64 (idxI xs.length (xs.findIdx (keyP key)))) ∧ Below w.heap.size w w' := by
  have K : ∀ W, Below w.heap.size w W → W.cell? ⟨w.heap.size, 0, none⟩ = some (.string key) → _ := fun W hW hc => indexFuncC_c a cap xs (keyP key) 101 #[.pointer (some ⟨w.heap.size, 0, none⟩)] (fun args w => enters_of Tryd.func101 (by kernel_rfl) rfl args w) W
    (fun W' x _ hb => cellAtFn_c key w.heap.size W W' hc x hb) hlen (hr.below hW)
  have HK := Lib.hid K
  clear K hr
  generalize hgr : idxI xs.length (xs.findIdx (keyP key)) = r at *
  go_enter Tryd.func87, Tryd.ntmps87
  go_wp2_with fail
  refine (HK.out _ (by repeat (first | exact Below.refl _ _ | refine Below.drew ?_ | refine below_drewN ?_ _ | refine Below.allocC ?_ _ | refine Below.setCell ?_ (by first | (simp; done) | (simp; omega)) _ | refine Below.chain ?_ (by assumption))) (by simp)).mono ?_
  rintro e w1 ⟨rfl, hb1⟩
  go_wp2
  go_ret
  exact ⟨rfl, (by repeat (first | exact Below.refl _ _ | refine Below.drew ?_ | refine below_drewN ?_ _ | refine Below.allocC ?_ _ | refine Below.setCell ?_ (by first | (simp; done) | (simp; omega)) _ | refine Below.chain ?_ (by assumption)))⟩

/-- What 'at >= 0' says of the place. -/
theorem idx_nonneg (xs : List (ByteArray × ByteArray)) (key : ByteArray) : decide ((0 : Int) ≤ idxI xs.length (xs.findIdx (keyP key))) = xs.any (keyP key) := by
  rw [any_find]
  by_cases h : xs.findIdx (keyP key) < xs.length
  · rw [idxI_lt h]; simp [h]
  · rw [idxI_ge (by omega)]; simp [h]

set_option maxRecDepth 100000 in
set_option maxHeartbeats 2000000 in
theorem implGetKey_c (a : Option Addr) (cap : Nat) (xs : List (ByteArray × ByteArray)) (key : ByteArray) (w : World) (hlen : xs.length ≤ maxLen) (hr : Reads w a 2 encC xs) :
    Calls Tryd.prog 67 #[.slice a xs.length cap, .string key] w fun e w' => e = .returned (.string (getKeyS xs key)) ∧ Below w.heap.size w w' := by
  have K := Lib.hid (cellAt_c a cap xs key w hlen hr)
  have HR := Lib.hid hr
  clear hr
  unfold maxLen at hlen
  by_cases h : xs.findIdx (keyP key) < xs.length
  · obtain ⟨x, hx⟩ := some_of_lt h
    have HG : Hid (getKeyS xs key = x.2) := Lib.hid (by unfold getKeyS; rw [hx])
    have HX := Lib.hid hx
    have HI := Lib.hid (idxI_lt h)
    generalize xs.findIdx (keyP key) = k at *
    have p1 : (0 : Int) ≤ (k : Int) := by omega
    have p2 : (k : Int) < (xs.length : Int) := by omega
    clear hx
    go_enter Tryd.func67, Tryd.ntmps67
    go_wp2_with fail
    refine K.out.mono ?_
    rintro e w1 ⟨rfl, hb1⟩
    rw [HI.out]
    obtain ⟨b, off, rfl, c0, c1⟩ := readFC HR.out hb1 HX.out
    go_wp2
    go_ret
    exact ⟨by rw [HG.out]; rfl, hb1⟩
  · have HG : Hid (getKeyS xs key = ByteArray.empty) := Lib.hid (by unfold getKeyS; rw [List.getElem?_eq_none (by omega)])
    have HI := Lib.hid (idxI_ge (Nat.not_lt.1 h))
    clear h
    go_enter Tryd.func67, Tryd.ntmps67
    go_wp2_with fail
    refine K.out.mono ?_
    rintro e w1 ⟨rfl, hb1⟩
    rw [HI.out]
    go_wp2
    go_ret
    exact ⟨by rw [HG.out]; rfl, hb1⟩
end Go.Proofs.YtedbmmoddemngaaDoor
