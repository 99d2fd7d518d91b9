/- Contracts: Covers of both sides ('coversB'): every key lies in some span of the list. Conditions: only the bounds that any Go slice and string meets. -/
import Derived.Test.YtnccenfdclmkkaaFind
import Derived.Test.YtnccenfdclmkkaaSpan
import Derived.BigQuiet
namespace Go.Proofs.Ytnccenfdclmkkaa
open Go.RowKit
attribute [local go_sem ↓] Go.wp_at_zero Go.wp_at_succ
/-- No span of the list holds the key. -/
def bareP (xs : List ByteArray) (key : ByteArray) : Bool := !(xs.any (fun s => spanHasB s key))
def coversB (xs keys : List ByteArray) : Bool := !(keys.any (bareP xs))
/-- One of the first m spans holds the key. -/
def inUp (xs : List ByteArray) (key : ByteArray) (m : Nat) : Bool := (xs.take m).any (fun s => spanHasB s key)
theorem inUp_zero (xs : List ByteArray) (key : ByteArray) : inUp xs key 0 = false := by simp [inUp]
theorem inUp_succ {xs : List ByteArray} {key x : ByteArray} {m : Nat} (hx : xs[m]? = some x) : inUp xs key (m + 1) = (inUp xs key m || spanHasB x key) := by
  unfold inUp; rw [take_snoc_of hx, List.any_append]; simp
theorem inUp_end {xs : List ByteArray} {key : ByteArray} {m : Nat} (h : xs.length ≤ m) : inUp xs key m = !(bareP xs key) := by
  unfold inUp bareP; rw [List.take_of_length_le h]; simp

set_option maxHeartbeats 4000000 in
theorem specCovers_c (a a2 : Option Addr) (cap cap2 : Nat) (xs ys : List ByteArray) (w : World) (l1 : xs.length ≤ maxLen) (l2 : ys.length ≤ maxLen) (h1 : Reads w a 1 encS xs) (h2 : Reads w a2 1 encS ys) (o1 : ∀ x ∈ xs, x.size ≤ maxLen) (o2 : ∀ x ∈ ys, x.size ≤ maxLen) :
    Calls Try.prog 23 #[.slice a xs.length cap, .slice a2 ys.length cap2] w fun e w' => e = .returned (.bool (coversB xs ys)) ∧ Below w.heap.size w w' := by
  have HR := Lib.hid h1
  have HR2 := Lib.hid h2
  have HO := Lib.hid o1
  have HO2 := Lib.hid o2
  clear h1 h2 o1 o2
  unfold maxLen at l1 l2
  go_enter Try.func23, Try.ntmps23
  go_wp2
  go_loopw [5] (fun i wr => ∃ k : Nat, k ≤ ys.length ∧ i = .int .i64 k ∧ noneUp (bareP xs) ys k ∧ Below w.heap.size w wr) (fun i _ => ys.length - (intOf i).toNat)
  case atStart => exact ⟨0, Nat.zero_le _, rfl, noneUp_zero _ _, (by repeat (first | exact Below.refl _ _ | assumption | refine Below.alloc ?_ (by simp <;> omega) _ | refine Below.setCell ?_ (by simp <;> omega) _ | refine Below.drew ?_))⟩
  case round =>
    obtain ⟨k, hk, rfl, hup, hb⟩ := hrel
    by_cases hlt : k < ys.length
    · obtain ⟨y, hy⟩ := some_of_lt hlt
      have p1 : (0 : Int) ≤ (k : Int) := by omega
      have p2 : (k : Int) < (ys.length : Int) := by omega
      have HYS := Lib.hid (HO2.out y (List.mem_of_getElem? hy))
      have HY := Lib.hid hy
      clear hy
      obtain ⟨wo, hwo⟩ : ∃ wo : World, wo = wr := ⟨_, rfl⟩
      subst hwo
      have HUP := Lib.hid hup
      clear hup
      go_wp2
      go_loopw [6, 7] (fun r i wr => ∃ m : Nat, m ≤ xs.length ∧ i = .int .i64 m ∧ r = .bool (inUp xs y m) ∧ Below w.heap.size w wr) (fun _ i _ => xs.length - (intOf i).toNat)
      case atStart => exact ⟨0, Nat.zero_le _, rfl, by rw [inUp_zero], hb⟩
      case round =>
        obtain ⟨m, hm, rfl, rfl, hbi⟩ := hrel
        by_cases hlt2 : m < xs.length
        · obtain ⟨x, hx⟩ := some_of_lt hlt2
          obtain ⟨b, off, hab, c0⟩ := readFS HR.out hbi hx
          obtain ⟨b2, off2, hab2, d0⟩ := readFS HR2.out hbi HY.out
          subst hab
          subst hab2
          have p3 : (0 : Int) ≤ (m : Int) := by omega
          have p4 : (m : Int) < (xs.length : Int) := by omega
          have HXS := Lib.hid (HO.out x (List.mem_of_getElem? hx))
          have HX := Lib.hid hx
          have HI := Lib.hid (inUp_succ (key := y) hx)
          clear hx
          have HC := Lib.hid (fun W => specSpanHas_c x y W HXS.out HYS.out)
          cases hq : inUp xs y m with
          | true =>
            have HI2 := Lib.hid (show inUp xs y (m + 1) = true by rw [HI.out, hq]; rfl)
            clear hq
            go_wp2_with fail
            go_quiet (fail)
            go_wp2
            go_roundw
            case rel => exact ⟨m + 1, by omega, by go_num, by rw [HI2.out], (by repeat (first | exact Below.refl _ _ | refine Below.drew ?_ | refine below_drewN ?_ _ | refine Below.allocC ?_ _ | refine Below.setCell ?_ (by first | (simp; done) | (simp; omega)) _ | refine Below.chain ?_ (by assumption)))⟩
            case measure => simp [intOf]; omega
          | false =>
            have HI2 := Lib.hid (show inUp xs y (m + 1) = spanHasB x y by rw [HI.out, hq]; rfl)
            clear hq
            generalize spanHasB x y = r at *
            go_wp2_with fail
            go_quiet (first | (go_at_call 58; exact Calls.quiet_of_same ((HC.out _).mono fun e w' h => ⟨h.1, h.2.symm⟩)))
            go_wp2
            go_roundw
            case rel => exact ⟨m + 1, by omega, by go_num, by rw [HI2.out], (by repeat (first | exact Below.refl _ _ | refine Below.drew ?_ | refine below_drewN ?_ _ | refine Below.allocC ?_ _ | refine Below.setCell ?_ (by first | (simp; done) | (simp; omega)) _ | refine Below.chain ?_ (by assumption)))⟩
            case measure => simp [intOf]; omega
        · have p4 : ¬ (m : Int) < (xs.length : Int) := by omega
          have HE := Lib.hid (inUp_end (key := y) (Nat.not_lt.1 hlt2))
          rw [HE.out]
          cases hq : bareP xs y with
          | true =>
            have HN := Lib.hid (show coversB xs ys = false by unfold coversB; rw [any_hit HY.out hq]; rfl)
            clear hq HE
            go_wp2
            go_ret
            exact ⟨by rw [HN.out]; rfl, (by repeat (first | exact Below.refl _ _ | refine Below.drew ?_ | refine below_drewN ?_ _ | refine Below.allocC ?_ _ | refine Below.setCell ?_ (by first | (simp; done) | (simp; omega)) _ | refine Below.chain ?_ (by assumption)))⟩
          | false =>
            have hs := noneUp_succ HUP.out HY.out hq
            clear hq HE
            go_wp2
            go_roundw
            case rel => exact ⟨k + 1, by omega, by go_num, hs, hbi⟩
            case measure => simp [intOf]; omega
    · have HS := Lib.hid (show coversB xs ys = true by unfold coversB; rw [any_miss hup (by omega)]; rfl)
      have p2 : ¬ (k : Int) < (ys.length : Int) := by omega
      go_wp2
      go_ret
      exact ⟨by rw [HS.out]; rfl, hb⟩

/-- The closure of spansHave: the span holds the key that lies in spansHave's own cell. -/
theorem spansHaveFn_c (key : ByteArray) (B : Nat) (w W : World) (hB : w.cell? ⟨B, 0, none⟩ = some (.string key)) (hk : key.size ≤ maxLen) (x : ByteArray) (hx : x.size ≤ maxLen) (hb : Below w.heap.size w W) :
    Calls Try.prog 81 #[.string x, .pointer (some ⟨B, 0, none⟩)] W fun e w' => e = .returned (.bool (spanHasB x key)) ∧ Below W.heap.size W w' := by
  have hc : W.cell? ⟨B, 0, none⟩ = some (.string key) := keepS hb hB
  have HM := Lib.hid (fun W => implSpanHas_c x key W hx hk)
  generalize spanHasB x key = r at *
  go_enter Try.func81, Try.ntmps81
  go_wp2_with fail
  refine (HM.out _).mono ?_
  rintro e w' ⟨rfl, rfl⟩
  go_wp2
  go_ret
  exact ⟨rfl, (by repeat (first | exact Below.refl _ _ | refine Below.drew ?_ | refine below_drewN ?_ _ | refine Below.allocC ?_ _ | refine Below.setCell ?_ (by first | (simp; done) | (simp; omega)) _ | refine Below.chain ?_ (by assumption)))⟩

set_option maxHeartbeats 2000000 in
theorem spansHave_c (a : Option Addr) (cap : Nat) (xs : List ByteArray) (key : ByteArray) (w : World) (l1 : xs.length ≤ maxLen) (h1 : Reads w a 1 encS xs) (o1 : ∀ x ∈ xs, x.size ≤ maxLen) (hk : key.size ≤ maxLen) :
    Calls Try.prog 59 #[.slice a xs.length cap, .string key] w fun e w' => e = .returned (.bool (!(bareP xs key))) ∧ Below w.heap.size w w' := by
  have HK := Lib.hid (show ∀ (W : World) (B : Nat), Below w.heap.size w W → W.cell? ⟨B, 0, none⟩ = some (.string key) → Calls Try.prog 61 #[.slice a xs.length cap, .func (.func 81) #[] #[.pointer (some ⟨B, 0, none⟩)]] W fun e w' => e = .returned (.bool (!(bareP xs key))) ∧ Below W.heap.size W w' from
    fun W B hW hc => by
      have h := containsFuncS_c a cap xs (fun s => spanHasB s key) 81 #[.pointer (some ⟨B, 0, none⟩)] (fun args w => enters_of Try.func81 (by kernel_rfl) rfl args w) W (fun W' y hy hb => spansHaveFn_c key B W W' hc hk y (o1 y hy) hb) l1 (h1.below hW)
      rw [show xs.any (fun s => spanHasB s key) = !(bareP xs key) by simp [bareP]] at h
      exact h)
  clear h1 o1
  generalize bareP xs key = r at *
  go_enter Try.func59, Try.ntmps59
  go_wp2_with fail
  refine (HK.out _ _ (by repeat (first | exact Below.refl _ _ | refine Below.drew ?_ | refine below_drewN ?_ _ | refine Below.allocC ?_ _ | refine Below.setCell ?_ (by first | (simp; done) | (simp; omega)) _ | refine Below.chain ?_ (by assumption))) (by simp)).mono ?_
  rintro e w1 ⟨rfl, hb1⟩
  go_wp2
  go_ret
  exact ⟨rfl, (by repeat (first | exact Below.refl _ _ | refine Below.drew ?_ | refine below_drewN ?_ _ | refine Below.allocC ?_ _ | refine Below.setCell ?_ (by first | (simp; done) | (simp; omega)) _ | refine Below.chain ?_ (by assumption)))⟩

set_option maxHeartbeats 4000000 in
theorem implCovers_c (a a2 : Option Addr) (cap cap2 : Nat) (xs ys : List ByteArray) (w : World) (l1 : xs.length ≤ maxLen) (l2 : ys.length ≤ maxLen) (h1 : Reads w a 1 encS xs) (h2 : Reads w a2 1 encS ys) (o1 : ∀ x ∈ xs, x.size ≤ maxLen) (o2 : ∀ x ∈ ys, x.size ≤ maxLen) :
    Calls Try.prog 25 #[.slice a xs.length cap, .slice a2 ys.length cap2] w fun e w' => e = .returned (.bool (coversB xs ys)) ∧ Below w.heap.size w w' := by
  have HK := Lib.hid (fun (y : ByteArray) (W : World) (hy : y.size ≤ maxLen) (hW : Below w.heap.size w W) => spansHave_c a cap xs y W l1 (h1.below hW) o1 hy)
  have HR2 := Lib.hid h2
  have HO2 := Lib.hid o2
  clear h1 h2 o1 o2
  unfold maxLen at l1 l2
  go_enter Try.func25, Try.ntmps25
  go_wp2
  go_loopw [9] (fun i wr => ∃ k : Nat, k ≤ ys.length ∧ i = .int .i64 k ∧ noneUp (bareP xs) ys k ∧ Below w.heap.size w wr) (fun i _ => ys.length - (intOf i).toNat)
  case atStart => exact ⟨0, Nat.zero_le _, rfl, noneUp_zero _ _, (by repeat (first | exact Below.refl _ _ | assumption | refine Below.alloc ?_ (by simp <;> omega) _ | refine Below.setCell ?_ (by simp <;> omega) _ | refine Below.drew ?_))⟩
  case round =>
    obtain ⟨k, hk, rfl, hup, hb⟩ := hrel
    by_cases hlt : k < ys.length
    · obtain ⟨y, hy⟩ := some_of_lt hlt
      obtain ⟨b, off, hab, c0⟩ := readFS HR2.out hb hy
      subst hab
      have p1 : (0 : Int) ≤ (k : Int) := by omega
      have p2 : (k : Int) < (ys.length : Int) := by omega
      have HYS := Lib.hid (HO2.out y (List.mem_of_getElem? hy))
      have HY := Lib.hid hy
      clear hy
      cases hq : bareP xs y with
      | true =>
        have HN := Lib.hid (show coversB xs ys = false by unfold coversB; rw [any_hit HY.out hq]; rfl)
        go_wp2_with fail
        refine (HK.out y _ HYS.out (by repeat (first | exact Below.refl _ _ | refine Below.drew ?_ | refine below_drewN ?_ _ | refine Below.allocC ?_ _ | refine Below.setCell ?_ (by first | (simp; done) | (simp; omega)) _ | refine Below.chain ?_ (by assumption)))).mono ?_
        rintro e w1 ⟨rfl, hb1⟩
        rw [hq]
        clear hq hup
        go_wp2
        go_ret
        exact ⟨by rw [HN.out]; rfl, (by repeat (first | exact Below.refl _ _ | refine Below.drew ?_ | refine below_drewN ?_ _ | refine Below.allocC ?_ _ | refine Below.setCell ?_ (by first | (simp; done) | (simp; omega)) _ | refine Below.chain ?_ (by assumption)))⟩
      | false =>
        have hs := noneUp_succ hup HY.out hq
        go_wp2_with fail
        refine (HK.out y _ HYS.out (by repeat (first | exact Below.refl _ _ | refine Below.drew ?_ | refine below_drewN ?_ _ | refine Below.allocC ?_ _ | refine Below.setCell ?_ (by first | (simp; done) | (simp; omega)) _ | refine Below.chain ?_ (by assumption)))).mono ?_
        rintro e w1 ⟨rfl, hb1⟩
        rw [hq]
        clear hq hup
        go_wp2
        go_roundw
        case rel => exact ⟨k + 1, by omega, by go_num, hs, (by repeat (first | exact Below.refl _ _ | refine Below.drew ?_ | refine below_drewN ?_ _ | refine Below.allocC ?_ _ | refine Below.setCell ?_ (by first | (simp; done) | (simp; omega)) _ | refine Below.chain ?_ (by assumption)))⟩
        case measure => simp [intOf]; omega
    · have HS := Lib.hid (show coversB xs ys = true by unfold coversB; rw [any_miss hup (by omega)]; rfl)
      have p2 : ¬ (k : Int) < (ys.length : Int) := by omega
      go_wp2
      go_ret
      exact ⟨by rw [HS.out]; rfl, hb⟩
end Go.Proofs.Ytnccenfdclmkkaa
