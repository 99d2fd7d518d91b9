/- Contracts: MeetAny of both sides ('meetAnyB'): whether a span of one list meets one of the other. Conditions: only the bounds that any Go slice and string meets. -/
import Derived.Test.YtnccenfdclmkkaaFind
import Derived.Test.YtnccenfdclmkkaaMeet
namespace Go.Proofs.Ytnccenfdclmkkaa
open Go.RowKit
attribute [local go_sem ↓] Go.wp_at_zero Go.wp_at_succ
def meetP (ys : List ByteArray) (x : ByteArray) : Bool := ys.any (meetB x)
def meetAnyB (xs ys : List ByteArray) : Bool := xs.any (meetP ys)

set_option maxHeartbeats 4000000 in
theorem specMeetAny_c (a a2 : Option Addr) (cap cap2 : Nat) (xs ys : List ByteArray) (w : World) (l1 : xs.length ≤ maxLen) (l2 : ys.length ≤ maxLen) (h1 : Reads w a 1 encS xs) (h2 : Reads w a2 1 encS ys) (o1 : ∀ x ∈ xs, x.size ≤ maxLen) (o2 : ∀ x ∈ ys, x.size ≤ maxLen) :
    Calls Try.prog 27 #[.slice a xs.length cap, .slice a2 ys.length cap2] w fun e w' => e = .returned (.bool (meetAnyB xs ys)) ∧ Below w.heap.size w w' := by
  have HR := Lib.hid h1
  have HR2 := Lib.hid h2
  have HO := Lib.hid o1
  have HO2 := Lib.hid o2
  clear h1 h2 o1 o2
  unfold maxLen at l1 l2
  go_enter Try.func27, Try.ntmps27
  go_wp2
  go_loopw [5] (fun i wr => ∃ k : Nat, k ≤ xs.length ∧ i = .int .i64 k ∧ noneUp (meetP ys) xs k ∧ Below w.heap.size w wr) (fun i _ => xs.length - (intOf i).toNat)
  case atStart => exact ⟨0, Nat.zero_le _, rfl, noneUp_zero _ _, (by repeat (first | exact Below.refl _ _ | assumption | refine Below.alloc ?_ (by simp <;> omega) _ | refine Below.setCell ?_ (by simp <;> omega) _ | refine Below.drew ?_))⟩
  case round =>
    obtain ⟨k, hk, rfl, hup, hb⟩ := hrel
    by_cases hlt : k < xs.length
    · obtain ⟨x, hx⟩ := some_of_lt hlt
      have p1 : (0 : Int) ≤ (k : Int) := by omega
      have p2 : (k : Int) < (xs.length : Int) := by omega
      have hxs := HO.out x (List.mem_of_getElem? hx)
      have HX := Lib.hid hx
      have HXS := Lib.hid hxs
      clear hx hxs
      obtain ⟨wo, hwo⟩ : ∃ wo : World, wo = wr := ⟨_, rfl⟩
      subst hwo
      have HUP := Lib.hid hup
      clear hup
      go_wp2
      go_loopw [6] (fun i wr => ∃ m : Nat, m ≤ ys.length ∧ i = .int .i64 m ∧ noneUp (meetB x) ys m ∧ Below w.heap.size w wr) (fun i _ => ys.length - (intOf i).toNat)
      case atStart => exact ⟨0, Nat.zero_le _, rfl, noneUp_zero _ _, hb⟩
      case round =>
        obtain ⟨m, hm, rfl, hin, hbi⟩ := hrel
        by_cases hlt2 : m < ys.length
        · obtain ⟨y, hy⟩ := some_of_lt hlt2
          obtain ⟨b, off, hab, c0⟩ := readFS HR.out hbi HX.out
          obtain ⟨b2, off2, hab2, d0⟩ := readFS HR2.out hbi hy
          subst hab
          subst hab2
          have p3 : (0 : Int) ≤ (m : Int) := by omega
          have p4 : (m : Int) < (ys.length : Int) := by omega
          have HYS := Lib.hid (HO2.out y (List.mem_of_getElem? hy))
          have HY := Lib.hid hy
          clear hy
          cases hq : meetB x y with
          | true =>
            have HC := Lib.hid (show ∀ W, Calls Try.prog 60 #[.string x, .string y] W fun e w' => e = .returned (.bool true) ∧ W = w' from fun W => by rw [← hq]; exact specMeet_c x y W HXS.out HYS.out)
            have HN := Lib.hid (show meetAnyB xs ys = true from any_hit HX.out (any_hit HY.out hq))
            clear hq hin
            go_wp2_with fail
            go_region_held3 (fun w' => w'.cell? ⟨b, off + k, none⟩ = some (.string x) ∧ w'.cell? ⟨b2, off2 + m, none⟩ = some (.string y)) ((go_split_ands; (repeat' apply And.intro) <;> first | assumption | exact keepS (by assumption) (by assumption))) (first | (go_at_call 60; refine (HC.out _).mono ?_; rintro e w' ⟨rfl, rfl⟩))
            go_wp2
            go_ret
            exact ⟨by rw [HN.out]; rfl, (by repeat (first | exact Below.refl _ _ | refine Below.drew ?_ | refine Below.allocC ?_ _ | refine Below.setCell ?_ (by first | (simp; done) | (simp; omega)) _ | refine Below.chain ?_ (by assumption)))⟩
          | false =>
            have HC := Lib.hid (show ∀ W, Calls Try.prog 60 #[.string x, .string y] W fun e w' => e = .returned (.bool false) ∧ W = w' from fun W => by rw [← hq]; exact specMeet_c x y W HXS.out HYS.out)
            have hs := noneUp_succ hin HY.out hq
            clear hq
            go_wp2_with fail
            go_region_held3 (fun w' => w'.cell? ⟨b, off + k, none⟩ = some (.string x) ∧ w'.cell? ⟨b2, off2 + m, none⟩ = some (.string y)) ((go_split_ands; (repeat' apply And.intro) <;> first | assumption | exact keepS (by assumption) (by assumption))) (first | (go_at_call 60; refine (HC.out _).mono ?_; rintro e w' ⟨rfl, rfl⟩))
            go_wp2
            go_roundw
            case rel => exact ⟨m + 1, by omega, by go_num, hs, (by repeat (first | exact Below.refl _ _ | refine Below.drew ?_ | refine Below.allocC ?_ _ | refine Below.setCell ?_ (by first | (simp; done) | (simp; omega)) _ | refine Below.chain ?_ (by assumption)))⟩
            case measure => simp [intOf]; omega
        · have p4 : ¬ (m : Int) < (ys.length : Int) := by omega
          have hs := noneUp_succ HUP.out HX.out (show meetP ys x = false from any_miss hin (by omega))
          go_wp2
          go_roundw
          case rel => exact ⟨k + 1, by omega, by go_num, hs, hbi⟩
          case measure => simp [intOf]; omega
    · have HS := Lib.hid (show meetAnyB xs ys = false from any_miss hup (by omega))
      have p2 : ¬ (k : Int) < (xs.length : Int) := by omega
      go_wp2
      go_ret
      exact ⟨by rw [HS.out]; rfl, hb⟩

/-- The closure of MeetAny: the text meets the span that lies in MeetAny's own cell. -/
theorem meetAnyFn_c (x : ByteArray) (B : Nat) (w W : World) (hB : w.cell? ⟨B, 0, none⟩ = some (.string x)) (hx : x.size ≤ maxLen) (y : ByteArray) (hy : y.size ≤ maxLen) (hb : Below w.heap.size w W) :
    Calls Try.prog 62 #[.string y, .pointer (some ⟨B, 0, none⟩)] W fun e w' => e = .returned (.bool (meetB x y)) ∧ Below W.heap.size W w' := by
  have hc : W.cell? ⟨B, 0, none⟩ = some (.string x) := keepS hb hB
  have HM := Lib.hid (fun W => implMeet_c x y W hx hy)
  generalize meetB x y = r at *
  go_enter Try.func62, Try.ntmps62
  go_wp2_with fail
  refine (HM.out _).mono ?_
  rintro e w' ⟨rfl, rfl⟩
  go_wp2
  go_ret
  exact ⟨rfl, (by repeat (first | exact Below.refl _ _ | refine Below.drew ?_ | refine Below.allocC ?_ _ | refine Below.setCell ?_ (by first | (simp; done) | (simp; omega)) _ | refine Below.chain ?_ (by assumption)))⟩

set_option maxHeartbeats 4000000 in
theorem implMeetAny_c (a a2 : Option Addr) (cap cap2 : Nat) (xs ys : List ByteArray) (w : World) (l1 : xs.length ≤ maxLen) (l2 : ys.length ≤ maxLen) (h1 : Reads w a 1 encS xs) (h2 : Reads w a2 1 encS ys) (o1 : ∀ x ∈ xs, x.size ≤ maxLen) (o2 : ∀ x ∈ ys, x.size ≤ maxLen) :
    Calls Try.prog 28 #[.slice a xs.length cap, .slice a2 ys.length cap2] w fun e w' => e = .returned (.bool (meetAnyB xs ys)) ∧ Below w.heap.size w w' := by
  have HR := Lib.hid h1
  have HO := Lib.hid o1
  have HK := Lib.hid (show ∀ (x : ByteArray) (W : World) (B : Nat), x.size ≤ maxLen → Below w.heap.size w W → W.cell? ⟨B, 0, none⟩ = some (.string x) → Calls Try.prog 61 #[.slice a2 ys.length cap2, .func (.func 62) #[] #[.pointer (some ⟨B, 0, none⟩)]] W fun e w' => e = .returned (.bool (meetP ys x)) ∧ Below W.heap.size W w' from
    fun x W B hx hW hc => containsFuncS_c a2 cap2 ys (meetB x) 62 #[.pointer (some ⟨B, 0, none⟩)] (fun args w => enters_of Try.func62 (by kernel_rfl) rfl args w) W (fun W' y hy hb => meetAnyFn_c x B W W' hc hx y (o2 y hy) hb) l2 (h2.below hW))
  clear h1 h2 o1 o2
  unfold maxLen at l1 l2
  go_enter Try.func28, Try.ntmps28
  go_wp2
  go_loopw [9] (fun i wr => ∃ k : Nat, k ≤ xs.length ∧ i = .int .i64 k ∧ noneUp (meetP ys) xs k ∧ Below w.heap.size w wr) (fun i _ => xs.length - (intOf i).toNat)
  case atStart => exact ⟨0, Nat.zero_le _, rfl, noneUp_zero _ _, (by repeat (first | exact Below.refl _ _ | assumption | refine Below.alloc ?_ (by simp <;> omega) _ | refine Below.setCell ?_ (by simp <;> omega) _ | refine Below.drew ?_))⟩
  case round =>
    obtain ⟨k, hk, rfl, hup, hb⟩ := hrel
    by_cases hlt : k < xs.length
    · obtain ⟨x, hx⟩ := some_of_lt hlt
      obtain ⟨b, off, hab, c0⟩ := readFS HR.out hb hx
      subst hab
      have p1 : (0 : Int) ≤ (k : Int) := by omega
      have p2 : (k : Int) < (xs.length : Int) := by omega
      have HXS := Lib.hid (HO.out x (List.mem_of_getElem? hx))
      have HX := Lib.hid hx
      clear hx
      cases hq : meetP ys x with
      | true =>
        have HN := Lib.hid (show meetAnyB xs ys = true from any_hit HX.out hq)
        go_wp2_with fail
        refine (HK.out x _ _ HXS.out (by repeat (first | exact Below.refl _ _ | refine Below.drew ?_ | refine Below.allocC ?_ _ | refine Below.setCell ?_ (by first | (simp; done) | (simp; omega)) _ | refine Below.chain ?_ (by assumption))) (by simp)).mono ?_
        rintro e w1 ⟨rfl, hb1⟩
        rw [hq]
        clear hq hup
        go_wp2
        go_ret
        exact ⟨by rw [HN.out]; rfl, (by repeat (first | exact Below.refl _ _ | refine Below.drew ?_ | refine Below.allocC ?_ _ | refine Below.setCell ?_ (by first | (simp; done) | (simp; omega)) _ | refine Below.chain ?_ (by assumption)))⟩
      | false =>
        have hs := noneUp_succ hup HX.out hq
        go_wp2_with fail
        refine (HK.out x _ _ HXS.out (by repeat (first | exact Below.refl _ _ | refine Below.drew ?_ | refine Below.allocC ?_ _ | refine Below.setCell ?_ (by first | (simp; done) | (simp; omega)) _ | refine Below.chain ?_ (by assumption))) (by simp)).mono ?_
        rintro e w1 ⟨rfl, hb1⟩
        rw [hq]
        clear hq hup
        go_wp2
        go_roundw
        case rel => exact ⟨k + 1, by omega, by go_num, hs, (by repeat (first | exact Below.refl _ _ | refine Below.drew ?_ | refine Below.allocC ?_ _ | refine Below.setCell ?_ (by first | (simp; done) | (simp; omega)) _ | refine Below.chain ?_ (by assumption)))⟩
        case measure => simp [intOf]; omega
    · have HS := Lib.hid (show meetAnyB xs ys = false from any_miss hup (by omega))
      have p2 : ¬ (k : Int) < (xs.length : Int) := by omega
      go_wp2
      go_ret
      exact ⟨by rw [HS.out]; rfl, hb⟩
end Go.Proofs.Ytnccenfdclmkkaa
