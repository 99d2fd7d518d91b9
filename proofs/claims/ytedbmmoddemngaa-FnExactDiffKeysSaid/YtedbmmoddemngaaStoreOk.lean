/- Contracts: StoreOk of both sides ('storeOkB'): every cell right, keys rising, at most 900. Conditions: only the bounds that any Go slice and string meets. -/
import Derived.Test.YtedbmmoddemngaaFind
import Derived.Test.YtedbmmoddemngaaKeyOk
import Derived.BigQuiet
namespace Go.Proofs.Ytedbmmoddemngaa
open Go.RowKit
attribute [local go_sem ↓] Go.wp_at_zero Go.wp_at_succ
/-- c is not behind p. -/
def leB (c p : ByteArray) : Bool := Op.bytesLess c.toList p.toList || c.toList == p.toList
theorem less_tot : ∀ x y : List UInt8, (!(Op.bytesLess x y)) = (Op.bytesLess y x || y == x)
  | [], [] => rfl
  | [], b :: y => by simp [Op.bytesLess]
  | a :: x, [] => by simp [Op.bytesLess]
  | a :: x, b :: y => by
    have ih := less_tot x y
    unfold Op.bytesLess
    rcases Nat.lt_trichotomy a.toNat b.toNat with h | h | h
    · have h1 : a < b := UInt8.lt_iff_toNat_lt.2 h
      have h2 : ¬ b < a := by rw [UInt8.lt_iff_toNat_lt]; omega
      have h3 : b ≠ a := by rintro rfl; omega
      simp [h1, h2, h3]
    · have h0 : a = b := UInt8.toNat_inj.1 h
      subst h0
      have h1 : ¬ a < a := by rw [UInt8.lt_iff_toNat_lt]; omega
      simp [h1, ih]
    · have h1 : ¬ a < b := by rw [UInt8.lt_iff_toNat_lt]; omega
      have h2 : b < a := UInt8.lt_iff_toNat_lt.2 h
      have h3 : a ≠ b := by rintro rfl; omega
      simp [h1, h2, h3]
theorem leB_spec (c p : ByteArray) : (!(Op.bytesLess p.toList c.toList)) = leB c p := less_tot _ _
/-- The key of the cell ahead does not come before this cell's. -/
def fallB (xs : List (ByteArray × ByteArray)) (k : Nat) (c : ByteArray) : Bool := match k with | 0 => false | j + 1 => (match xs[j]? with | none => false | some d => leB c d.1)
def badCell (xs : List (ByteArray × ByteArray)) (k : Nat) : Bool := match xs[k]? with | none => false | some c => !(keyOkB c.1) || !(inB (c.2.size : Int) 1 60) || fallB xs k c.1
def goodUp (xs : List (ByteArray × ByteArray)) (k : Nat) : Prop := ∀ j, j < k → badCell xs j = false
/-- A store is well formed. -/
def storeOkB (xs : List (ByteArray × ByteArray)) : Bool := (List.range xs.length).all (fun j => !(badCell xs j)) && decide ((xs.length : Int) ≤ 900)
theorem goodUp_zero (xs : List (ByteArray × ByteArray)) : goodUp xs 0 := fun _ h => absurd h (Nat.not_lt_zero _)
theorem bad_is {xs : List (ByteArray × ByteArray)} {k : Nat} {x : ByteArray × ByteArray} (hx : xs[k]? = some x) : badCell xs k = (!(keyOkB x.1) || !(inB (x.2.size : Int) 1 60) || fallB xs k x.1) := by unfold badCell; rw [hx]
theorem goodUp_succ {xs : List (ByteArray × ByteArray)} {k : Nat} (h : goodUp xs k) (hb : badCell xs k = false) : goodUp xs (k + 1) := by
  intro j hj
  by_cases e : j = k
  · subst e; exact hb
  · exact h j (by omega)
theorem store_no {xs : List (ByteArray × ByteArray)} {k : Nat} (hk : k < xs.length) (hb : badCell xs k = true) : storeOkB xs = false := by
  have : (List.range xs.length).all (fun j => !(badCell xs j)) = false := by
    rw [List.all_eq_false]
    exact ⟨k, List.mem_range.2 hk, by simp [hb]⟩
  simp [storeOkB, this]
theorem store_end {xs : List (ByteArray × ByteArray)} {k : Nat} (h : goodUp xs k) (hk : xs.length ≤ k) : storeOkB xs = decide ((xs.length : Int) ≤ 900) := by
  have : (List.range xs.length).all (fun j => !(badCell xs j)) = true := by
    rw [List.all_eq_true]
    intro j hj
    simp [h j (by have := List.mem_range.1 hj; omega)]
  simp [storeOkB, this]

theorem fall_zero {xs : List (ByteArray × ByteArray)} {c : ByteArray} : fallB xs 0 c = false := rfl
theorem fall_succ {xs : List (ByteArray × ByteArray)} {j : Nat} {d : ByteArray × ByteArray} {c : ByteArray} (hd : xs[j]? = some d) : fallB xs (j + 1) c = leB c d.1 := by simp [fallB, hd]

set_option maxRecDepth 100000 in
set_option maxHeartbeats 4000000 in
theorem specStoreOk_c (a : Option Addr) (cap : Nat) (xs : List (ByteArray × ByteArray)) (w : World) (hlen : xs.length ≤ maxLen) (hr : Reads w a 2 encC xs) (ho : ∀ x ∈ xs, x.1.size ≤ maxLen ∧ x.2.size ≤ maxLen) :
    Calls Try.prog 21 #[.slice a xs.length cap] w fun e w' => e = .returned (.bool (storeOkB xs)) ∧ Below w.heap.size w w' := by
  have HR := Lib.hid hr
  have HO := Lib.hid ho
  clear hr ho
  unfold maxLen at hlen
  go_enter Try.func21, Try.ntmps21
  go_wp2
  go_loopw [3] (fun i wr => ∃ k : Nat, k ≤ xs.length ∧ i = .int .i64 k ∧ goodUp xs k ∧ Below w.heap.size w wr) (fun i _ => xs.length - (intOf i).toNat)
  case atStart => exact ⟨0, Nat.zero_le _, rfl, goodUp_zero _, (by repeat (first | exact Below.refl _ _ | assumption | refine Below.alloc ?_ (by simp <;> omega) _ | refine Below.setCell ?_ (by simp <;> omega) _ | refine Below.drew ?_))⟩
  case round =>
    obtain ⟨k, hk, rfl, hup, hb⟩ := hrel
    by_cases hlt : k < xs.length
    · obtain ⟨x, hx⟩ := some_of_lt hlt
      obtain ⟨b, off, rfl, c0, c1⟩ := readFC HR.out hb hx
      have p1 : (0 : Int) ≤ (k : Int) := by omega
      have p2 : (k : Int) < (xs.length : Int) := by omega
      have HX1 := Lib.hid (HO.out x (List.mem_of_getElem? hx)).1
      have HB := Lib.hid (bad_is hx)
      clear hx
      obtain ⟨x0, x1⟩ := x
      dsimp only at c0 c1 HB HX1
      cases hq : keyOkB x0 with
      | false =>
        have HN := Lib.hid (store_no hlt (HB.out.trans (by simp [hq])))
        have HK := Lib.hid (show ∀ W, Calls Try.prog 34 #[.string x0] W fun e w' => e = .returned (.bool false) ∧ W = w' from fun W => by rw [← hq]; exact specKeyOk_c x0 W HX1.out)
        clear hq hup
        go_wp2_with fail
        go_quiet (first | (go_at_call 34; exact Calls.quiet_of_same ((HK.out _).mono fun e w' h => ⟨h.1, h.2.symm⟩)))
        go_wp2
        go_ret
        exact ⟨by rw [HN.out]; rfl, (by repeat (first | exact Below.refl _ _ | refine Below.drew ?_ | refine below_drewN ?_ _ | refine Below.allocC ?_ _ | refine Below.setCell ?_ (by first | (simp; done) | (simp; omega)) _ | refine Below.chain ?_ (by assumption)))⟩
      | true =>
        cases hi : inB (x1.size : Int) 1 60 with
        | false =>
          have HN := Lib.hid (store_no hlt (HB.out.trans (by simp [hi])))
          have HK := Lib.hid (show ∀ W, Calls Try.prog 34 #[.string x0] W fun e w' => e = .returned (.bool true) ∧ W = w' from fun W => by rw [← hq]; exact specKeyOk_c x0 W HX1.out)
          have HI := Lib.hid (show ∀ W, Calls Try.prog 35 #[.int .i64 (x1.size : Int), .int .i64 1, .int .i64 60] W fun e w' => e = .returned (.bool false) ∧ W = w' from fun W => by rw [← hi]; exact l01In_c _ _ _ W)
          clear hq hi hup
          go_wp2_with fail
          go_quiet (first | (go_at_call 34; exact Calls.quiet_of_same ((HK.out _).mono fun e w' h => ⟨h.1, h.2.symm⟩)) | (go_at_call 35; exact Calls.quiet_of_same ((HI.out _).mono fun e w' h => ⟨h.1, h.2.symm⟩)))
          go_wp2
          go_ret
          exact ⟨by rw [HN.out]; rfl, (by repeat (first | exact Below.refl _ _ | refine Below.drew ?_ | refine below_drewN ?_ _ | refine Below.allocC ?_ _ | refine Below.setCell ?_ (by first | (simp; done) | (simp; omega)) _ | refine Below.chain ?_ (by assumption)))⟩
        | true =>
          rcases Nat.eq_zero_or_pos k with hz | hpos
          · have hs := goodUp_succ hup (HB.out.trans (by rw [hq, hi, hz, fall_zero]; rfl))
            have pz : decide ((0 : Int) < (k : Int)) = false := by simp; omega
            have pz2 : decide (0 < k) = false := by simp; omega
            clear hz
            have HK := Lib.hid (show ∀ W, Calls Try.prog 34 #[.string x0] W fun e w' => e = .returned (.bool true) ∧ W = w' from fun W => by rw [← hq]; exact specKeyOk_c x0 W HX1.out)
            have HI := Lib.hid (show ∀ W, Calls Try.prog 35 #[.int .i64 (x1.size : Int), .int .i64 1, .int .i64 60] W fun e w' => e = .returned (.bool true) ∧ W = w' from fun W => by rw [← hi]; exact l01In_c _ _ _ W)
            clear hq hi
            go_wp2_with fail
            go_quiet (first | (go_at_call 34; exact Calls.quiet_of_same ((HK.out _).mono fun e w' h => ⟨h.1, h.2.symm⟩)) | (go_at_call 35; exact Calls.quiet_of_same ((HI.out _).mono fun e w' h => ⟨h.1, h.2.symm⟩)))
            go_wp2
            go_roundw
            case rel => exact ⟨k + 1, by omega, by go_num, hs, (by repeat (first | exact Below.refl _ _ | refine Below.drew ?_ | refine below_drewN ?_ _ | refine Below.allocC ?_ _ | refine Below.setCell ?_ (by first | (simp; done) | (simp; omega)) _ | refine Below.chain ?_ (by assumption)))⟩
            case measure => simp [intOf]; omega
          · obtain ⟨j, rfl⟩ : ∃ j, k = j + 1 := ⟨k - 1, by omega⟩
            obtain ⟨d, hd⟩ := some_of_lt (xs := xs) (k := j) (by omega)
            obtain ⟨b', off', hab, e0, e1⟩ := readFC HR.out hb hd
            cases hab
            have p3 : (0 : Int) < ((j + 1 : Nat) : Int) := by omega
            have p4 : (j : Int) < (xs.length : Int) := by omega
            have p5 : (0 : Int) ≤ (j : Int) := by omega
            have p6 : ((j + 1 : Nat) : Int) - 1 = (j : Int) := by omega
            have p7 : (j : Int) + 1 - 1 = (j : Int) := by omega
            have pw : IntKind.i64.wrap (j : Int) = (j : Int) := by rw [IntKind.wrap_i64]; omega
            have HF := Lib.hid (fall_succ (c := x0) hd)
            clear hd
            obtain ⟨d0, d1⟩ := d
            dsimp only at e0 e1 HF
            have HL := Lib.hid (leB_spec x0 d0)
            have HK := Lib.hid (show ∀ W, Calls Try.prog 34 #[.string x0] W fun e w' => e = .returned (.bool true) ∧ W = w' from fun W => by rw [← hq]; exact specKeyOk_c x0 W HX1.out)
            have HI := Lib.hid (show ∀ W, Calls Try.prog 35 #[.int .i64 (x1.size : Int), .int .i64 1, .int .i64 60] W fun e w' => e = .returned (.bool true) ∧ W = w' from fun W => by rw [← hi]; exact l01In_c _ _ _ W)
            cases hl : leB x0 d0 with
            | true =>
              have HN := Lib.hid (store_no hlt (HB.out.trans (by rw [HF.out, hl]; simp)))
              have ql : Op.bytesLess d0.toList x0.toList = false := by simpa [hl] using HL.out
              clear hq hi hup hl
              go_wp2_with fail
              go_quiet (first | (go_at_call 34; exact Calls.quiet_of_same ((HK.out _).mono fun e w' h => ⟨h.1, h.2.symm⟩)) | (go_at_call 35; exact Calls.quiet_of_same ((HI.out _).mono fun e w' h => ⟨h.1, h.2.symm⟩)))
              go_wp2
              go_ret
              exact ⟨by rw [HN.out]; rfl, (by repeat (first | exact Below.refl _ _ | refine Below.drew ?_ | refine below_drewN ?_ _ | refine Below.allocC ?_ _ | refine Below.setCell ?_ (by first | (simp; done) | (simp; omega)) _ | refine Below.chain ?_ (by assumption)))⟩
            | false =>
              have hs := goodUp_succ hup (HB.out.trans (by rw [HF.out, hl, hq, hi]; rfl))
              have ql : Op.bytesLess d0.toList x0.toList = true := by simpa [hl] using HL.out
              clear hq hi hl
              go_wp2_with fail
              go_quiet (first | (go_at_call 34; exact Calls.quiet_of_same ((HK.out _).mono fun e w' h => ⟨h.1, h.2.symm⟩)) | (go_at_call 35; exact Calls.quiet_of_same ((HI.out _).mono fun e w' h => ⟨h.1, h.2.symm⟩)))
              go_wp2
              go_roundw
              case rel => exact ⟨j + 1 + 1, by omega, by go_num, hs, (by repeat (first | exact Below.refl _ _ | refine Below.drew ?_ | refine below_drewN ?_ _ | refine Below.allocC ?_ _ | refine Below.setCell ?_ (by first | (simp; done) | (simp; omega)) _ | refine Below.chain ?_ (by assumption)))⟩
              case measure => simp [intOf]; omega
    · have HS := Lib.hid (store_end hup (by omega))
      have p2 : ¬ (k : Int) < (xs.length : Int) := by omega
      go_wp2
      go_ret
      exact ⟨by rw [HS.out]; rfl, hb⟩

end Go.Proofs.Ytedbmmoddemngaa
