/- Contracts: the reference's and the program's NameOk both say whether a name is valid ('nameOkB'). Condition: only that the name is a Go string. -/
import Derived.Test.YtpfkiiiihmijdaaProg
import Derived.WalkKit
import Derived.WalkSpells
import Derived.WalkLawsBesides
import Derived.Test.YtpfkiiiihmijdaaWithin
import Derived.Lib.Hide
namespace Go.Proofs.Ytpfkiiiihmijdaa
open Go.RowKit
def nameByte (c : UInt8) : Bool := inB (c.toNat : Int) 97 122 || inB (c.toNat : Int) 48 57 || (c.toNat : Int) == 46 || (c.toNat : Int) == 45
/-- A name is valid: 1 to 12 bytes, each a small letter, a figure, a dot or a hyphen. -/
def nameOkB (s : ByteArray) : Bool := s.data.toList.all nameByte && inB s.size 1 12
namespace NameOk
def bytesUpTo (f : UInt8 → Bool) (s : ByteArray) (k : Nat) : Prop := (s.data.toList.take k).all f = true
theorem bytesUpTo_zero (f : UInt8 → Bool) (s : ByteArray) : bytesUpTo f s 0 := by simp [bytesUpTo]
theorem take_snoc (s : ByteArray) (k : Nat) (h : k < s.size) : s.data.toList.take (k + 1) = s.data.toList.take k ++ [s[k]] := by
  rw [List.take_succ_eq_append_getElem (by simpa using h)]; rfl
theorem bytesUpTo_succ (f : UInt8 → Bool) (s : ByteArray) (k : Nat) (h : k < s.size) (hk : bytesUpTo f s k) (hb : f s[k] = true) : bytesUpTo f s (k + 1) := by
  unfold bytesUpTo at *
  rw [take_snoc s k h, List.all_append, hk]
  simp [hb]
theorem nameOk_no (s : ByteArray) (k : Nat) (h : k < s.size) (hb : nameByte s[k] = false) : nameOkB s = false := by
  have : s.data.toList.all nameByte = false := by
    rw [List.all_eq_false]
    exact ⟨s[k], by rw [show s[k] = s.data.toList[k]'(by simpa using h) from rfl]; exact List.getElem_mem _, by simp [hb]⟩
  simp [nameOkB, this]
theorem nameOk_end (s : ByteArray) (k : Nat) (hk : bytesUpTo nameByte s k) (h : s.size ≤ k) : nameOkB s = inB s.size 1 12 := by
  unfold bytesUpTo at hk
  rw [List.take_of_length_le (by simpa using h)] at hk
  simp [nameOkB, hk]
theorem byte_le (c : UInt8) : (c.toNat : Int) ≤ 255 := by have := c.toNat_lt; omega
theorem nameByte_a {c : UInt8} (h : inB (c.toNat : Int) 97 122 = true) : nameByte c = true := by simp [nameByte, h]
theorem nameByte_b {c : UInt8} (h : inB (c.toNat : Int) 48 57 = true) : nameByte c = true := by simp [nameByte, h]
theorem nameByte_c {c : UInt8} (h : ((c.toNat : Int) == 46) = true) : nameByte c = true := by simp [nameByte, h]
theorem nameByte_d {c : UInt8} (h : ((c.toNat : Int) == 45) = true) : nameByte c = true := by simp [nameByte, h]
theorem nameByte_no {c : UInt8} (h1 : inB (c.toNat : Int) 97 122 = false) (h2 : inB (c.toNat : Int) 48 57 = false) (h3 : ((c.toNat : Int) == 46) = false) (h4 : ((c.toNat : Int) == 45) = false) : nameByte c = false := by
  simp [nameByte, h1, h2, h3, h4]
end NameOk
open NameOk

set_option maxHeartbeats 1600000 in
theorem specNameOk_c (s : ByteArray) (w : World) (hs : s.size ≤ maxLen) :
    Calls Try.prog 15 #[.string s] w fun e w' => e = .returned (.bool (nameOkB s)) ∧ w = w' := by
  unfold maxLen at hs
  go_enter Try.func15, Try.ntmps15
  go_wp2
  go_loop [3] (fun i => ∃ k : Nat, k ≤ s.size ∧ i = .int .i64 k ∧ bytesUpTo nameByte s k) (fun i => s.size - (intOf i).toNat)
  case atStart => exact ⟨0, Nat.zero_le _, rfl, bytesUpTo_zero _ s⟩
  case round =>
    obtain ⟨k, hk, rfl, hup⟩ := hrel
    by_cases hlt : k < s.size
    · have hb255 := byte_le s[k]
      cases h1 : inB (s[k].toNat : Int) 97 122
      · cases h2 : inB (s[k].toNat : Int) 48 57
        · cases h3 : ((s[k].toNat : Int) == 46)
          · cases h4 : ((s[k].toNat : Int) == 45)
            · have n3 : ((s[k].toNat : Int) != 46) = true := by rw [bne, h3]; rfl
              have n4 : ((s[k].toNat : Int) != 45) = true := by rw [bne, h4]; rfl
              have hno := Lib.hid (nameOk_no s k hlt (nameByte_no h1 h2 h3 h4))
              go_wp2_with (first | (go_at_call 57; refine (l01In_c _ _ _ _).mono ?_; rintro e w' ⟨rfl, rfl⟩) | go_in)
              go_ret
              exact ⟨by rw [hno.out]; rfl, rfl⟩
            · have n3 : ((s[k].toNat : Int) != 46) = true := by rw [bne, h3]; rfl
              have n4 : ((s[k].toNat : Int) != 45) = false := by rw [bne, h4]; rfl
              have hsucc := bytesUpTo_succ nameByte s k hlt hup (nameByte_d h4)
              go_wp2_with (first | (go_at_call 57; refine (l01In_c _ _ _ _).mono ?_; rintro e w' ⟨rfl, rfl⟩) | go_in)
              go_round
              case rel => exact ⟨k + 1, by omega, by go_num, hsucc⟩
              case measure => simp [intOf]; omega
          · have n3 : ((s[k].toNat : Int) != 46) = false := by rw [bne, h3]; rfl
            have hsucc := bytesUpTo_succ nameByte s k hlt hup (nameByte_c h3)
            go_wp2_with (first | (go_at_call 57; refine (l01In_c _ _ _ _).mono ?_; rintro e w' ⟨rfl, rfl⟩) | go_in)
            go_round
            case rel => exact ⟨k + 1, by omega, by go_num, hsucc⟩
            case measure => simp [intOf]; omega
        · have hsucc := bytesUpTo_succ nameByte s k hlt hup (nameByte_b h2)
          go_wp2_with (first | (go_at_call 57; refine (l01In_c _ _ _ _).mono ?_; rintro e w' ⟨rfl, rfl⟩) | go_in)
          go_round
          case rel => exact ⟨k + 1, by omega, by go_num, hsucc⟩
          case measure => simp [intOf]; omega
      · have hsucc := bytesUpTo_succ nameByte s k hlt hup (nameByte_a h1)
        go_wp2_with (first | (go_at_call 57; refine (l01In_c _ _ _ _).mono ?_; rintro e w' ⟨rfl, rfl⟩) | go_in)
        go_round
        case rel => exact ⟨k + 1, by omega, by go_num, hsucc⟩
        case measure => simp [intOf]; omega
    · have hend := Lib.hid (nameOk_end s k hup (by omega))
      go_wp2_with (first | (go_at_call 57; refine (l01In_c _ _ _ _).mono ?_; rintro e w' ⟨rfl, rfl⟩) | go_in)
      go_ret
      exact ⟨by rw [hend.out]; rfl, rfl⟩

set_option maxHeartbeats 1600000 in
theorem implNameOk_c (s : ByteArray) (w : World) (hs : s.size ≤ maxLen) :
    Calls Try.prog 16 #[.string s] w fun e w' => e = .returned (.bool (nameOkB s)) ∧ w = w' := by
  unfold maxLen at hs
  go_enter Try.func16, Try.ntmps16
  go_wp2
  go_loop [7] (fun i => ∃ k : Nat, k ≤ s.size ∧ i = .int .i64 k ∧ bytesUpTo nameByte s k) (fun i => s.size - (intOf i).toNat)
  case atStart => exact ⟨0, Nat.zero_le _, rfl, bytesUpTo_zero _ s⟩
  case round =>
    obtain ⟨k, hk, rfl, hup⟩ := hrel
    by_cases hlt : k < s.size
    · have hb255 := byte_le s[k]
      rcases (show (97 ≤ (s[k].toNat : Int) ∧ (s[k].toNat : Int) ≤ 122) ∨ (48 ≤ (s[k].toNat : Int) ∧ (s[k].toNat : Int) ≤ 57) ∨ 122 < (s[k].toNat : Int) ∨ (57 < (s[k].toNat : Int) ∧ (s[k].toNat : Int) < 97) ∨ (s[k].toNat : Int) < 48 by omega) with ⟨h1, h2⟩ | ⟨h1, h2⟩ | h1 | ⟨h1, h2⟩ | h1
      · have hsucc := bytesUpTo_succ nameByte s k hlt hup (nameByte_a (inB_yes h1 h2))
        go_wp2_with (first | (go_at_call 58; refine (within_c _ _ _ _).mono ?_; rintro e w' ⟨rfl, rfl⟩) | go_in)
        go_round
        case rel => exact ⟨k + 1, by omega, by go_num, hsucc⟩
        case measure => simp [intOf]; omega
      · have hsucc := bytesUpTo_succ nameByte s k hlt hup (nameByte_b (inB_yes h1 h2))
        go_wp2_with (first | (go_at_call 58; refine (within_c _ _ _ _).mono ?_; rintro e w' ⟨rfl, rfl⟩) | go_in)
        go_round
        case rel => exact ⟨k + 1, by omega, by go_num, hsucc⟩
        case measure => simp [intOf]; omega
      · have n3 : ((s[k].toNat : Int) != 46) = true := by simp; omega
        have n4 : ((s[k].toNat : Int) != 45) = true := by simp; omega
        have d1 : decide ((s[k].toNat : Int) ≤ 122) = false := by simp; omega
        have d2 : decide ((s[k].toNat : Int) ≤ 57) = false := by simp; omega
        have hno := Lib.hid (nameOk_no s k hlt (nameByte_no (inB_hi h1) (inB_hi (by omega)) (by simp; omega) (by simp; omega)))
        go_wp2_with (first | (go_at_call 58; refine (within_c _ _ _ _).mono ?_; rintro e w' ⟨rfl, rfl⟩) | go_in)
        go_ret
        exact ⟨by rw [hno.out]; rfl, rfl⟩
      · have n3 : ((s[k].toNat : Int) != 46) = true := by simp; omega
        have n4 : ((s[k].toNat : Int) != 45) = true := by simp; omega
        have d1 : decide (97 ≤ (s[k].toNat : Int)) = false := by simp; omega
        have d2 : decide ((s[k].toNat : Int) ≤ 57) = false := by simp; omega
        have hno := Lib.hid (nameOk_no s k hlt (nameByte_no (inB_lo h2) (inB_hi (by omega)) (by simp; omega) (by simp; omega)))
        go_wp2_with (first | (go_at_call 58; refine (within_c _ _ _ _).mono ?_; rintro e w' ⟨rfl, rfl⟩) | go_in)
        go_ret
        exact ⟨by rw [hno.out]; rfl, rfl⟩
      · cases h3 : ((s[k].toNat : Int) == 46)
        · cases h4 : ((s[k].toNat : Int) == 45)
          · have n3 : ((s[k].toNat : Int) != 46) = true := by rw [bne, h3]; rfl
            have n4 : ((s[k].toNat : Int) != 45) = true := by rw [bne, h4]; rfl
            have hno := Lib.hid (nameOk_no s k hlt (nameByte_no (inB_lo (by omega)) (inB_lo h1) h3 h4))
            go_wp2_with (first | (go_at_call 58; refine (within_c _ _ _ _).mono ?_; rintro e w' ⟨rfl, rfl⟩) | go_in)
            go_ret
            exact ⟨by rw [hno.out]; rfl, rfl⟩
          · have n3 : ((s[k].toNat : Int) != 46) = true := by rw [bne, h3]; rfl
            have n4 : ((s[k].toNat : Int) != 45) = false := by rw [bne, h4]; rfl
            have hsucc := bytesUpTo_succ nameByte s k hlt hup (nameByte_d h4)
            go_wp2_with (first | (go_at_call 58; refine (within_c _ _ _ _).mono ?_; rintro e w' ⟨rfl, rfl⟩) | go_in)
            go_round
            case rel => exact ⟨k + 1, by omega, by go_num, hsucc⟩
            case measure => simp [intOf]; omega
        · have n3 : ((s[k].toNat : Int) != 46) = false := by rw [bne, h3]; rfl
          have hsucc := bytesUpTo_succ nameByte s k hlt hup (nameByte_c h3)
          go_wp2_with (first | (go_at_call 58; refine (within_c _ _ _ _).mono ?_; rintro e w' ⟨rfl, rfl⟩) | go_in)
          go_round
          case rel => exact ⟨k + 1, by omega, by go_num, hsucc⟩
          case measure => simp [intOf]; omega
    · have hend := Lib.hid (nameOk_end s k hup (by omega))
      go_wp2_with (first | (go_at_call 58; refine (within_c _ _ _ _).mono ?_; rintro e w' ⟨rfl, rfl⟩) | go_in)
      go_ret
      exact ⟨by rw [hend.out]; rfl, rfl⟩

end Go.Proofs.Ytpfkiiiihmijdaa
