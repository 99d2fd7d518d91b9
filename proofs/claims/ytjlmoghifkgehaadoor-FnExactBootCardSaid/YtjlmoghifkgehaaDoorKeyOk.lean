/- Contracts: the reference's and the program's KeyOk both say whether a key is valid ('keyOkB'). Condition: only that the key is a Go string. -/
import Derived.Test.YtjlmoghifkgehaaDoorProg
import Derived.WalkKit
import Derived.WalkSpells
import Derived.WalkLawsBesides
import Derived.Test.YtjlmoghifkgehaaDoorWithin
import Derived.Lib.Hide
namespace Go.Proofs.YtjlmoghifkgehaaDoor
open Go.RowKit

def keyByte (c : UInt8) : Bool := decide (33 ≤ (c.toNat : Int)) && decide ((c.toNat : Int) ≤ 126) && !((c.toNat : Int) == 42)
/-- A key is valid: 1 to 40 bytes, each in 33 .. 126 and none a star. -/
def keyOkB (s : ByteArray) : Bool := s.data.toList.all keyByte && inB s.size 1 40
def keysUpTo (s : ByteArray) (k : Nat) : Prop := (s.data.toList.take k).all keyByte = true
theorem keysUpTo_zero (s : ByteArray) : keysUpTo s 0 := by simp [keysUpTo]
theorem take_snoc (s : ByteArray) (k : Nat) (h : k < s.size) : s.data.toList.take (k + 1) = s.data.toList.take k ++ [s[k]] := by
  rw [List.take_succ_eq_append_getElem (by simpa using h)]; rfl
theorem keysUpTo_succ (s : ByteArray) (k : Nat) (h : k < s.size) (hk : keysUpTo s k) (hb : keyByte s[k] = true) : keysUpTo s (k + 1) := by
  unfold keysUpTo at *
  rw [take_snoc s k h, List.all_append, hk]
  simp [hb]
theorem keyOk_no (s : ByteArray) (k : Nat) (h : k < s.size) (hb : keyByte s[k] = false) : keyOkB s = false := by
  have : s.data.toList.all keyByte = false := by
    rw [List.all_eq_false]
    exact ⟨s[k], by rw [show s[k] = s.data.toList[k]'(by simpa using h) from rfl]; exact List.getElem_mem _, by simp [hb]⟩
  simp [keyOkB, this]
theorem keyOk_end (s : ByteArray) (k : Nat) (hk : keysUpTo s k) (h : s.size ≤ k) : keyOkB s = inB s.size 1 40 := by
  unfold keysUpTo at hk
  rw [List.take_of_length_le (by simpa using h)] at hk
  simp [keyOkB, hk]
theorem byte_le (c : UInt8) : (c.toNat : Int) ≤ 255 := by have := c.toNat_lt; omega
theorem keyByte_of {c : UInt8} (h1 : (33 : Int) ≤ c.toNat) (h2 : (c.toNat : Int) ≤ 126) (h3 : ((c.toNat : Int) == 42) = false) : keyByte c = true := by simp [keyByte, h1, h2, h3]
theorem keyByte_in {c : UInt8} (h1 : inB (c.toNat : Int) 33 126 = true) (h3 : ((c.toNat : Int) == 42) = false) : keyByte c = true := keyByte_of (inB_iff.1 h1).1 (inB_iff.1 h1).2 h3
theorem keyByte_out {c : UInt8} (h1 : inB (c.toNat : Int) 33 126 = false) : keyByte c = false := by
  rcases inB_false h1 with h | h <;> simp [keyByte] <;> omega
theorem keyByte_lo {c : UInt8} (h1 : (c.toNat : Int) < 33) : keyByte c = false := by simp [keyByte]; omega
theorem keyByte_hi {c : UInt8} (h1 : 126 < (c.toNat : Int)) : keyByte c = false := by simp [keyByte]; omega
theorem keyByte_star {c : UInt8} (h1 : ((c.toNat : Int) == 42) = true) : keyByte c = false := by simp [keyByte, h1]

set_option maxHeartbeats 800000 in
theorem specKeyOk_c (s : ByteArray) (w : World) (hs : s.size ≤ maxLen) :
    Calls Tryd.prog 45 #[.string s] w fun e w' => e = .returned (.bool (keyOkB s)) ∧ w = w' := by
  unfold maxLen at hs
  go_enter Tryd.func45, Tryd.ntmps45
  go_wp2
  go_loop [3] (fun i => ∃ k : Nat, k ≤ s.size ∧ i = .int .i64 k ∧ keysUpTo s k) (fun i => s.size - (intOf i).toNat)
  case atStart => exact ⟨0, Nat.zero_le _, rfl, keysUpTo_zero s⟩
  case round =>
    obtain ⟨k, hk, rfl, hup⟩ := hrel
    by_cases hlt : k < s.size
    · have hb255 := byte_le s[k]
      by_cases hin : inB (s[k].toNat : Int) 33 126 = true
      · by_cases h3 : ((s[k].toNat : Int) == 42) = true
        · have hno := Lib.hid (keyOk_no s k hlt (keyByte_star h3))
          go_wp2_with (first | (go_at_call 26; refine (l01In_c _ _ _ _).mono ?_; rintro e w' ⟨rfl, rfl⟩) | go_in)
          go_ret
          exact ⟨by rw [hno.out]; rfl, rfl⟩
        · have h3' : ((s[k].toNat : Int) == 42) = false := by simpa using h3
          have hsucc := keysUpTo_succ s k hlt hup (keyByte_in hin h3')
          clear h3
          go_wp2_with (first | (go_at_call 26; refine (l01In_c _ _ _ _).mono ?_; rintro e w' ⟨rfl, rfl⟩) | go_in)
          go_round
          case rel => exact ⟨k + 1, by omega, by go_num, hsucc⟩
          case measure => simp [intOf]; omega
      · have hin' : inB (s[k].toNat : Int) 33 126 = false := by simpa using hin
        clear hin
        have hno := Lib.hid (keyOk_no s k hlt (keyByte_out hin'))
        go_wp2_with (first | (go_at_call 26; refine (l01In_c _ _ _ _).mono ?_; rintro e w' ⟨rfl, rfl⟩) | go_in)
        go_ret
        exact ⟨by rw [hno.out]; rfl, rfl⟩
    · have hend := Lib.hid (keyOk_end s k hup (by omega))
      go_wp2_with (first | (go_at_call 26; refine (l01In_c _ _ _ _).mono ?_; rintro e w' ⟨rfl, rfl⟩) | go_in)
      go_ret
      exact ⟨by rw [hend.out]; rfl, rfl⟩

set_option maxHeartbeats 800000 in
theorem implKeyOk_c (s : ByteArray) (w : World) (hs : s.size ≤ maxLen) :
    Calls Tryd.prog 52 #[.string s] w fun e w' => e = .returned (.bool (keyOkB s)) ∧ w = w' := by
  unfold maxLen at hs
  go_enter Tryd.func52, Tryd.ntmps52
  go_wp2
  go_loop [6] (fun i => ∃ k : Nat, k ≤ s.size ∧ i = .int .i64 k ∧ keysUpTo s k) (fun i => s.size - (intOf i).toNat)
  case atStart => exact ⟨0, Nat.zero_le _, rfl, keysUpTo_zero s⟩
  case round =>
    obtain ⟨k, hk, rfl, hup⟩ := hrel
    by_cases hlt : k < s.size
    · by_cases h1 : (s[k].toNat : Int) < 33
      · have hno := Lib.hid (keyOk_no s k hlt (keyByte_lo h1))
        go_wp2_with (first | (go_at_call 30; refine (within_c _ _ _ _).mono ?_; rintro e w' ⟨rfl, rfl⟩) | go_in)
        go_ret
        exact ⟨by rw [hno.out]; rfl, rfl⟩
      · by_cases h2 : 126 < (s[k].toNat : Int)
        · have hno := Lib.hid (keyOk_no s k hlt (keyByte_hi h2))
          go_wp2_with (first | (go_at_call 30; refine (within_c _ _ _ _).mono ?_; rintro e w' ⟨rfl, rfl⟩) | go_in)
          go_ret
          exact ⟨by rw [hno.out]; rfl, rfl⟩
        · by_cases h3 : ((s[k].toNat : Int) == 42) = true
          · have hno := Lib.hid (keyOk_no s k hlt (keyByte_star h3))
            go_wp2_with (first | (go_at_call 30; refine (within_c _ _ _ _).mono ?_; rintro e w' ⟨rfl, rfl⟩) | go_in)
            go_ret
            exact ⟨by rw [hno.out]; rfl, rfl⟩
          · have h3' : ((s[k].toNat : Int) == 42) = false := by simpa using h3
            have hsucc := keysUpTo_succ s k hlt hup (keyByte_of (by omega) (by omega) h3')
            clear h3
            go_wp2_with (first | (go_at_call 30; refine (within_c _ _ _ _).mono ?_; rintro e w' ⟨rfl, rfl⟩) | go_in)
            go_round
            case rel => exact ⟨k + 1, by omega, by go_num, hsucc⟩
            case measure => simp [intOf]; omega
    · have hend := Lib.hid (keyOk_end s k hup (by omega))
      go_wp2_with (first | (go_at_call 30; refine (within_c _ _ _ _).mono ?_; rintro e w' ⟨rfl, rfl⟩) | go_in)
      go_ret
      exact ⟨by rw [hend.out]; rfl, rfl⟩

end Go.Proofs.YtjlmoghifkgehaaDoor
