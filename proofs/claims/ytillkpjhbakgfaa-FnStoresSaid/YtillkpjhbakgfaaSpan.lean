/- Contracts: prefixes and spans on both sides: l02Begins, HasPrefix, l03Open, CutSuffix at a star, SpanHas, SpansMeet. Conditions: only the bounds that any Go string meets. -/
import Derived.Test.YtillkpjhbakgfaaProg
import Derived.WalkKit
import Derived.WalkSpells
import Derived.WalkLawsBesides
import Derived.Test.YtillkpjhbakgfaaSame
import Derived.Lib.Hide
namespace Go.Proofs.Ytillkpjhbakgfaa
open Go.RowKit
/-- s begins with p. -/
def beginsB (s p : ByteArray) : Bool := decide (p.size ≤ s.size) && ((s.extract 0 p.size).toList == p.toList)
/-- A span ends with a star. -/
def starB (s : ByteArray) : Bool := decide (0 < s.size) && ((s.extract (s.size - 1) s.size).toList == [42])
def openBody (s : ByteArray) : ByteArray := if starB s then s.extract 0 (s.size - 1) else s
def spanHasB (span key : ByteArray) : Bool := if starB span then beginsB key (openBody span) else span.toList == key.toList
def meetB (a b : ByteArray) : Bool :=
  if starB a then (if starB b then beginsB (openBody a) (openBody b) || beginsB (openBody b) (openBody a) else beginsB b (openBody a)) else spanHasB b a
theorem begins_no {s p : ByteArray} (h : s.size < p.size) : beginsB s p = false := by simp [beginsB]; omega
theorem begins_is {s p : ByteArray} (h : p.size ≤ s.size) : beginsB s p = ((s.extract 0 p.size).toList == p.toList) := by simp [beginsB, h]
theorem openBody_size (s : ByteArray) : (openBody s).size ≤ s.size := by
  unfold openBody; split
  · simp [ByteArray.size_extract]
  · exact Nat.le_refl _
theorem openBody_le {s : ByteArray} (h : s.size ≤ maxLen) : (openBody s).size ≤ maxLen := Nat.le_trans (openBody_size s) h

set_option maxHeartbeats 800000 in
theorem begins_c (s p : ByteArray) (w : World) (hs : s.size ≤ maxLen) (hp : p.size ≤ maxLen) :
    Calls Try.prog 59 #[.string s, .string p] w fun e w' => e = .returned (.bool (beginsB s p)) ∧ w = w' := by
  unfold maxLen at hs hp
  by_cases h : p.size ≤ s.size
  · have HB := Lib.hid (begins_is h)
    have h' : (p.size : Int) ≤ (s.size : Int) := by omega
    generalize hx : ((s.extract 0 p.size).toList == p.toList) = r at *
    cases r
    · go_enter Try.func59, Try.ntmps59
      go_wp2
      go_ret
      exact ⟨by rw [HB.out]; rfl, rfl⟩
    · go_enter Try.func59, Try.ntmps59
      go_wp2
      go_ret
      exact ⟨by rw [HB.out]; rfl, rfl⟩
  · have HB := Lib.hid (begins_no (s := s) (p := p) (by omega))
    have h' : ¬ (p.size : Int) ≤ (s.size : Int) := by omega
    go_enter Try.func59, Try.ntmps59
    go_wp2
    go_ret
    exact ⟨by rw [HB.out]; rfl, rfl⟩

set_option maxHeartbeats 800000 in
theorem hasPrefix_c (s p : ByteArray) (w : World) (hs : s.size ≤ maxLen) (hp : p.size ≤ maxLen) :
    Calls Try.prog 56 #[.string s, .string p] w fun e w' => e = .returned (.bool (beginsB s p)) ∧ w = w' := by
  unfold maxLen at hs hp
  by_cases h : p.size ≤ s.size
  · have HB := Lib.hid (begins_is h)
    have h' : (p.size : Int) ≤ (s.size : Int) := by omega
    generalize hx : ((s.extract 0 p.size).toList == p.toList) = r at *
    cases r
    · go_enter Try.func56, Try.ntmps56
      go_wp2
      go_ret
      exact ⟨by rw [HB.out]; rfl, rfl⟩
    · go_enter Try.func56, Try.ntmps56
      go_wp2
      go_ret
      exact ⟨by rw [HB.out]; rfl, rfl⟩
  · have HB := Lib.hid (begins_no (s := s) (p := p) (by omega))
    have h' : ¬ (p.size : Int) ≤ (s.size : Int) := by omega
    go_enter Try.func56, Try.ntmps56
    go_wp2
    go_ret
    exact ⟨by rw [HB.out]; rfl, rfl⟩

theorem star_empty {s : ByteArray} (h : s.size = 0) : starB s = false := by simp [starB, h]
theorem extract_last (s : ByteArray) (m : Nat) (h : m < s.size) : (s.extract m (m + 1)).toList = [s[m]] := by
  rw [Lib.toList_data, Lib.extract_data]
  have hl : m < s.data.toList.length := by simpa using h
  rw [show m + 1 - m = 1 by omega, List.take_one, List.head?_drop, List.getElem?_eq_getElem hl]
  rfl
theorem star_byte {s : ByteArray} {m : Nat} (h : s.size = m + 1) : starB s = (((s[m]'(by omega)).toNat : Int) == 42) := by
  have e : s.extract (s.size - 1) s.size = s.extract m (m + 1) := by rw [show s.size - 1 = m by omega, h]
  have hp : 0 < s.size := by omega
  unfold starB
  rw [e, extract_last s m (by omega), Bool.eq_iff_iff]
  simp [hp, ← UInt8.toNat_inj]
  omega
theorem openBody_yes {s : ByteArray} (h : starB s = true) : openBody s = s.extract 0 (s.size - 1) := by simp [openBody, h]
theorem openBody_no {s : ByteArray} (h : starB s = false) : openBody s = s := by simp [openBody, h]

set_option maxHeartbeats 800000 in
theorem l03Open_c (s : ByteArray) (w : World) (hs : s.size ≤ maxLen) :
    Calls Try.prog 58 #[.string s] w fun e w' => e = .returned (.tuple #[.string (openBody s), .bool (starB s)]) ∧ w = w' := by
  unfold maxLen at hs
  by_cases h0 : s.size = 0
  · have HS := Lib.hid (star_empty h0)
    have HO := Lib.hid (openBody_no (star_empty h0))
    go_enter Try.func58, Try.ntmps58
    go_wp2
    go_ret2
    exact ⟨by rw [HS.out, HO.out]; rfl, rfl⟩
  · obtain ⟨m, hm⟩ : ∃ m, s.size = m + 1 := ⟨s.size - 1, by omega⟩
    have HS := Lib.hid (star_byte hm)
    have hp : (0 : Int) < (s.size : Int) := by omega
    clear h0
    cases hb : (((s[m]'(by omega)).toNat : Int) == 42)
    · have HO := Lib.hid (openBody_no (HS.out.trans hb))
      go_enter Try.func58, Try.ntmps58
      go_wp2
      go_ret2
      exact ⟨by rw [HS.out, HO.out, hb]; rfl, rfl⟩
    · have HO := Lib.hid (show openBody s = s.extract 0 m by rw [openBody_yes (HS.out.trans hb), show s.size - 1 = m by omega])
      go_enter Try.func58, Try.ntmps58
      go_wp2
      go_ret2
      exact ⟨by rw [HS.out, HO.out, hb]; rfl, rfl⟩

set_option maxHeartbeats 800000 in
theorem cutStar_c (s : ByteArray) (w : World) (hs : s.size ≤ maxLen) :
    Calls Try.prog 55 #[.string s, .string ⟨#[42]⟩] w fun e w' => e = .returned (.tuple #[.string (openBody s), .bool (starB s)]) ∧ w = w' := by
  unfold maxLen at hs
  by_cases h0 : s.size = 0
  · have HS := Lib.hid (star_empty h0)
    have HO := Lib.hid (openBody_no (star_empty h0))
    have hz : (s.size : Int) < 1 := by omega
    have hd : decide ((1 : Int) ≤ (s.size : Int)) = false := by simp; omega
    clear h0
    go_enter Try.func55, Try.ntmps55
    go_wp2
    go_ret2
    exact ⟨by rw [HS.out, HO.out]; rfl, rfl⟩
  · have hp : (1 : Int) ≤ (s.size : Int) := by omega
    have hp' : 1 ≤ s.size := by omega
    cases hx : ((s.extract (s.size - 1) s.size).toList == [42])
    · have hst : starB s = false := by unfold starB; rw [hx]; simp
      have HS := Lib.hid hst
      have HO := Lib.hid (openBody_no hst)
      clear h0 hst
      go_enter Try.func55, Try.ntmps55
      go_wp2
      go_ret2
      exact ⟨by rw [HS.out, HO.out]; rfl, rfl⟩
    · have hst : starB s = true := by unfold starB; rw [hx]; simp; omega
      have HS := Lib.hid hst
      have HO := Lib.hid (openBody_yes hst)
      clear h0 hst
      go_enter Try.func55, Try.ntmps55
      go_wp2
      go_ret2
      exact ⟨by rw [HS.out, HO.out]; rfl, rfl⟩

theorem spanHas_yes {s k : ByteArray} (h : starB s = true) : spanHasB s k = beginsB k (openBody s) := by simp [spanHasB, h]
theorem spanHas_no {s k : ByteArray} (h : starB s = false) : spanHasB s k = (s.toList == k.toList) := by simp [spanHasB, h]

set_option maxHeartbeats 800000 in
theorem specSpanHas_c (s k : ByteArray) (w : World) (hs : s.size ≤ maxLen) (hk : k.size ≤ maxLen) :
    Calls Try.prog 24 #[.string s, .string k] w fun e w' => e = .returned (.bool (spanHasB s k)) ∧ w = w' := by
  have hol := Lib.hid (openBody_le hs)
  have hs' := Lib.hid hs
  have hk' := Lib.hid hk
  clear hs hk
  cases hst : starB s
  · have HB := Lib.hid (spanHas_no (k := k) hst)
    go_enter Try.func24, Try.ntmps24
    go_wp2_with fail
    refine (l03Open_c s _ hs'.out).mono ?_
    rintro e w' ⟨rfl, rfl⟩
    generalize hx : (s.toList == k.toList) = r at *
    go_wp2
    go_ret
    exact ⟨by rw [HB.out]; simp [hx], rfl⟩
  · have HB := Lib.hid (spanHas_yes (k := k) hst)
    go_enter Try.func24, Try.ntmps24
    go_wp2_with fail
    refine (l03Open_c s _ hs'.out).mono ?_
    rintro e w' ⟨rfl, rfl⟩
    go_wp2_with fail
    refine (begins_c k (openBody s) _ hk'.out hol.out).mono ?_
    rintro e w' ⟨rfl, rfl⟩
    go_wp2
    go_ret
    exact ⟨by rw [HB.out]; rfl, rfl⟩

set_option maxHeartbeats 800000 in
theorem implSpanHas_c (s k : ByteArray) (w : World) (hs : s.size ≤ maxLen) (hk : k.size ≤ maxLen) :
    Calls Try.prog 23 #[.string s, .string k] w fun e w' => e = .returned (.bool (spanHasB s k)) ∧ w = w' := by
  have hol := Lib.hid (openBody_le hs)
  have hs' := Lib.hid hs
  have hk' := Lib.hid hk
  clear hs hk
  cases hst : starB s
  · have HB := Lib.hid (spanHas_no (k := k) hst)
    go_enter Try.func23, Try.ntmps23
    go_wp2_with fail
    refine (cutStar_c s _ hs'.out).mono ?_
    rintro e w' ⟨rfl, rfl⟩
    generalize hx : (s.toList == k.toList) = r at *
    go_wp2
    go_ret
    exact ⟨by rw [HB.out]; simp [hx], rfl⟩
  · have HB := Lib.hid (spanHas_yes (k := k) hst)
    go_enter Try.func23, Try.ntmps23
    go_wp2_with fail
    refine (cutStar_c s _ hs'.out).mono ?_
    rintro e w' ⟨rfl, rfl⟩
    go_wp2_with fail
    refine (hasPrefix_c k (openBody s) _ hk'.out hol.out).mono ?_
    rintro e w' ⟨rfl, rfl⟩
    go_wp2
    go_ret
    exact ⟨by rw [HB.out]; rfl, rfl⟩
end Go.Proofs.Ytillkpjhbakgfaa
