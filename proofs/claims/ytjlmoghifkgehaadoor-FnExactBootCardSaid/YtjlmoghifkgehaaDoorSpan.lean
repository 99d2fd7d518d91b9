/- Contracts: prefixes and spans on both sides: l02Begins, HasPrefix, l03Open, CutSuffix at a star, SpanHas, SpansMeet. Conditions: only the bounds that any Go string meets. -/
import Derived.Test.YtjlmoghifkgehaaDoorProg
import Derived.WalkKit
import Derived.WalkSpells
import Derived.WalkLawsBesides
import Derived.Test.YtjlmoghifkgehaaDoorSame
import Derived.Lib.Hide
namespace Go.Proofs.YtjlmoghifkgehaaDoor
open Go.RowKit
/-- s begins with p. -/
def beginsB (s p : ByteArray) : Bool := decide (p.size ≤ s.size) && ((s.extract 0 p.size).toList == p.toList)
/-- A span ends with a star. -/
def starB (s : ByteArray) : Bool := decide (0 < s.size) && ((s.extract (s.size - 1) s.size).toList == [42])
def openBody (s : ByteArray) : ByteArray := if starB s then s.extract 0 (s.size - 1) else s
def spanHasB (span key : ByteArray) : Bool := if starB span then beginsB key (openBody span) else span.toList == key.toList
def meetB (a b : ByteArray) : Bool :=
  if starB a then (if starB b then beginsB (openBody a) (openBody b) || beginsB (openBody b) (openBody a) else beginsB b (openBody a)) else spanHasB b a
theorem begins_no {s p : ByteArray} (h : s.size < p.size) : beginsB s p = false := by simp [beginsB]; omega
theorem begins_is {s p : ByteArray} (h : p.size ≤ s.size) : beginsB s p = ((s.extract 0 p.size).toList == p.toList) := by simp [beginsB, h]
theorem openBody_size (s : ByteArray) : (openBody s).size ≤ s.size := by
  unfold openBody; split
  · simp [ByteArray.size_extract]
  · exact Nat.le_refl _
theorem openBody_le {s : ByteArray} (h : s.size ≤ maxLen) : (openBody s).size ≤ maxLen := Nat.le_trans (openBody_size s) h

theorem star_empty {s : ByteArray} (h : s.size = 0) : starB s = false := by simp [starB, h]
theorem extract_last (s : ByteArray) (m : Nat) (h : m < s.size) : (s.extract m (m + 1)).toList = [s[m]] := by
  rw [Lib.toList_data, Lib.extract_data]
  have hl : m < s.data.toList.length := by simpa using h
  rw [show m + 1 - m = 1 by omega, List.take_one, List.head?_drop, List.getElem?_eq_getElem hl]
  rfl
theorem star_byte {s : ByteArray} {m : Nat} (h : s.size = m + 1) : starB s = (((s[m]'(by omega)).toNat : Int) == 42) := by
  have e : s.extract (s.size - 1) s.size = s.extract m (m + 1) := by rw [show s.size - 1 = m by omega, h]
  have hp : 0 < s.size := by omega
  unfold starB
  rw [e, extract_last s m (by omega), Bool.eq_iff_iff]
  simp [hp, ← UInt8.toNat_inj]
  omega
theorem openBody_yes {s : ByteArray} (h : starB s = true) : openBody s = s.extract 0 (s.size - 1) := by simp [openBody, h]
theorem openBody_no {s : ByteArray} (h : starB s = false) : openBody s = s := by simp [openBody, h]

theorem spanHas_yes {s k : ByteArray} (h : starB s = true) : spanHasB s k = beginsB k (openBody s) := by simp [spanHasB, h]
theorem spanHas_no {s k : ByteArray} (h : starB s = false) : spanHasB s k = (s.toList == k.toList) := by simp [spanHasB, h]

end Go.Proofs.YtjlmoghifkgehaaDoor
