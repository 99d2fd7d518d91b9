/- Contracts: Hex of both sides: two figures a byte. Conditions: the bounds that any Go string meets. -/
import Derived.Test.YtillkpjhbakgfaaDoorRun
import Derived.Test.YtillkpjhbakgfaaDoorFind
import Derived.Test.YtillkpjhbakgfaaDoorShelf
import Derived.Laws.IdiomStrings
namespace Go.Proofs.YtillkpjhbakgfaaDoor
open Go.RowKit
attribute [local go_sem ↓] Go.wp_at_zero Go.wp_at_succ
def hexS (s : ByteArray) : ByteArray := ⟨(Lib.Hx.encode s.data.toList).toArray⟩
theorem hexS_size (s : ByteArray) : (hexS s).size = 2 * s.size := by
  show (Lib.Hx.encode s.data.toList).toArray.size = _
  rw [List.size_toArray, Lib.Hx.encode_length]; simp
def hexOk (s : ByteArray) : Bool := decide (s.size ≤ 20000)
def hexV (s : ByteArray) : ByteArray := if s.size ≤ 20000 then hexS s else ByteArray.empty
theorem hex_yes {s : ByteArray} (h : s.size ≤ 20000) : hexOk s = true ∧ hexV s = hexS s := by simp [hexOk, hexV, h]
theorem hex_no {s : ByteArray} (h : 20000 < s.size) : hexOk s = false ∧ hexV s = ByteArray.empty := by
  simp [hexOk, hexV, Nat.not_le.2 h, h]

theorem digit_lo {d : Nat} (h : d < 10) : ((Lib.Hx.digit d).toNat : Int) = 48 + d := by
  match d, h with
  | 0, _ | 1, _ | 2, _ | 3, _ | 4, _ | 5, _ | 6, _ | 7, _ | 8, _ | 9, _ => rfl
theorem digit_hi {d : Nat} (h : 10 ≤ d) (h2 : d < 16) : ((Lib.Hx.digit d).toNat : Int) = 87 + d := by
  have : d = 10 ∨ d = 11 ∨ d = 12 ∨ d = 13 ∨ d = 14 ∨ d = 15 := by omega
  rcases this with rfl | rfl | rfl | rfl | rfl | rfl <;> rfl
theorem infoByte : (Tryd.prog.info? 5).map (fun i => (i.zero, i.size, i.bytes)) = some (some (.int .u8 0), 1, 1) := by kernel_rfl
def encB (b : UInt8) : List Value := [.int .u8 (b.toNat : Int)]
theorem encB_len (b : UInt8) : (encB b).length = 1 := rfl
theorem encode_snoc (l : List UInt8) (b : UInt8) : Lib.Hx.encode (l ++ [b]) = Lib.Hx.encode l ++ [Lib.Hx.digit (b.toNat / 16), Lib.Hx.digit (b.toNat % 16)] := by
  simp [Lib.Hx.encode, List.flatMap_append]

end Go.Proofs.YtillkpjhbakgfaaDoor
