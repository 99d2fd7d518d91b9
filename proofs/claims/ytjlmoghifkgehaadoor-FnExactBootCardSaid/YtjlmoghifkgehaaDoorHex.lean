/- Contracts: Hex of both sides: two figures a byte. Conditions: the bounds that any Go string meets. -/
import Derived.Test.YtjlmoghifkgehaaDoorRun
import Derived.Test.YtjlmoghifkgehaaDoorFind
import Derived.Test.YtjlmoghifkgehaaDoorShelf
import Derived.Laws.IdiomStrings
import Derived.Shelf.Hex.Encode
import Derived.Shelf.Hex.More
namespace Go.Proofs.YtjlmoghifkgehaaDoor
open Go.RowKit
attribute [local go_sem ↓] Go.wp_at_zero Go.wp_at_succ
def hexS (s : ByteArray) : ByteArray := ⟨(Lib.Hx.encode s.data.toList).toArray⟩
theorem hexS_size (s : ByteArray) : (hexS s).size = 2 * s.size := by
  show (Lib.Hx.encode s.data.toList).toArray.size = _
  rw [List.size_toArray, Lib.Hx.encode_length]; simp
def hexOk (s : ByteArray) : Bool := decide (s.size ≤ 20000)
def hexV (s : ByteArray) : ByteArray := if s.size ≤ 20000 then hexS s else ByteArray.empty
theorem hex_yes {s : ByteArray} (h : s.size ≤ 20000) : hexOk s = true ∧ hexV s = hexS s := by simp [hexOk, hexV, h]
theorem hex_no {s : ByteArray} (h : 20000 < s.size) : hexOk s = false ∧ hexV s = ByteArray.empty := by
  simp [hexOk, hexV, Nat.not_le.2 h]

theorem digit_lo {d : Nat} (h : d < 10) : ((Lib.Hx.digit d).toNat : Int) = 48 + d := by
  match d, h with
  | 0, _ | 1, _ | 2, _ | 3, _ | 4, _ | 5, _ | 6, _ | 7, _ | 8, _ | 9, _ => rfl
theorem digit_hi {d : Nat} (h : 10 ≤ d) (h2 : d < 16) : ((Lib.Hx.digit d).toNat : Int) = 87 + d := by
  have : d = 10 ∨ d = 11 ∨ d = 12 ∨ d = 13 ∨ d = 14 ∨ d = 15 := by omega
  rcases this with rfl | rfl | rfl | rfl | rfl | rfl <;> rfl
theorem figure_c (d : Nat) (w : World) (h : d < 16) : Calls Tryd.prog 38 #[.int .i64 (d : Int)] w fun e w' => e = .returned (.int .u8 ((Lib.Hx.digit d).toNat : Int)) ∧ w = w' := by
  have p0 : (0 : Int) ≤ (d : Int) := by omega
  have p1 : (d : Int) < 16 := by omega
  by_cases hl : d < 10
  · have HD := Lib.hid (digit_lo hl)
    have pl : (d : Int) < 10 := by omega
    go_enter Tryd.func38, Tryd.ntmps38
    go_wp2
    go_ret
    exact ⟨by rw [HD.out]; rfl, rfl⟩
  · have HD := Lib.hid (digit_hi (Nat.not_lt.1 hl) h)
    have pl : ¬ (d : Int) < 10 := by omega
    clear hl
    go_enter Tryd.func38, Tryd.ntmps38
    go_wp2
    go_ret
    exact ⟨by rw [HD.out]; simp; omega, rfl⟩
theorem infoByte : (Tryd.prog.info? 5).map (fun i => (i.zero, i.size, i.bytes)) = some (some (.int .u8 0), 1, 1) := by kernel_rfl
def encB (b : UInt8) : List Value := [.int .u8 (b.toNat : Int)]
theorem encB_len (b : UInt8) : (encB b).length = 1 := rfl
theorem encode_snoc (l : List UInt8) (b : UInt8) : Lib.Hx.encode (l ++ [b]) = Lib.Hx.encode l ++ [Lib.Hx.digit (b.toNat / 16), Lib.Hx.digit (b.toNat % 16)] := by
  simp [Lib.Hx.encode, List.flatMap_append]

set_option maxRecDepth 100000 in
/-- A row of bytes turned to a string. -/
theorem convB (wr : World) (base _T : Nat) (v : Value) (E : List UInt8) (n : Nat) (hn : n = E.length) (HW : wr.ownsRow base 5 1 v n (E.flatMap encB)) :
    (convert 48 9 v).run Tryd.prog wr = .ok (.string ⟨E.toArray⟩) wr := by
  rcases HW.2 with ⟨rfl, h0⟩ | ⟨g, cap, cur, rfl, _, hg, _⟩
  · have : E = [] := List.eq_nil_of_length_eq_zero (by omega)
    subst this
    rfl
  · subst hn
    refine run_convert_bytes_back wr _ _ 5 ⟨g, 0, none⟩ cap E Tryd.underlying48 Tryd.underlying5 Tryd.underlying9 (fun j hj => ?_)
    have hx := getElem_flatMap encB_len E j 0 E[j] (List.getElem?_eq_getElem hj) (by decide)
    rw [Nat.mul_one, Nat.add_zero] at hx
    exact HW.cells (g := g) rfl j _ hx
end Go.Proofs.YtjlmoghifkgehaaDoor
