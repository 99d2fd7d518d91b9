/- Contracts: the reference's and the program's CallName both give the name of a kind ('callNameOf'); the program's reads its table of names. Conditions: the table holds the names. -/
import Derived.Test.YtedbmmoddemngaaDoorProg
import Derived.WalkKit
import Derived.WalkSpells
import Derived.WalkLawsBesides
import Derived.Test.YtedbmmoddemngaaDoorWithin
import Derived.Lib.Hide
namespace Go.Proofs.YtedbmmoddemngaaDoor
open Go.RowKit
def nameTab : List (List UInt8) := [[109, 97, 107, 101], [108, 105, 110, 107], [117, 110, 108, 105, 110, 107], [114, 101, 110, 97, 109, 101], [110, 97, 109, 101, 115], [114, 101, 97, 100], [119, 114, 105, 116, 101], [99, 117, 116], [112, 105, 112, 101], [112, 117, 116], [116, 97, 107, 101], [115, 112, 97, 119, 110], [101, 110, 100], [114, 101, 97, 112], [107, 105, 100, 115], [115, 101, 110, 100], [115, 105, 103, 110, 97, 108], [116, 105, 109, 101, 114], [116, 105, 99, 107], [115, 116, 111, 114, 101], [108, 111, 97, 100], [111, 117, 116]]
/-- The name of a kind of calls; a question mark for any other number. -/
def callNameOf (k : Int) : ByteArray := if inB k 1 22 then ⟨(nameTab.getD (k.toNat - 1) []).toArray⟩ else ⟨#[63]⟩
/-- The table of names lies in block g. -/
def NameCells (w : World) (g : Nat) : Prop := ∀ (j : Nat) (l : List UInt8), nameTab[j]? = some l → w.cell? ⟨g, j, none⟩ = some (.string ⟨l.toArray⟩)

theorem NameCells.at {w : World} {g : Nat} (h : NameCells w g) (k : Int) (hin : inB k 1 22 = true) : w.cell? ⟨g, k.toNat - 1, none⟩ = some (.string (callNameOf k)) := by
  have hb := inB_iff.1 hin
  have hlt : k.toNat - 1 < nameTab.length := by show _ < 22; omega
  rw [h (k.toNat - 1) _ (List.getElem?_eq_getElem hlt)]
  unfold callNameOf
  rw [hin, List.getD_eq_getElem?_getD, List.getElem?_eq_getElem hlt]
  rfl
theorem spec_row (w : World) (k : Int) (hin : inB k 1 22 = true) : (w.alloc (.cells #[.string ⟨#[]⟩, .string ⟨#[109, 97, 107, 101]⟩, .string ⟨#[108, 105, 110, 107]⟩, .string ⟨#[117, 110, 108, 105, 110, 107]⟩, .string ⟨#[114, 101, 110, 97, 109, 101]⟩, .string ⟨#[110, 97, 109, 101, 115]⟩, .string ⟨#[114, 101, 97, 100]⟩, .string ⟨#[119, 114, 105, 116, 101]⟩, .string ⟨#[99, 117, 116]⟩, .string ⟨#[112, 105, 112, 101]⟩, .string ⟨#[112, 117, 116]⟩, .string ⟨#[116, 97, 107, 101]⟩, .string ⟨#[115, 112, 97, 119, 110]⟩, .string ⟨#[101, 110, 100]⟩, .string ⟨#[114, 101, 97, 112]⟩, .string ⟨#[107, 105, 100, 115]⟩, .string ⟨#[115, 101, 110, 100]⟩, .string ⟨#[115, 105, 103, 110, 97, 108]⟩, .string ⟨#[116, 105, 109, 101, 114]⟩, .string ⟨#[116, 105, 99, 107]⟩, .string ⟨#[115, 116, 111, 114, 101]⟩, .string ⟨#[108, 111, 97, 100]⟩, .string ⟨#[111, 117, 116]⟩] 9)).cell? ⟨w.heap.size, k.toNat, none⟩ = some (.string (callNameOf k)) := by
  have hb := inB_iff.1 hin
  have hh : (w.alloc (.cells #[.string ⟨#[]⟩, .string ⟨#[109, 97, 107, 101]⟩, .string ⟨#[108, 105, 110, 107]⟩, .string ⟨#[117, 110, 108, 105, 110, 107]⟩, .string ⟨#[114, 101, 110, 97, 109, 101]⟩, .string ⟨#[110, 97, 109, 101, 115]⟩, .string ⟨#[114, 101, 97, 100]⟩, .string ⟨#[119, 114, 105, 116, 101]⟩, .string ⟨#[99, 117, 116]⟩, .string ⟨#[112, 105, 112, 101]⟩, .string ⟨#[112, 117, 116]⟩, .string ⟨#[116, 97, 107, 101]⟩, .string ⟨#[115, 112, 97, 119, 110]⟩, .string ⟨#[101, 110, 100]⟩, .string ⟨#[114, 101, 97, 112]⟩, .string ⟨#[107, 105, 100, 115]⟩, .string ⟨#[115, 101, 110, 100]⟩, .string ⟨#[115, 105, 103, 110, 97, 108]⟩, .string ⟨#[116, 105, 109, 101, 114]⟩, .string ⟨#[116, 105, 99, 107]⟩, .string ⟨#[115, 116, 111, 114, 101]⟩, .string ⟨#[108, 111, 97, 100]⟩, .string ⟨#[111, 117, 116]⟩] 9)).heap[w.heap.size]? = some (.cells #[.string ⟨#[]⟩, .string ⟨#[109, 97, 107, 101]⟩, .string ⟨#[108, 105, 110, 107]⟩, .string ⟨#[117, 110, 108, 105, 110, 107]⟩, .string ⟨#[114, 101, 110, 97, 109, 101]⟩, .string ⟨#[110, 97, 109, 101, 115]⟩, .string ⟨#[114, 101, 97, 100]⟩, .string ⟨#[119, 114, 105, 116, 101]⟩, .string ⟨#[99, 117, 116]⟩, .string ⟨#[112, 105, 112, 101]⟩, .string ⟨#[112, 117, 116]⟩, .string ⟨#[116, 97, 107, 101]⟩, .string ⟨#[115, 112, 97, 119, 110]⟩, .string ⟨#[101, 110, 100]⟩, .string ⟨#[114, 101, 97, 112]⟩, .string ⟨#[107, 105, 100, 115]⟩, .string ⟨#[115, 101, 110, 100]⟩, .string ⟨#[115, 105, 103, 110, 97, 108]⟩, .string ⟨#[116, 105, 109, 101, 114]⟩, .string ⟨#[116, 105, 99, 107]⟩, .string ⟨#[115, 116, 111, 114, 101]⟩, .string ⟨#[108, 111, 97, 100]⟩, .string ⟨#[111, 117, 116]⟩] 9 (0, 0)) := heap_alloc_new w _
  rw [cell_of_row _ _ _ _ _ (0, 0) hh]
  rcases (show k = 1 ∨ k = 2 ∨ k = 3 ∨ k = 4 ∨ k = 5 ∨ k = 6 ∨ k = 7 ∨ k = 8 ∨ k = 9 ∨ k = 10 ∨ k = 11 ∨ k = 12 ∨ k = 13 ∨ k = 14 ∨ k = 15 ∨ k = 16 ∨ k = 17 ∨ k = 18 ∨ k = 19 ∨ k = 20 ∨ k = 21 ∨ k = 22 from by omega) with rfl | rfl | rfl | rfl | rfl | rfl | rfl | rfl | rfl | rfl | rfl | rfl | rfl | rfl | rfl | rfl | rfl | rfl | rfl | rfl | rfl | rfl <;> rfl

set_option maxHeartbeats 1000000 in
theorem specCallName_c (k : Int) (w : World) :
    Calls Tryd.prog 51 #[.int .i64 k] w fun e w' => e = .returned (.string (callNameOf k)) ∧ Below w.heap.size w w' := by
  by_cases hin : inB k 1 22 = true
  · have h1 := (inB_iff.1 hin).1
    have h2 := (inB_iff.1 hin).2
    have hrow := spec_row w k hin
    generalize callNameOf k = r at *
    go_enter Tryd.func51, Tryd.ntmps51
    go_wp2_with (first | (go_at_call 78; refine (l01In_c _ _ _ _).mono ?_; rintro e w' ⟨rfl, rfl⟩) | go_in)
    go_ret
    exact ⟨rfl, (Below.refl _ _).alloc (Nat.le_refl _) _⟩
  · have hin' : inB k 1 22 = false := by simpa using hin
    have hn : Hid (callNameOf k = ⟨#[63]⟩) := by show _ = _; unfold callNameOf; rw [hin']; rfl
    clear hin
    go_enter Tryd.func51, Tryd.ntmps51
    go_wp2_with (first | (go_at_call 78; refine (l01In_c _ _ _ _).mono ?_; rintro e w' ⟨rfl, rfl⟩) | go_in)
    go_ret
    exact ⟨by rw [hn.out]; rfl, Below.refl _ _⟩

set_option maxHeartbeats 1000000 in
theorem implCallName_c (k : Int) (w : World) (ht : NameCells w 0) :
    Calls Tryd.prog 48 #[.int .i64 k] w fun e w' => e = .returned (.string (callNameOf k)) ∧ Below w.heap.size w w' := by
  by_cases hin : inB k 1 22 = true
  · have h1 := (inB_iff.1 hin).1
    have h2 := (inB_iff.1 hin).2
    have hrow := ht.at k hin
    generalize callNameOf k = r at *
    have HT := Lib.hid ht
    clear ht
    go_enter Tryd.func48, Tryd.ntmps48
    go_wp2_with (first | (go_at_call 59; refine (within_c _ _ _ _).mono ?_; rintro e w' ⟨rfl, rfl⟩) | go_in)
    go_ret
    exact ⟨rfl, Below.refl _ _⟩
  · have hin' : inB k 1 22 = false := by simpa using hin
    have hn : Hid (callNameOf k = ⟨#[63]⟩) := by show _ = _; unfold callNameOf; rw [hin']; rfl
    clear hin
    go_enter Tryd.func48, Tryd.ntmps48
    go_wp2_with (first | (go_at_call 59; refine (within_c _ _ _ _).mono ?_; rintro e w' ⟨rfl, rfl⟩) | go_in)
    go_ret
    exact ⟨by rw [hn.out]; rfl, Below.refl _ _⟩
end Go.Proofs.YtedbmmoddemngaaDoor
