/- Contracts: AnswerText of both sides: the code and the number as numerals, and the text in hexadecimal if there is one. Conditions: the bounds that any Go int and string meet; the library's table of powers is as its text lays it. -/
import Derived.Test.YtedbmmoddemngaaDoorDec
import Derived.Lib.Hide
import Derived.Deep.RegionHeld3
import Derived.Deep.DrawnRows
namespace Go.Proofs.YtedbmmoddemngaaDoor
open Go.RowKit
attribute [local go_sem ↓] Go.wp_at_zero Go.wp_at_succ
def ansHead (c n : Int) : ByteArray := decS c ++ ⟨#[32]⟩ ++ decS n
def ansS (c n : Int) (t : ByteArray) : ByteArray := if t.size = 0 then ansHead c n else ansHead c n ++ ⟨#[32]⟩ ++ hexV t
theorem hexV_size (s : ByteArray) : (hexV s).size ≤ 40000 := by
  unfold hexV
  split
  · rw [hexS_size]; omega
  · exact Nat.zero_le _
theorem ba_assoc (a b c : ByteArray) : a ++ b ++ c = a ++ (b ++ c) := ByteArray.append_assoc
theorem add_run {t : TypeId} {a b : ByteArray} (h : a.size + b.size ≤ 1000000) : binOp .add t (.string a) (.string b) = pure (.string (a ++ b)) := by
  rw [binOp_string_add]
  unfold Op.stringOp
  simp only
  rw [if_neg]
  show ¬ (((a.size + b.size : Nat) : Int) > 9223372036854775807)
  omega
theorem list_empty {s : ByteArray} : s.toList = [] ↔ s.size = 0 := by
  rw [Lib.toList_data]
  exact ⟨fun h => by have := congrArg List.length h; simpa using this, fun h => List.eq_nil_of_length_eq_zero (by simpa using h)⟩

set_option maxRecDepth 100000 in
set_option maxHeartbeats 4000000 in
theorem specAnsText_c (c n : Int) (t : ByteArray) (w : World) (hc0 : -9223372036854775808 ≤ c) (hc1 : c ≤ 9223372036854775807) (hn0 : -9223372036854775808 ≤ n) (hn1 : n ≤ 9223372036854775807) (htl : t.size ≤ 1048576) :
    Calls Tryd.prog 22 #[.agg #[.int .i64 c, .int .i64 n, .string t]] w fun e w' => e = .returned (.string (ansS c n t)) ∧ Below w.heap.size w w' := by
  have HH := Lib.hid (show ansHead c n = decS c ++ ⟨#[32]⟩ ++ decS n from rfl)
  have hsc := decS_size c hc0 hc1
  have hsn := decS_size n hn0 hn1
  have K1 := Lib.hid (fun (W : World) => (specDecimal_c c W hc0 hc1))
  have K2 := Lib.hid (fun (W : World) => (specDecimal_c n W hn0 hn1))
  have KH := Lib.hid (fun (W : World) => (specHex_c t W (by unfold maxLen; omega)))
  have hsh := hexV_size t
  by_cases hz : t.size = 0
  · have f0 := list_empty.2 hz
    have f1 : (t.toList == []) = true := by simp [f0]
    have f2 : (t.toList != []) = false := by simp [f0]
    have HX := Lib.hid (show ansS c n t = decS c ++ ⟨#[32]⟩ ++ decS n from by unfold ansS; rw [if_pos hz]; rfl)
    generalize decS c = dc at *
    generalize decS n = dn at *
    have q1 : (⟨#[32]⟩ : ByteArray).size = 1 := rfl
    have hz1 : (dc ++ ⟨#[32]⟩).size = dc.size + 1 := by rw [ByteArray.size_append]; rfl
    have hz2 : (dc ++ ⟨#[32]⟩ ++ dn).size = dc.size + 1 + dn.size := by rw [ByteArray.size_append, hz1]
    have ha1 : ∀ t, binOp .add t (.string dc) (.string ⟨#[32]⟩) = pure (.string (dc ++ ⟨#[32]⟩)) := fun t => add_run (by omega)
    have ha2 : ∀ t, binOp .add t (.string (dc ++ ⟨#[32]⟩)) (.string dn) = pure (.string (dc ++ ⟨#[32]⟩ ++ dn)) := fun t => add_run (by omega)
    clear hz f0
    go_enter Tryd.func22, Tryd.ntmps22
    go_wp2_with fail
    have BX := Lib.hid (Box.new w [.int .i64 c, .int .i64 n, .string t] 34)
    have c0 : (w.alloc (.cells #[.int .i64 c, .int .i64 n, .string t] 34)).cell? ⟨w.heap.size, 0, none⟩ = some (.int .i64 c) := BX.out.cell 0 _ rfl
    have c1 : (w.alloc (.cells #[.int .i64 c, .int .i64 n, .string t] 34)).cell? ⟨w.heap.size, 1, none⟩ = some (.int .i64 n) := BX.out.cell 1 _ rfl
    have c2 : (w.alloc (.cells #[.int .i64 c, .int .i64 n, .string t] 34)).cell? ⟨w.heap.size, 2, none⟩ = some (.string t) := BX.out.cell 2 _ rfl
    go_region_held3 (fun w' => w'.cell? ⟨w.heap.size, 0, none⟩ = some (.int .i64 c) ∧ w'.cell? ⟨w.heap.size, 1, none⟩ = some (.int .i64 n) ∧ w'.cell? ⟨w.heap.size, 2, none⟩ = some (.string t)) ((go_split_ands; (repeat' apply And.intro) <;> first | assumption | exact keepS (by assumption) (by assumption))) (first
      | (go_at_call 13; (with_reducible refine (K1.out _).mono ?_); rintro e w1 ⟨rfl, hb1⟩)
      | (go_at_call 13; (with_reducible refine (K2.out _).mono ?_); rintro e w1 ⟨rfl, hb1⟩))
    all_goals
      have H3 : w1.cell? ⟨w.heap.size, 0, none⟩ = some (.int .i64 c) ∧ w1.cell? ⟨w.heap.size, 1, none⟩ = some (.int .i64 n) ∧ w1.cell? ⟨w.heap.size, 2, none⟩ = some (.string t) := by assumption
      obtain ⟨_, _, d2⟩ := H3
      have B1 : Below w.heap.size w w1 := (by repeat (first | exact Below.refl _ _ | refine Below.drew ?_ | refine below_drewN ?_ _ | refine Below.allocC ?_ _ | refine Below.setCell ?_ (by first | (simp; done) | (simp; omega)) _ | refine Below.chain ?_ (by assumption)))
      go_wp2
      go_ret
      exact ⟨by rw [HX.out]; rfl, B1⟩
  · have f0 : ¬ t.toList = [] := fun e => hz (list_empty.1 e)
    have f1 : (t.toList == []) = false := by simp [f0]
    have f2 : (t.toList != []) = true := by simp [f0]
    have HX := Lib.hid (show ansS c n t = decS c ++ ⟨#[32]⟩ ++ decS n ++ ⟨#[32]⟩ ++ hexV t from by unfold ansS; rw [if_neg hz]; rfl)
    generalize decS c = dc at *
    generalize decS n = dn at *
    have q1 : (⟨#[32]⟩ : ByteArray).size = 1 := rfl
    have hz1 : (dc ++ ⟨#[32]⟩).size = dc.size + 1 := by rw [ByteArray.size_append]; rfl
    have hz2 : (dc ++ ⟨#[32]⟩ ++ dn).size = dc.size + 1 + dn.size := by rw [ByteArray.size_append, hz1]
    have hz3 : (⟨#[32]⟩ ++ hexV t : ByteArray).size = 1 + (hexV t).size := by rw [ByteArray.size_append]; rfl
    have hz4 : (dc ++ ⟨#[32]⟩ ++ dn ++ ⟨#[32]⟩).size = dc.size + 1 + dn.size + 1 := by rw [ByteArray.size_append, hz2]; rfl
    generalize hexV t = hx at *
    generalize hexOk t = hk at *
    have ha1 : ∀ t, binOp .add t (.string dc) (.string ⟨#[32]⟩) = pure (.string (dc ++ ⟨#[32]⟩)) := fun t => add_run (by omega)
    have ha2 : ∀ t, binOp .add t (.string (dc ++ ⟨#[32]⟩)) (.string dn) = pure (.string (dc ++ ⟨#[32]⟩ ++ dn)) := fun t => add_run (by omega)
    clear hz f0
    go_enter Tryd.func22, Tryd.ntmps22
    go_wp2_with fail
    have BX := Lib.hid (Box.new w [.int .i64 c, .int .i64 n, .string t] 34)
    have c0 : (w.alloc (.cells #[.int .i64 c, .int .i64 n, .string t] 34)).cell? ⟨w.heap.size, 0, none⟩ = some (.int .i64 c) := BX.out.cell 0 _ rfl
    have c1 : (w.alloc (.cells #[.int .i64 c, .int .i64 n, .string t] 34)).cell? ⟨w.heap.size, 1, none⟩ = some (.int .i64 n) := BX.out.cell 1 _ rfl
    have c2 : (w.alloc (.cells #[.int .i64 c, .int .i64 n, .string t] 34)).cell? ⟨w.heap.size, 2, none⟩ = some (.string t) := BX.out.cell 2 _ rfl
    go_region_held3 (fun w' => w'.cell? ⟨w.heap.size, 0, none⟩ = some (.int .i64 c) ∧ w'.cell? ⟨w.heap.size, 1, none⟩ = some (.int .i64 n) ∧ w'.cell? ⟨w.heap.size, 2, none⟩ = some (.string t)) ((go_split_ands; (repeat' apply And.intro) <;> first | assumption | exact keepS (by assumption) (by assumption))) (first
      | (go_at_call 13; (with_reducible refine (K1.out _).mono ?_); rintro e w1 ⟨rfl, hb1⟩)
      | (go_at_call 13; (with_reducible refine (K2.out _).mono ?_); rintro e w1 ⟨rfl, hb1⟩))
    all_goals
      have H3 : w1.cell? ⟨w.heap.size, 0, none⟩ = some (.int .i64 c) ∧ w1.cell? ⟨w.heap.size, 1, none⟩ = some (.int .i64 n) ∧ w1.cell? ⟨w.heap.size, 2, none⟩ = some (.string t) := by assumption
      obtain ⟨_, _, d2⟩ := H3
      have B1 : Below w.heap.size w w1 := (by repeat (first | exact Below.refl _ _ | refine Below.drew ?_ | refine below_drewN ?_ _ | refine Below.allocC ?_ _ | refine Below.setCell ?_ (by first | (simp; done) | (simp; omega)) _ | refine Below.chain ?_ (by assumption)))
      go_wp2_with fail
      refine (KH.out _).mono ?_
      rintro e w2 ⟨rfl, hb2⟩
      have B2 : Below w.heap.size w w2 := B1.trans (hb2.mono B1.size)
      go_wp2
      go_ret
      exact ⟨by rw [HX.out]; rfl, B2⟩

set_option maxRecDepth 100000 in
set_option maxHeartbeats 4000000 in
theorem implAnsText_c (c n : Int) (t : ByteArray) (w : World) (hc0 : -9223372036854775808 ≤ c) (hc1 : c ≤ 9223372036854775807) (hn0 : -9223372036854775808 ≤ n) (hn1 : n ≤ 9223372036854775807) (ht : DecTab w) (htl : t.size ≤ 1048576) :
    Calls Tryd.prog 24 #[.agg #[.int .i64 c, .int .i64 n, .string t]] w fun e w' => e = .returned (.string (ansS c n t)) ∧ Below w.heap.size w w' := by
  have HT := Lib.hid (fun (W : World) (hW : Below w.heap.size w W) => DecTab.below ht hW)
  clear ht
  have HH := Lib.hid (show ansHead c n = decS c ++ ⟨#[32]⟩ ++ decS n from rfl)
  have hsc := decS_size c hc0 hc1
  have hsn := decS_size n hn0 hn1
  have K1 := Lib.hid (fun (W : World) (hW : Below w.heap.size w W) => (implDecimal_c c W hc0 hc1 (HT.out W hW)))
  have K2 := Lib.hid (fun (W : World) (hW : Below w.heap.size w W) => (implDecimal_c n W hn0 hn1 (HT.out W hW)))
  have KH := Lib.hid (fun (W : World) => (implHex_c t W))
  have hsh := hexV_size t
  by_cases hz : t.size = 0
  · have f0 := list_empty.2 hz
    have f1 : (t.toList == []) = true := by simp [f0]
    have f2 : (t.toList != []) = false := by simp [f0]
    have HX := Lib.hid (show ansS c n t = decS c ++ ⟨#[32]⟩ ++ decS n from by unfold ansS; rw [if_pos hz]; rfl)
    generalize decS c = dc at *
    generalize decS n = dn at *
    have q1 : (⟨#[32]⟩ : ByteArray).size = 1 := rfl
    have hz1 : (dc ++ ⟨#[32]⟩).size = dc.size + 1 := by rw [ByteArray.size_append]; rfl
    have hz2 : (dc ++ ⟨#[32]⟩ ++ dn).size = dc.size + 1 + dn.size := by rw [ByteArray.size_append, hz1]
    have ha1 : ∀ t, binOp .add t (.string dc) (.string ⟨#[32]⟩) = pure (.string (dc ++ ⟨#[32]⟩)) := fun t => add_run (by omega)
    have ha2 : ∀ t, binOp .add t (.string (dc ++ ⟨#[32]⟩)) (.string dn) = pure (.string (dc ++ ⟨#[32]⟩ ++ dn)) := fun t => add_run (by omega)
    clear hz f0
    go_enter Tryd.func24, Tryd.ntmps24
    go_wp2_with fail
    have BX := Lib.hid (Box.new w [.int .i64 c, .int .i64 n, .string t] 34)
    have c0 : (w.alloc (.cells #[.int .i64 c, .int .i64 n, .string t] 34)).cell? ⟨w.heap.size, 0, none⟩ = some (.int .i64 c) := BX.out.cell 0 _ rfl
    have c1 : (w.alloc (.cells #[.int .i64 c, .int .i64 n, .string t] 34)).cell? ⟨w.heap.size, 1, none⟩ = some (.int .i64 n) := BX.out.cell 1 _ rfl
    have c2 : (w.alloc (.cells #[.int .i64 c, .int .i64 n, .string t] 34)).cell? ⟨w.heap.size, 2, none⟩ = some (.string t) := BX.out.cell 2 _ rfl
    go_region_held3 (fun w' => w'.cell? ⟨w.heap.size, 0, none⟩ = some (.int .i64 c) ∧ w'.cell? ⟨w.heap.size, 1, none⟩ = some (.int .i64 n) ∧ w'.cell? ⟨w.heap.size, 2, none⟩ = some (.string t)) ((go_split_ands; (repeat' apply And.intro) <;> first | assumption | exact keepS (by assumption) (by assumption))) (first
      | (go_at_call 14; (with_reducible refine (K1.out _ ((by repeat (first | exact Below.refl _ _ | refine Below.drew ?_ | refine below_drewN ?_ _ | refine Below.allocC ?_ _ | refine Below.setCell ?_ (by first | (simp; done) | (simp; omega)) _ | refine Below.chain ?_ (by assumption))))).mono ?_); rintro e w1 ⟨rfl, hb1⟩)
      | (go_at_call 14; (with_reducible refine (K2.out _ ((by repeat (first | exact Below.refl _ _ | refine Below.drew ?_ | refine below_drewN ?_ _ | refine Below.allocC ?_ _ | refine Below.setCell ?_ (by first | (simp; done) | (simp; omega)) _ | refine Below.chain ?_ (by assumption))))).mono ?_); rintro e w1 ⟨rfl, hb1⟩))
    all_goals
      have H3 : w1.cell? ⟨w.heap.size, 0, none⟩ = some (.int .i64 c) ∧ w1.cell? ⟨w.heap.size, 1, none⟩ = some (.int .i64 n) ∧ w1.cell? ⟨w.heap.size, 2, none⟩ = some (.string t) := by assumption
      obtain ⟨_, _, d2⟩ := H3
      have B1 : Below w.heap.size w w1 := (by repeat (first | exact Below.refl _ _ | refine Below.drew ?_ | refine below_drewN ?_ _ | refine Below.allocC ?_ _ | refine Below.setCell ?_ (by first | (simp; done) | (simp; omega)) _ | refine Below.chain ?_ (by assumption)))
      go_wp2
      go_ret
      exact ⟨by rw [HX.out]; rfl, B1⟩
  · have f0 : ¬ t.toList = [] := fun e => hz (list_empty.1 e)
    have f1 : (t.toList == []) = false := by simp [f0]
    have f2 : (t.toList != []) = true := by simp [f0]
    have HX := Lib.hid (show ansS c n t = decS c ++ ⟨#[32]⟩ ++ decS n ++ (⟨#[32]⟩ ++ hexV t) from by unfold ansS; rw [if_neg hz, ba_assoc (ansHead c n)]; rfl)
    generalize decS c = dc at *
    generalize decS n = dn at *
    have q1 : (⟨#[32]⟩ : ByteArray).size = 1 := rfl
    have hz1 : (dc ++ ⟨#[32]⟩).size = dc.size + 1 := by rw [ByteArray.size_append]; rfl
    have hz2 : (dc ++ ⟨#[32]⟩ ++ dn).size = dc.size + 1 + dn.size := by rw [ByteArray.size_append, hz1]
    have hz3 : (⟨#[32]⟩ ++ hexV t : ByteArray).size = 1 + (hexV t).size := by rw [ByteArray.size_append]; rfl
    have hz4 : (dc ++ ⟨#[32]⟩ ++ dn ++ ⟨#[32]⟩).size = dc.size + 1 + dn.size + 1 := by rw [ByteArray.size_append, hz2]; rfl
    generalize hexV t = hx at *
    generalize hexOk t = hk at *
    have ha1 : ∀ t, binOp .add t (.string dc) (.string ⟨#[32]⟩) = pure (.string (dc ++ ⟨#[32]⟩)) := fun t => add_run (by omega)
    have ha2 : ∀ t, binOp .add t (.string (dc ++ ⟨#[32]⟩)) (.string dn) = pure (.string (dc ++ ⟨#[32]⟩ ++ dn)) := fun t => add_run (by omega)
    clear hz f0
    go_enter Tryd.func24, Tryd.ntmps24
    go_wp2_with fail
    have BX := Lib.hid (Box.new w [.int .i64 c, .int .i64 n, .string t] 34)
    have c0 : (w.alloc (.cells #[.int .i64 c, .int .i64 n, .string t] 34)).cell? ⟨w.heap.size, 0, none⟩ = some (.int .i64 c) := BX.out.cell 0 _ rfl
    have c1 : (w.alloc (.cells #[.int .i64 c, .int .i64 n, .string t] 34)).cell? ⟨w.heap.size, 1, none⟩ = some (.int .i64 n) := BX.out.cell 1 _ rfl
    have c2 : (w.alloc (.cells #[.int .i64 c, .int .i64 n, .string t] 34)).cell? ⟨w.heap.size, 2, none⟩ = some (.string t) := BX.out.cell 2 _ rfl
    go_region_held3 (fun w' => w'.cell? ⟨w.heap.size, 0, none⟩ = some (.int .i64 c) ∧ w'.cell? ⟨w.heap.size, 1, none⟩ = some (.int .i64 n) ∧ w'.cell? ⟨w.heap.size, 2, none⟩ = some (.string t)) ((go_split_ands; (repeat' apply And.intro) <;> first | assumption | exact keepS (by assumption) (by assumption))) (first
      | (go_at_call 14; (with_reducible refine (K1.out _ ((by repeat (first | exact Below.refl _ _ | refine Below.drew ?_ | refine below_drewN ?_ _ | refine Below.allocC ?_ _ | refine Below.setCell ?_ (by first | (simp; done) | (simp; omega)) _ | refine Below.chain ?_ (by assumption))))).mono ?_); rintro e w1 ⟨rfl, hb1⟩)
      | (go_at_call 14; (with_reducible refine (K2.out _ ((by repeat (first | exact Below.refl _ _ | refine Below.drew ?_ | refine below_drewN ?_ _ | refine Below.allocC ?_ _ | refine Below.setCell ?_ (by first | (simp; done) | (simp; omega)) _ | refine Below.chain ?_ (by assumption))))).mono ?_); rintro e w1 ⟨rfl, hb1⟩))
    all_goals
      have H3 : w1.cell? ⟨w.heap.size, 0, none⟩ = some (.int .i64 c) ∧ w1.cell? ⟨w.heap.size, 1, none⟩ = some (.int .i64 n) ∧ w1.cell? ⟨w.heap.size, 2, none⟩ = some (.string t) := by assumption
      obtain ⟨_, _, d2⟩ := H3
      have B1 : Below w.heap.size w w1 := (by repeat (first | exact Below.refl _ _ | refine Below.drew ?_ | refine below_drewN ?_ _ | refine Below.allocC ?_ _ | refine Below.setCell ?_ (by first | (simp; done) | (simp; omega)) _ | refine Below.chain ?_ (by assumption)))
      go_wp2_with fail
      refine (KH.out _).mono ?_
      rintro e w2 ⟨rfl, hb2⟩
      have B2 : Below w.heap.size w w2 := B1.trans (hb2.mono B1.size)
      go_wp2
      go_ret
      exact ⟨by rw [HX.out]; rfl, B2⟩

end Go.Proofs.YtedbmmoddemngaaDoor
