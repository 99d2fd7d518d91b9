/- Lemmas and contracts that the last text leans on, joined: KeysK, KPrim, KM1, KWipe, Reg, KFork. Conditions: as each theorem says. -/
import Derived.Test.YtihghflppegnmaaGreatDoorNk4
import Derived.OrdersHeld
import Derived.Deep.RegionHeld3
set_option linter.unusedSimpArgs false
set_option linter.unusedVariables false
namespace Go.Proofs.YtihghflppegnmaaGreatDoor
open Go.RowKit
attribute [local go_sem ↓] Go.wp_at_zero Go.wp_at_succ
/-- An int. -/
structure I64 (n : Int) : Prop where
  lo : -9223372036854775808 ≤ n
  hi : n ≤ 9223372036854775807
theorem i64_of {n : Int} (h : 0 ≤ n ∧ n ≤ 999) : I64 n := ⟨by omega, by omega⟩
theorem i64_succ {n : Int} (h : 0 ≤ n ∧ n ≤ 999) : I64 (n + 1) := ⟨by omega, by omega⟩
theorem linksK_size {id : Int} (hn : I64 id) : (linksK id).size ≤ 1000 := by
  have h := keyNumS_size ⟨#[105, 47]⟩ id ⟨#[47, 108]⟩ hn.lo hn.hi
  have e1 : (⟨#[105, 47]⟩ : ByteArray).size = 2 := rfl
  have e2 : (⟨#[47, 108]⟩ : ByteArray).size = 2 := rfl
  unfold linksK; omega
theorem sizeK_size {id : Int} (hn : I64 id) : (sizeK id).size ≤ 1000 := by
  have h := keyNumS_size ⟨#[105, 47]⟩ id ⟨#[47, 115]⟩ hn.lo hn.hi
  have e1 : (⟨#[105, 47]⟩ : ByteArray).size = 2 := rfl
  have e2 : (⟨#[47, 115]⟩ : ByteArray).size = 2 := rfl
  unfold sizeK; omega
theorem fileK_size {id : Int} (hn : I64 id) : (fileK id).size ≤ 1000 := by
  have h := keyNumS_size ⟨#[105, 47]⟩ id ⟨#[47]⟩ hn.lo hn.hi
  have e1 : (⟨#[105, 47]⟩ : ByteArray).size = 2 := rfl
  have e2 : (⟨#[47]⟩ : ByteArray).size = 1 := rfl
  unfold fileK; omega
theorem timerK_size {id : Int} (hn : I64 id) : (timerK id).size ≤ 1000 := by
  have h := keyNumS_size ⟨#[116, 47]⟩ id ⟨#[]⟩ hn.lo hn.hi
  have e1 : (⟨#[116, 47]⟩ : ByteArray).size = 2 := rfl
  have e2 : (⟨#[]⟩ : ByteArray).size = 0 := rfl
  unfold timerK; omega
theorem pagesK_size {id : Int} (hn : I64 id) : (pagesK id).size ≤ 1000 := by
  have h := keyNumS_size ⟨#[109, 47]⟩ id ⟨#[47]⟩ hn.lo hn.hi
  have e1 : (⟨#[109, 47]⟩ : ByteArray).size = 2 := rfl
  have e2 : (⟨#[47]⟩ : ByteArray).size = 1 := rfl
  unfold pagesK; omega
theorem pipeK_size {id : Int} {t : ByteArray} (hn : I64 id) (ht : t.size ≤ 100) : (pipeK id t).size ≤ 1000 := by
  have h := keyNumS_size ⟨#[112, 47]⟩ id t hn.lo hn.hi
  have e1 : (⟨#[112, 47]⟩ : ByteArray).size = 2 := rfl
  unfold pipeK; omega
theorem sigK_size {id : Int} {t : ByteArray} (hn : I64 id) (ht : t.size ≤ 100) : (sigK id t).size ≤ 1000 := by
  have h := keyNumS_size ⟨#[103, 47]⟩ id t hn.lo hn.hi
  have e1 : (⟨#[103, 47]⟩ : ByteArray).size = 2 := rfl
  unfold sigK; omega
theorem procK_size2 {id : Int} {t : ByteArray} (hn : I64 id) (ht : t.size ≤ 100) : (procK id t).size ≤ 1000 := procK_size id t hn.lo hn.hi ht
theorem blockK_size {id k : Int} (hn : I64 id) (hk : I64 k) : (blockK id k).size ≤ 1000 := by
  have h := keyNumS_size (keyNumS ⟨#[105, 47]⟩ id ⟨#[47, 98, 47]⟩) k ⟨#[]⟩ hk.lo hk.hi
  have h2 := keyNumS_size ⟨#[105, 47]⟩ id ⟨#[47, 98, 47]⟩ hn.lo hn.hi
  have e2 : (⟨#[105, 47]⟩ : ByteArray).size = 2 := rfl
  have e3 : (⟨#[47, 98, 47]⟩ : ByteArray).size = 3 := rfl
  have e1 : (⟨#[]⟩ : ByteArray).size = 0 := rfl
  unfold blockK; omega
theorem pipeQ_size {id k : Int} (hn : I64 id) (hk : I64 k) : (pipeQ id k).size ≤ 1000 := by
  have h := keyNumS_size (pipeK id ⟨#[47, 113, 47]⟩) k ⟨#[]⟩ hk.lo hk.hi
  have h2 : (pipeK id ⟨#[47, 113, 47]⟩).size ≤ _ := keyNumS_size ⟨#[112, 47]⟩ id ⟨#[47, 113, 47]⟩ hn.lo hn.hi
  have e2 : (⟨#[112, 47]⟩ : ByteArray).size = 2 := rfl
  have e3 : (⟨#[47, 113, 47]⟩ : ByteArray).size = 3 := rfl
  have e1 : (⟨#[]⟩ : ByteArray).size = 0 := rfl
  unfold pipeQ; omega
theorem sigQ_size {id k : Int} (hn : I64 id) (hk : I64 k) : (sigQ id k).size ≤ 1000 := by
  have h := keyNumS_size (sigK id ⟨#[47, 113, 47]⟩) k ⟨#[]⟩ hk.lo hk.hi
  have h2 : (sigK id ⟨#[47, 113, 47]⟩).size ≤ _ := keyNumS_size ⟨#[103, 47]⟩ id ⟨#[47, 113, 47]⟩ hn.lo hn.hi
  have e2 : (⟨#[103, 47]⟩ : ByteArray).size = 2 := rfl
  have e3 : (⟨#[47, 113, 47]⟩ : ByteArray).size = 3 := rfl
  have e1 : (⟨#[]⟩ : ByteArray).size = 0 := rfl
  unfold sigQ; omega
theorem pageK_size {id k : Int} (hn : I64 id) (hk : I64 k) : (pageK id k).size ≤ 1000 := by
  have h := keyNumS_size (pagesK id) k ⟨#[]⟩ hk.lo hk.hi
  have h2 : (pagesK id).size ≤ _ := keyNumS_size ⟨#[109, 47]⟩ id ⟨#[47]⟩ hn.lo hn.hi
  have e2 : (⟨#[109, 47]⟩ : ByteArray).size = 2 := rfl
  have e3 : (⟨#[47]⟩ : ByteArray).size = 1 := rfl
  have e1 : (⟨#[]⟩ : ByteArray).size = 0 := rfl
  unfold pageK; omega
theorem outK1_size {id : Int} (hn : I64 id) : (outK1 id).size ≤ 1000 := by
  have h := keyNumS_size dK id ⟨#[]⟩ hn.lo hn.hi
  have e1 : dK.size = 2 := rfl
  have e2 : (⟨#[]⟩ : ByteArray).size = 0 := rfl
  unfold outK1; omega
theorem nK_size {s : ByteArray} : (nK s).size = 2 + s.size := by
  unfold nK; rw [ByteArray.size_append]; rfl
theorem hexV_size (s : ByteArray) : (hexV s).size ≤ 40000 := by
  unfold hexV
  split
  · rename_i h
    have := hexS_size s
    omega
  · exact Nat.zero_le _
theorem hyphenS_size {s : ByteArray} : (hyphenS s).size = 1 + s.size := by
  unfold hyphenS; rw [ByteArray.size_append]; rfl
theorem linksKey_c (id : Int) (W : World) (hn : I64 id) (hT : Tabs W) :
    Calls Tryz.prog 156 #[.int .i64 id] W fun e w' => e = .returned (.string (linksK id)) ∧ Below W.heap.size W w' := by
  have K := Lib.hid (implKeyNum_c ⟨#[105, 47]⟩ id ⟨#[47, 108]⟩ W hn.lo hn.hi (by decide) (by decide) hT.1)
  clear hn hT
  go_enter Tryz.func156, Tryz.ntmps156
  go_wp2_with fail
  refine K.out.mono ?_
  rintro e w1 ⟨rfl, hb⟩
  go_wp2
  go_ret
  exact ⟨rfl, hb⟩
theorem sizeKey_c (id : Int) (W : World) (hn : I64 id) (hT : Tabs W) :
    Calls Tryz.prog 204 #[.int .i64 id] W fun e w' => e = .returned (.string (sizeK id)) ∧ Below W.heap.size W w' := by
  have K := Lib.hid (implKeyNum_c ⟨#[105, 47]⟩ id ⟨#[47, 115]⟩ W hn.lo hn.hi (by decide) (by decide) hT.1)
  clear hn hT
  go_enter Tryz.func204, Tryz.ntmps204
  go_wp2_with fail
  refine K.out.mono ?_
  rintro e w1 ⟨rfl, hb⟩
  go_wp2
  go_ret
  exact ⟨rfl, hb⟩
theorem pagesKey_c (id : Int) (W : World) (hn : I64 id) (hT : Tabs W) :
    Calls Tryz.prog 168 #[.int .i64 id] W fun e w' => e = .returned (.string (pagesK id)) ∧ Below W.heap.size W w' := by
  have K := Lib.hid (implKeyNum_c ⟨#[109, 47]⟩ id ⟨#[47]⟩ W hn.lo hn.hi (by decide) (by decide) hT.1)
  clear hn hT
  go_enter Tryz.func168, Tryz.ntmps168
  go_wp2_with fail
  refine K.out.mono ?_
  rintro e w1 ⟨rfl, hb⟩
  go_wp2
  go_ret
  exact ⟨rfl, hb⟩
theorem pipeKey_c (id : Int) (t : ByteArray) (W : World) (hn : I64 id) (ht : t.size ≤ 100) (hT : Tabs W) :
    Calls Tryz.prog 164 #[.int .i64 id, .string t] W fun e w' => e = .returned (.string (pipeK id t)) ∧ Below W.heap.size W w' := by
  have K := Lib.hid (implKeyNum_c ⟨#[112, 47]⟩ id t W hn.lo hn.hi (by decide) (by omega) hT.1)
  clear hn hT
  go_enter Tryz.func164, Tryz.ntmps164
  go_wp2_with fail
  refine K.out.mono ?_
  rintro e w1 ⟨rfl, hb⟩
  go_wp2
  go_ret
  exact ⟨rfl, hb⟩
theorem signalKey_c (id : Int) (t : ByteArray) (W : World) (hn : I64 id) (ht : t.size ≤ 100) (hT : Tabs W) :
    Calls Tryz.prog 173 #[.int .i64 id, .string t] W fun e w' => e = .returned (.string (sigK id t)) ∧ Below W.heap.size W w' := by
  have K := Lib.hid (implKeyNum_c ⟨#[103, 47]⟩ id t W hn.lo hn.hi (by decide) (by omega) hT.1)
  clear hn hT
  go_enter Tryz.func173, Tryz.ntmps173
  go_wp2_with fail
  refine K.out.mono ?_
  rintro e w1 ⟨rfl, hb⟩
  go_wp2
  go_ret
  exact ⟨rfl, hb⟩
theorem l08Key_c (id : Int) (t : ByteArray) (W : World) (hn : I64 id) (ht : t.size ≤ 100) :
    Calls Tryz.prog 183 #[.int .i64 id, .string t] W fun e w' => e = .returned (.string (pipeK id t)) ∧ Below W.heap.size W w' := by
  have K := Lib.hid (specKeyNum_c ⟨#[112, 47]⟩ id t W hn.lo hn.hi (by decide) (by omega))
  clear hn
  go_enter Tryz.func183, Tryz.ntmps183
  go_wp2_with fail
  refine K.out.mono ?_
  rintro e w1 ⟨rfl, hb⟩
  go_wp2
  go_ret
  exact ⟨rfl, hb⟩
theorem l09Key_c (id : Int) (t : ByteArray) (W : World) (hn : I64 id) (ht : t.size ≤ 100) :
    Calls Tryz.prog 150 #[.int .i64 id, .string t] W fun e w' => e = .returned (.string (procK id t)) ∧ Below W.heap.size W w' := by
  have K := Lib.hid (specKeyNum_c ⟨#[114, 47]⟩ id t W hn.lo hn.hi (by decide) (by omega))
  clear hn
  go_enter Tryz.func150, Tryz.ntmps150
  go_wp2_with fail
  refine K.out.mono ?_
  rintro e w1 ⟨rfl, hb⟩
  go_wp2
  go_ret
  exact ⟨rfl, hb⟩
theorem l10Key_c (id : Int) (t : ByteArray) (W : World) (hn : I64 id) (ht : t.size ≤ 100) :
    Calls Tryz.prog 189 #[.int .i64 id, .string t] W fun e w' => e = .returned (.string (sigK id t)) ∧ Below W.heap.size W w' := by
  have K := Lib.hid (specKeyNum_c ⟨#[103, 47]⟩ id t W hn.lo hn.hi (by decide) (by omega))
  clear hn
  go_enter Tryz.func189, Tryz.ntmps189
  go_wp2_with fail
  refine K.out.mono ?_
  rintro e w1 ⟨rfl, hb⟩
  go_wp2
  go_ret
  exact ⟨rfl, hb⟩
theorem l11Head_c (id : Int) (W : World) (hn : I64 id) :
    Calls Tryz.prog 193 #[.int .i64 id] W fun e w' => e = .returned (.string (pagesK id)) ∧ Below W.heap.size W w' := by
  have K := Lib.hid (specKeyNum_c ⟨#[109, 47]⟩ id ⟨#[47]⟩ W hn.lo hn.hi (by decide) (by decide))
  clear hn
  go_enter Tryz.func193, Tryz.ntmps193
  go_wp2_with fail
  refine K.out.mono ?_
  rintro e w1 ⟨rfl, hb⟩
  go_wp2
  go_ret
  exact ⟨rfl, hb⟩
theorem blockKey_c (id k : Int) (W : World) (hn : I64 id) (hk : I64 k) (hT : Tabs W) :
    Calls Tryz.prog 206 #[.int .i64 id, .int .i64 k] W fun e w' => e = .returned (.string (blockK id k)) ∧ Below W.heap.size W w' := by
  have K := Lib.hid (implKeyNum_c ⟨#[105, 47]⟩ id ⟨#[47, 98, 47]⟩ W hn.lo hn.hi (by decide) (by decide) hT.1)
  obtain ⟨x, hx⟩ : ∃ x, keyNumS ⟨#[105, 47]⟩ id ⟨#[47, 98, 47]⟩ = x := ⟨_, rfl⟩
  have hs : x.size ≤ 1000 := by rw [← hx]; have h2 := keyNumS_size ⟨#[105, 47]⟩ id ⟨#[47, 98, 47]⟩ hn.lo hn.hi; have e2 : (⟨#[105, 47]⟩ : ByteArray).size = 2 := rfl; have e3 : (⟨#[47, 98, 47]⟩ : ByteArray).size = 3 := rfl; omega
  have HK := Lib.hid (show blockK id k = keyNumS x k ⟨#[]⟩ by rw [← hx]; rfl)
  rw [hx] at K
  have K2 := Lib.hid (fun w (hb : Below W.heap.size W w) => implKeyNum_c x k ⟨#[]⟩ w hk.lo hk.hi (by omega) (by decide) (hT.below hb).1)
  clear hn hk hx hs
  go_enter Tryz.func206, Tryz.ntmps206
  go_wp2_with fail
  refine K.out.mono ?_
  rintro e w1 ⟨rfl, hb⟩
  have HB := Lib.hid hb
  clear hb
  go_wp2_with fail
  refine (K2.out _ HB.out).mono ?_
  rintro e w2 ⟨rfl, hb⟩
  go_wp2
  go_ret
  exact ⟨by rw [HK.out]; rfl, HB.out.trans (hb.mono HB.out.size)⟩
theorem l07Block_c (id k : Int) (W : World) (hn : I64 id) (hk : I64 k) :
    Calls Tryz.prog 217 #[.int .i64 id, .int .i64 k] W fun e w' => e = .returned (.string (blockK id k)) ∧ Below W.heap.size W w' := by
  have K := Lib.hid (specKeyNum_c ⟨#[105, 47]⟩ id ⟨#[47, 98, 47]⟩ W hn.lo hn.hi (by decide) (by decide))
  obtain ⟨x, hx⟩ : ∃ x, keyNumS ⟨#[105, 47]⟩ id ⟨#[47, 98, 47]⟩ = x := ⟨_, rfl⟩
  have hs : x.size ≤ 1000 := by rw [← hx]; have h2 := keyNumS_size ⟨#[105, 47]⟩ id ⟨#[47, 98, 47]⟩ hn.lo hn.hi; have e2 : (⟨#[105, 47]⟩ : ByteArray).size = 2 := rfl; have e3 : (⟨#[47, 98, 47]⟩ : ByteArray).size = 3 := rfl; omega
  have HK := Lib.hid (show blockK id k = keyNumS x k ⟨#[]⟩ by rw [← hx]; rfl)
  rw [hx] at K
  have K2 := Lib.hid (fun w (hb : Below W.heap.size W w) => specKeyNum_c x k ⟨#[]⟩ w hk.lo hk.hi (by omega) (by decide))
  clear hn hk hx hs
  go_enter Tryz.func217, Tryz.ntmps217
  go_wp2_with fail
  refine K.out.mono ?_
  rintro e w1 ⟨rfl, hb⟩
  have HB := Lib.hid hb
  clear hb
  go_wp2_with fail
  refine (K2.out _ HB.out).mono ?_
  rintro e w2 ⟨rfl, hb⟩
  go_wp2
  go_ret
  exact ⟨by rw [HK.out]; rfl, HB.out.trans (hb.mono HB.out.size)⟩
theorem l08Message_c (id k : Int) (W : World) (hn : I64 id) (hk : I64 k) :
    Calls Tryz.prog 186 #[.int .i64 id, .int .i64 k] W fun e w' => e = .returned (.string (pipeQ id k)) ∧ Below W.heap.size W w' := by
  have K := Lib.hid (l08Key_c id ⟨#[47, 113, 47]⟩ W hn (by decide))
  obtain ⟨x, hx⟩ : ∃ x, pipeK id ⟨#[47, 113, 47]⟩ = x := ⟨_, rfl⟩
  have hs : x.size ≤ 1000 := by rw [← hx]; exact pipeK_size hn (by decide)
  have HK := Lib.hid (show pipeQ id k = keyNumS x k ⟨#[]⟩ by rw [← hx]; rfl)
  rw [hx] at K
  have K2 := Lib.hid (fun w (hb : Below W.heap.size W w) => specKeyNum_c x k ⟨#[]⟩ w hk.lo hk.hi (by omega) (by decide))
  clear hn hk hx hs
  go_enter Tryz.func186, Tryz.ntmps186
  go_wp2_with fail
  refine K.out.mono ?_
  rintro e w1 ⟨rfl, hb⟩
  have HB := Lib.hid hb
  clear hb
  go_wp2_with fail
  refine (K2.out _ HB.out).mono ?_
  rintro e w2 ⟨rfl, hb⟩
  go_wp2
  go_ret
  exact ⟨by rw [HK.out]; rfl, HB.out.trans (hb.mono HB.out.size)⟩
theorem l10Signal_c (id k : Int) (W : World) (hn : I64 id) (hk : I64 k) :
    Calls Tryz.prog 190 #[.int .i64 id, .int .i64 k] W fun e w' => e = .returned (.string (sigQ id k)) ∧ Below W.heap.size W w' := by
  have K := Lib.hid (l10Key_c id ⟨#[47, 113, 47]⟩ W hn (by decide))
  obtain ⟨x, hx⟩ : ∃ x, sigK id ⟨#[47, 113, 47]⟩ = x := ⟨_, rfl⟩
  have hs : x.size ≤ 1000 := by rw [← hx]; exact sigK_size hn (by decide)
  have HK := Lib.hid (show sigQ id k = keyNumS x k ⟨#[]⟩ by rw [← hx]; rfl)
  rw [hx] at K
  have K2 := Lib.hid (fun w (hb : Below W.heap.size W w) => specKeyNum_c x k ⟨#[]⟩ w hk.lo hk.hi (by omega) (by decide))
  clear hn hk hx hs
  go_enter Tryz.func190, Tryz.ntmps190
  go_wp2_with fail
  refine K.out.mono ?_
  rintro e w1 ⟨rfl, hb⟩
  have HB := Lib.hid hb
  clear hb
  go_wp2_with fail
  refine (K2.out _ HB.out).mono ?_
  rintro e w2 ⟨rfl, hb⟩
  go_wp2
  go_ret
  exact ⟨by rw [HK.out]; rfl, HB.out.trans (hb.mono HB.out.size)⟩
theorem nameKey_c (s : ByteArray) (W : World) (hs : s.size ≤ 281474976710656) :
    Calls Tryz.prog 155 #[.string s] W fun e w' => e = .returned (.string (nK s)) ∧ Below W.heap.size W w' := by
  have e2 : (⟨#[110, 47]⟩ : ByteArray).size = 2 := rfl
  go_enter Tryz.func155, Tryz.ntmps155
  go_wp2
  go_ret
  exact ⟨rfl, Below.refl _ _⟩
theorem hexOf_c (s : ByteArray) (W : World) :
    Calls Tryz.prog 166 #[.string s] W fun e w' => e = .returned (.string (hexV s)) ∧ Below W.heap.size W w' := by
  have K := Lib.hid (implHex_c s W)
  generalize hexV s = r at *
  generalize hexOk s = b at *
  go_enter Tryz.func166, Tryz.ntmps166
  go_wp2_with fail
  refine K.out.mono ?_
  rintro e w1 ⟨rfl, hb⟩
  go_wp2
  go_ret
  exact ⟨rfl, hb⟩
theorem procKey2_c (id : Int) (t : ByteArray) (W : World) (hn : I64 id) (ht : t.size ≤ 100) (hT : Tabs W) :
    Calls Tryz.prog 123 #[.int .i64 id, .string t] W fun e w' => e = .returned (.string (procK id t)) ∧ Below W.heap.size W w' := procKey_c id t W hn.lo hn.hi ht ⟨hT.1, hT.2.1⟩
theorem implKeyNum2_c (h : ByteArray) (n : Int) (t : ByteArray) (W : World) (hn : I64 n) (hh : h.size ≤ 4000) (htl : t.size ≤ 4000) (hT : Tabs W) :
    Calls Tryz.prog 159 #[.string h, .int .i64 n, .string t] W fun e w' => e = .returned (.string (keyNumS h n t)) ∧ Below W.heap.size W w' := implKeyNum_c h n t W hn.lo hn.hi (by omega) (by omega) hT.1
theorem specKeyNum2_c (h : ByteArray) (n : Int) (t : ByteArray) (W : World) (hn : I64 n) (hh : h.size ≤ 4000) (htl : t.size ≤ 4000) :
    Calls Tryz.prog 176 #[.string h, .int .i64 n, .string t] W fun e w' => e = .returned (.string (keyNumS h n t)) ∧ Below W.heap.size W w' := specKeyNum_c h n t W hn.lo hn.hi (by omega) (by omega)
end Go.Proofs.YtihghflppegnmaaGreatDoor
namespace Go.Proofs.YtihghflppegnmaaGreatDoor
open Go.ChangeShapes Go.WideShapes Go.ChangeAt Go.RowKit
attribute [local go_sem ↓] Go.wp_at_zero Go.wp_at_succ
theorem tabsN {base : Nat} {w : World} (HT : ∀ W, Below base w W → Tabs W) : ∀ W, Below base w W → NumTab W := fun W h => ⟨(HT W h).1, (HT W h).2.1⟩
section
variable (p base : Nat) (v1 v2 v3 : Value) (m m' : Mch)
theorem pNum_c (x : Int) (key : ByteArray) (w : World) (h : MAt w p base v1 v2 v3 m) (ho : MOk 2000000000000 m) (HT : ∀ W, Below base w W → Tabs W) (E : (numP key).run m = (m', x)) :
    Calls Tryz.prog 120 #[.pointer (some ⟨p, 0, none⟩), .string key] w (MStep p base v1 v2 v3 m' (.int .i64 x) w) := by
  obtain ⟨e1, e2⟩ := Prod.mk.inj (show (lookM m key, numOfV (getKeyS m.st key)) = (m', x) from E)
  subst e1 e2
  exact num_c p base v1 v2 v3 m key w h ho (tabsN HT)
theorem pSet_c (x : Unit) (key : ByteArray) (n : Int) (w : World) (h : MAt w p base v1 v2 v3 m) (ho : MOk 2000000000000 m) (hk : key.size ≤ maxLen) (HT : ∀ W, Below base w W → Tabs W) (E : (setP key n).run m = (m', x)) :
    Calls Tryz.prog 122 #[.pointer (some ⟨p, 0, none⟩), .string key, .int .i64 n] w (MStep p base v1 v2 v3 m' (.tuple #[]) w) := by
  obtain ⟨e1, e2⟩ := Prod.mk.inj (show (setM m key n, ()) = (m', x) from E)
  subst e1
  exact setNum_c p base v1 v2 v3 m key n w h ho hk (tabsN HT)
theorem pLay_c (x : Unit) (key val : ByteArray) (w : World) (h : MAt w p base v1 v2 v3 m) (ho : MOk 2000000000000 m) (hk : key.size ≤ maxLen) (hv : val.size ≤ maxLen) (E : (layP key val).run m = (m', x)) :
    Calls Tryz.prog 157 #[.pointer (some ⟨p, 0, none⟩), .string key, .string val] w (MStep p base v1 v2 v3 m' (.tuple #[]) w) := by
  obtain ⟨e1, e2⟩ := Prod.mk.inj (show (layM m key val, ()) = (m', x) from E)
  subst e1
  exact lay_c p base v1 v2 v3 m key val w h ho hk hv
theorem pLook_c (x : ByteArray) (key : ByteArray) (w : World) (h : MAt w p base v1 v2 v3 m) (ho : MOk 2000000000000 m) (E : (lookP key).run m = (m', x)) :
    Calls Tryz.prog 169 #[.pointer (some ⟨p, 0, none⟩), .string key] w (MStep p base v1 v2 v3 m' (.string x) w) := by
  obtain ⟨e1, e2⟩ := Prod.mk.inj (show (lookM m key, getKeyS m.st key) = (m', x) from E)
  subst e1 e2
  exact look_c p base v1 v2 v3 m key w h ho
theorem pBump_c (x : Int) (key : ByteArray) (w : World) (h : MAt w p base v1 v2 v3 m) (ho : MOk 1900000000000 m) (hk : key.size ≤ maxLen) (HT : ∀ W, Below base w W → Tabs W) (E : (bumpP key).run m = (m', x)) :
    Calls Tryz.prog 121 #[.pointer (some ⟨p, 0, none⟩), .string key] w (MStep p base v1 v2 v3 m' (.int .i64 x) w) := by
  rw [bump_run] at E
  obtain ⟨e1, e2⟩ := Prod.mk.inj E
  subst e1 e2
  exact bump_c p base v1 v2 v3 m key w h ho hk (tabsN HT)

set_option maxHeartbeats 2000000 in
theorem pMsg_c (x : ByteArray) (key : ByteArray) (w : World) (h : MAt w p base v1 v2 v3 m) (ho : MOk 2000000000000 m) (HT : ∀ W, Below base w W → Tabs W) (E : (msgP key).run m = (m', x)) :
    Calls Tryz.prog 167 #[.pointer (some ⟨p, 0, none⟩), .string key] w (MStep p base v1 v2 v3 m' (.string x) w) := by
  obtain ⟨e1, e2⟩ := Prod.mk.inj (show (lookM m key, msgV (getKeyS m.st key)) = (m', x) from E)
  subst e1 e2
  have H := Lib.hid h
  have K := Lib.hid (look_c p base v1 v2 v3 m key w h ho)
  have hs := get_sz ho.sz key
  have HTT := Lib.hid HT
  clear h ho HT E
  generalize getKeyS m.st key = s at *
  have KN := Lib.hid (fun W (h : Tabs W) => messageOf_c s W (by omega) h.2.2)
  generalize msgV s = n at *
  go_enter Tryz.func167, Tryz.ntmps167
  go_wp2_with fail
  refine K.out.mono ?_
  rintro e w1 ⟨u1, u2, u3, rfl, hm, hg, q1, q2, q3⟩
  have HM := Lib.hid hm
  have HG := Lib.hid hg
  have Q1 := Lib.hid q1
  have Q2 := Lib.hid q2
  have Q3 := Lib.hid q3
  have HW := Lib.hid (HTT.out w1 (H.out.grow hg))
  clear hm hg q1 q2 q3 K
  go_wp2_with fail
  refine (KN.out _ HW.out).mono ?_
  rintro e w2 ⟨rfl, hb⟩
  have HEND := Lib.hid (MStep.next HG.out Q1.out Q2.out Q3.out (HM.out.step hb (.string n)))
  clear hb
  go_wp2
  go_ret
  exact HEND.out

set_option maxHeartbeats 2000000 in
theorem pBlock_c (x : ByteArray) (id place : Int) (w : World) (h : MAt w p base v1 v2 v3 m) (ho : MOk 2000000000000 m) (hn : I64 id) (hp : I64 place) (HT : ∀ W, Below base w W → Tabs W) (E : (blockP id place).run m = (m', x)) :
    Calls Tryz.prog 205 #[.pointer (some ⟨p, 0, none⟩), .int .i64 id, .int .i64 place] w (MStep p base v1 v2 v3 m' (.string x) w) := by
  obtain ⟨e1, e2⟩ := Prod.mk.inj (show (lookM m (blockK id place), unhexV (getKeyS m.st (blockK id place))) = (m', x) from E)
  subst e1 e2
  have H := Lib.hid h
  have KK := Lib.hid (blockKey_c id place w hn hp (HT w (Below.refl _ _)))
  generalize blockK id place = key at *
  have K := Lib.hid (fun W (hb : Below w.heap.size w W) => look_c p base v1 v2 v3 m key W (h.below hb) ho)
  have hs := get_sz ho.sz key
  have HTT := Lib.hid HT
  clear h ho HT E hn hp
  generalize getKeyS m.st key = s at *
  have KN := Lib.hid (fun W (h : Tabs W) => implUnhex_c s W (by omega) h.2.2)
  generalize unhexV s = n at *
  generalize unhexOk s = b at *
  go_enter Tryz.func205, Tryz.ntmps205
  go_wp2_with fail
  refine KK.out.mono ?_
  rintro e w0 ⟨rfl, hb0⟩
  have HB0 := Lib.hid hb0
  clear hb0
  go_wp2_with fail
  refine (K.out _ HB0.out).mono ?_
  rintro e w1 ⟨u1, u2, u3, rfl, hm, hg, q1, q2, q3⟩
  have HM := Lib.hid hm
  have HG := Lib.hid ((Grow3.of_below HB0.out).trans (.inl rfl) (.inl rfl) (.inl rfl) hg)
  have Q1 := Lib.hid ((OwnOr.trans (.inl rfl : OwnOr w v1 v1) q1 HB0.out.size))
  have Q2 := Lib.hid ((OwnOr.trans (.inl rfl : OwnOr w v2 v2) q2 HB0.out.size))
  have Q3 := Lib.hid ((OwnOr.trans (.inl rfl : OwnOr w v3 v3) q3 HB0.out.size))
  have HW := Lib.hid (HTT.out w1 (H.out.grow HG.out))
  clear hm hg q1 q2 q3 K
  go_wp2_with fail
  refine (KN.out _ HW.out).mono ?_
  rintro e w2 ⟨rfl, hb⟩
  have HEND := Lib.hid (MStep.next HG.out Q1.out Q2.out Q3.out (HM.out.step hb (.string n)))
  clear hb
  go_wp2
  go_ret
  exact HEND.out

/-- The machine steps to m'; the keys lie in a row of their own, apart from all that the machine holds. -/
structure KAt (w : World) (p : Nat) (u1 u2 u3 : Value) (a : Option Addr) (keys : List ByteArray) : Prop where
  rd : Reads w a 1 encS keys
  far : ∀ b o, a = some ⟨b, o, none⟩ → b < w.heap.size ∧ b ≠ p ∧ u1.ownBlock ≠ some b ∧ u2.ownBlock ≠ some b ∧ u3.ownBlock ≠ some b
end
theorem Reads.grow {α : Type} {w w' : World} {a : Option Addr} {k : Nat} {enc : α → List Value} {xs : List α} (h : Reads w a k enc xs) (hs : w.heap.size ≤ w'.heap.size) (hb : ∀ b o, a = some ⟨b, o, none⟩ → w'.heap[b]? = w.heap[b]?) : Reads w' a k enc xs := by
  rcases h with h | ⟨b, o, rfl, hlt, h⟩
  · exact .inl h
  · refine .inr ⟨b, o, rfl, Nat.lt_of_lt_of_le hlt hs, ?_⟩
    have e := hb b o rfl
    intro i x hx j v hv
    rw [← h i x hx j v hv]
    simp only [World.cell?, e]
theorem KAt.grow {w w' : World} {p : Nat} {u1 u2 u3 x1 x2 x3 : Value} {a : Option Addr} {keys : List ByteArray} (h : KAt w p u1 u2 u3 a keys) (hg : Grow3 w w' p u1 u2 u3) (q1 : OwnOr w u1 x1) (q2 : OwnOr w u2 x2) (q3 : OwnOr w u3 x3) : KAt w' p x1 x2 x3 a keys :=
  ⟨h.rd.grow hg.size (fun b o e => by obtain ⟨h1, h2, h3, h4, h5⟩ := h.far b o e; exact hg.block b h1 h2 h3 h4 h5),
   fun b o e => by obtain ⟨h1, h2, h3, h4, h5⟩ := h.far b o e; exact ⟨Nat.lt_of_lt_of_le h1 hg.size, h2, q1.ne h1 h3, q2.ne h1 h4, q3.ne h1 h5⟩⟩
/-- What 'under' does. -/
def MKeys (p base : Nat) (v1 v2 v3 : Value) (m' : Mch) (keys : List ByteArray) (w : World) (e : Ending) (w' : World) : Prop :=
  ∃ u1 u2 u3 a c, e = .returned (.slice a keys.length c) ∧ MAt w' p base u1 u2 u3 m' ∧ Grow3 w w' p v1 v2 v3 ∧ OwnOr w v1 u1 ∧ OwnOr w v2 u2 ∧ OwnOr w v3 u3 ∧ KAt w' p u1 u2 u3 a keys

set_option maxHeartbeats 2000000 in
theorem pUnder_c (p base : Nat) (v1 v2 v3 : Value) (m m' : Mch) (ks : List ByteArray) (pre : ByteArray) (w : World) (h : MAt w p base v1 v2 v3 m) (ho : MOk 2000000000000 m) (hp : pre.size ≤ 1000) (E : (underP pre).run m = (m', ks)) :
    Calls Tryz.prog 160 #[.pointer (some ⟨p, 0, none⟩), .string pre] w (MKeys p base v1 v2 v3 m' ks w) := by
  obtain ⟨e1, e2⟩ := Prod.mk.inj (show (lookM m (starK pre), keysU m.st pre) = (m', ks) from E)
  subst e1 e2
  clear E
  have H := Lib.hid h
  have K := Lib.hid (addSpan_c v2 base m.rs (starK pre) w (by have := ho.l2; omega) h.o2 h.hb)
  have c1 := h.box.cell 1 _ rfl
  have hl := ho.l1
  have HSZ := Lib.hid ho.sz
  have had : ∀ t, binOp .add t (.string pre) (.string ⟨#[42]⟩) = pure (.string (starK pre)) := fun t => by
    rw [binOp_string_add]
    unfold Op.stringOp
    simp only
    rw [if_neg]
    · rfl
    · show ¬ (((pre.size + 1 : Nat) : Int) > 9223372036854775807)
      omega
  clear h ho
  go_enter Tryz.func160, Tryz.ntmps160
  go_wp2_with fail
  refine K.out.mono ?_
  rintro e w1 ⟨u, rfl, ho, hg, hor⟩
  obtain ⟨au, ku, hvu, _⟩ := reads_of_owns encS_len ho
  subst hvu
  obtain ⟨hs, hgr, hbx⟩ := H.out.set2 (xs := addS m.rs (starK pre)) ho hg hor
  have HS := Lib.hid hs
  have HG := Lib.hid hgr
  have HOR := Lib.hid hor
  have d1 := hbx.cell 1 _ rfl
  have z1 := hbx.free 1
  have d0 := hbx.cell 0 _ rfl
  obtain ⟨a1, k1, hv1, hrd⟩ := reads_of_owns encC_len hs.o1
  subst hv1
  have KU := Lib.hid (implKeysUnder_c a1 k1 m.st pre _ (by omega) hrd (fun x hx => by have := HSZ.out x hx; unfold maxLen; omega) (by unfold maxLen; omega))
  clear ho hg hor hs hgr hbx c1 hrd K
  go_wp2_with fail
  refine KU.out.mono ?_
  rintro e w3 ⟨vk, rfl, hok, hb3⟩
  have hlt := hok.lt
  obtain ⟨ak, ck, hvk, rk, _, _⟩ := reads_of_owns' encS_len hok
  subst hvk
  have HS3 := Lib.hid (HS.out.below hb3)
  have HEND := Lib.hid (show MKeys p base (.slice a1 m.st.length k1) v2 v3 (lookM m (starK pre)) (keysU m.st pre) w (.returned (.slice ak (keysU m.st pre).length ck)) w3 from
    ⟨_, _, _, ak, ck, rfl, HS3.out, HG.out.trans (.inl rfl) HOR.out (.inl rfl) (Grow3.of_below hb3), .inl rfl, HOR.out, .inl rfl, rk, fun b o e => by
      subst e
      have hb := hlt b rfl
      refine ⟨hb.2, ?_, ?_, ?_, ?_⟩
      · have := HS.out.box.1; omega
      · intro e; have := (HS.out.o1.lt b e).2; omega
      · intro e; have := (HS.out.o2.lt b e).2; omega
      · intro e; have := (HS.out.o3.lt b e).2; omega⟩)
  clear hb3 hok KU HS HG HOR d0 d1 z1 rk hlt HS3
  go_wp2
  go_ret
  exact HEND.out
end Go.Proofs.YtihghflppegnmaaGreatDoor
namespace Go.Proofs.YtihghflppegnmaaGreatDoor
open Go.ChangeShapes Go.WideShapes Go.ChangeAt Go.RowKit
attribute [local go_sem ↓] Go.wp_at_zero Go.wp_at_succ
theorem kle {n : Nat} (h : n ≤ 1000) : n ≤ maxLen := Nat.le_trans h (by decide)

set_option maxRecDepth 100000 in
set_option maxHeartbeats 8000000 in
theorem pFileOf_c (p base : Nat) (v1 v2 v3 : Value) (m m' : Mch) (x : Int) (name : ByteArray) (w : World) (h : MAt w p base v1 v2 v3 m) (ho : MOk 1800000000000 m) (hs : name.size ≤ 1000) (HT : ∀ W, Below base w W → Tabs W) (E : (fileOfP name).run m = (m', x)) :
    Calls Tryz.prog 154 #[.pointer (some ⟨p, 0, none⟩), .string name] w (MStep p base v1 v2 v3 m' (.int .i64 x) w) := by
  have H := Lib.hid h
  have HTT := Lib.hid HT
  have O0 := Lib.hid ho
  have HE := Lib.hid E
  clear h ho HT E
  by_cases c1 : nameOkB name = true
  · have C1 := Lib.hid c1
    clear c1
    have KNname := Lib.hid (fun W => implNameOk_c name W (kle hs))
    rw [C1.out] at KNname
    obtain ⟨m1, x1, E1⟩ : ∃ aa bb, (numP (nK name)).run m = (aa, bb) := ⟨_, _, rfl⟩
    have bx1 := numP_bounds E1
    have O1 := Lib.hid ((numP_cost _).okE O0.out E1)
    have HE1 := Lib.hid E1
    clear E1
    obtain ⟨e1, e2⟩ := Prod.mk.inj ((show (m1, x1) = (fileOfP name).run m from by
      unfold fileOfP
      simp only [Pg.run_bind, Pg.run_pure, Pg.run_ret, ↓reduceIte, Bool.false_eq_true, Bool.true_and, Bool.and_true, Bool.and_self, Bool.false_and, Bool.and_false, or_false, false_or, true_or, or_true, ne_eq, not_true_eq_false, not_false_eq_true, eq_self_iff_true, decide_true, decide_false, C1.out, HE1.out]).trans HE.out)
    subst e1 e2
    have G0 := Lib.hid (show ∀ m' r e w', MStep p base v1 v2 v3 m' r w e w' → MStep p base v1 v2 v3 m' r w e w' from fun _ _ _ _ h => h)
    have M0 := Lib.hid H.out
    have B0 := Lib.hid (Below.refl base w)
    clear HE
    go_enter Tryz.func154, Tryz.ntmps154
    go_wp2_with (first | (go_at_call 153; with_reducible refine (KNname.out _).mono ?_; rintro e w' ⟨rfl, rfl⟩) | fail)
    refine (nameKey_c name w (by omega)).mono ?_
    rintro e w1 ⟨rfl, hb⟩
    have G1 := Lib.hid (show ∀ m' r e w', MStep p base v1 v2 v3 m' r w1 e w' → MStep p base v1 v2 v3 m' r w e w' from fun _ _ _ _ h => G0.out _ _ _ _ (MStep.next (Grow3.of_below hb) (.inl rfl) (.inl rfl) (.inl rfl) h))
    have B1 := Lib.hid (B0.out.trans (hb.mono M0.out.hb))
    have M1 := Lib.hid (M0.out.below hb)
    clear hb G0 M0 B0
    have K2 := Lib.hid (pNum_c p base v1 v2 v3 m m1 x1 (nK name) w1 M1.out (O0.out.mono (by omega)) (fun W hW => HTT.out W (B1.out.trans hW)) HE1.out)
    go_wp2_with (first | (go_at_call 153; with_reducible refine (KNname.out _).mono ?_; rintro e w' ⟨rfl, rfl⟩) | fail)
    refine K2.out.mono ?_
    rintro e w2 ⟨x21, x22, x23, rfl, hm, hg, q1, q2, q3⟩
    have G2 := Lib.hid (show ∀ m' r e w', MStep p base x21 x22 x23 m' r w2 e w' → MStep p base v1 v2 v3 m' r w e w' from fun _ _ _ _ h => G1.out _ _ _ _ (MStep.next hg q1 q2 q3 h))
    have B2 := Lib.hid (B1.out.trans (M1.out.grow hg))
    have M2 := Lib.hid hm
    clear hm hg q1 q2 q3 K2 G1 M1 B1
    have HEND := Lib.hid (show MStep p base v1 v2 v3 _ (.int .i64 x1) w (.returned (.int .i64 x1)) w2 from G2.out _ _ _ _ (M2.out.step (Below.refl _ _) _))
    clear G2 M2 B2
    go_wp2_with (first | (go_at_call 153; with_reducible refine (KNname.out _).mono ?_; rintro e w' ⟨rfl, rfl⟩) | fail)
    go_ret
    exact HEND.out
  · have C1 := Lib.hid (Bool.eq_false_iff.2 c1)
    clear c1
    have KNname := Lib.hid (fun W => implNameOk_c name W (kle hs))
    rw [C1.out] at KNname
    obtain ⟨e1, e2⟩ := Prod.mk.inj ((show (m, 0) = (fileOfP name).run m from by
      unfold fileOfP
      simp only [Pg.run_bind, Pg.run_pure, Pg.run_ret, ↓reduceIte, Bool.false_eq_true, Bool.true_and, Bool.and_true, Bool.and_self, Bool.false_and, Bool.and_false, or_false, false_or, true_or, or_true, ne_eq, not_true_eq_false, not_false_eq_true, eq_self_iff_true, decide_true, decide_false, C1.out]).trans HE.out)
    subst e1 e2
    have G0 := Lib.hid (show ∀ m' r e w', MStep p base v1 v2 v3 m' r w e w' → MStep p base v1 v2 v3 m' r w e w' from fun _ _ _ _ h => h)
    have M0 := Lib.hid H.out
    have B0 := Lib.hid (Below.refl base w)
    clear HE
    go_enter Tryz.func154, Tryz.ntmps154
    have HEND := Lib.hid (show MStep p base v1 v2 v3 _ (.int .i64 0) w (.returned (.int .i64 0)) w from G0.out _ _ _ _ (M0.out.step (Below.refl _ _) _))
    clear G0 M0 B0
    go_wp2_with (first | (go_at_call 153; with_reducible refine (KNname.out _).mono ?_; rintro e w' ⟨rfl, rfl⟩) | fail)
    go_ret
    exact HEND.out

set_option maxRecDepth 100000 in
set_option maxHeartbeats 8000000 in
theorem pMake_c (p base : Nat) (v1 v2 v3 : Value) (m m' : Mch) (x y : Int) (name : ByteArray) (w : World) (h : MAt w p base v1 v2 v3 m) (ho : MOk 1700000000000 m) (hs : name.size ≤ 900) (HT : ∀ W, Below base w W → Tabs W) (E : (makeP name).run m = (m', (x, y))) :
    Calls Tryz.prog 98 #[.pointer (some ⟨p, 0, none⟩), .string name] w (MStep p base v1 v2 v3 m' (.tuple #[.int .i64 x, .int .i64 y]) w) := by
  have H := Lib.hid h
  have HTT := Lib.hid HT
  have O0 := Lib.hid ho
  have HE := Lib.hid E
  clear h ho HT E
  by_cases c1 : nameOkB name = true
  · have C1 := Lib.hid c1
    clear c1
    have KNname := Lib.hid (fun W => implNameOk_c name W (kle (Nat.le_trans hs (by decide))))
    rw [C1.out] at KNname
    obtain ⟨m1, x1, E1⟩ : ∃ aa bb, (fileOfP name).run m = (aa, bb) := ⟨_, _, rfl⟩
    have bx1 := fileOfP_bounds E1
    have O1 := Lib.hid ((fileOfP_cost _).okE O0.out E1)
    have HE1 := Lib.hid E1
    clear E1
    by_cases c2 : x1 = 0
    · subst c2
      obtain ⟨m2, x2, E2⟩ : ∃ aa bb, (numP (cFile)).run m1 = (aa, bb) := ⟨_, _, rfl⟩
      have bx2 := numP_bounds E2
      have O2 := Lib.hid ((numP_cost _).okE O1.out E2)
      have HE2 := Lib.hid E2
      clear E2
      by_cases c3 : 20 ≤ x2
      · obtain ⟨e1, e2⟩ := Prod.mk.inj ((show (m2, (0, 3)) = (makeP name).run m from by
          unfold makeP
          simp only [Pg.run_bind, Pg.run_pure, Pg.run_ret, ↓reduceIte, Bool.false_eq_true, Bool.true_and, Bool.and_true, Bool.and_self, Bool.false_and, Bool.and_false, or_false, false_or, true_or, or_true, ne_eq, not_true_eq_false, not_false_eq_true, eq_self_iff_true, decide_true, decide_false, C1.out, HE1.out, HE2.out, c3]).trans HE.out)
        obtain ⟨e2, e3⟩ := Prod.mk.inj e2
        subst e1 e2 e3
        have G0 := Lib.hid (show ∀ m' r e w', MStep p base v1 v2 v3 m' r w e w' → MStep p base v1 v2 v3 m' r w e w' from fun _ _ _ _ h => h)
        have M0 := Lib.hid H.out
        have B0 := Lib.hid (Below.refl base w)
        clear HE
        go_enter Tryz.func98, Tryz.ntmps98
        have K1 := Lib.hid (pFileOf_c p base v1 v2 v3 m m1 (0) name w M0.out (O0.out.mono (by omega)) (Nat.le_trans hs (by decide)) (fun W hW => HTT.out W (B0.out.trans hW)) HE1.out)
        go_wp2_with (first | (go_at_call 153; with_reducible refine (KNname.out _).mono ?_; rintro e w' ⟨rfl, rfl⟩) | fail)
        refine K1.out.mono ?_
        rintro e w1 ⟨x11, x12, x13, rfl, hm, hg, q1, q2, q3⟩
        have G1 := Lib.hid (show ∀ m' r e w', MStep p base x11 x12 x13 m' r w1 e w' → MStep p base v1 v2 v3 m' r w e w' from fun _ _ _ _ h => G0.out _ _ _ _ (MStep.next hg q1 q2 q3 h))
        have B1 := Lib.hid (B0.out.trans (M0.out.grow hg))
        have M1 := Lib.hid hm
        clear hm hg q1 q2 q3 K1 G0 M0 B0
        have K2 := Lib.hid (pNum_c p base x11 x12 x13 m1 m2 x2 (cFile) w1 M1.out (O1.out.mono (by omega)) (fun W hW => HTT.out W (B1.out.trans hW)) HE2.out)
        go_wp2_with (first | (go_at_call 153; with_reducible refine (KNname.out _).mono ?_; rintro e w' ⟨rfl, rfl⟩) | fail)
        refine K2.out.mono ?_
        rintro e w2 ⟨x21, x22, x23, rfl, hm, hg, q1, q2, q3⟩
        have G2 := Lib.hid (show ∀ m' r e w', MStep p base x21 x22 x23 m' r w2 e w' → MStep p base v1 v2 v3 m' r w e w' from fun _ _ _ _ h => G1.out _ _ _ _ (MStep.next hg q1 q2 q3 h))
        have B2 := Lib.hid (B1.out.trans (M1.out.grow hg))
        have M2 := Lib.hid hm
        clear hm hg q1 q2 q3 K2 G1 M1 B1
        have HEND := Lib.hid (show MStep p base v1 v2 v3 _ (.tuple #[.int .i64 0, .int .i64 3]) w (.returned (.tuple #[.int .i64 0, .int .i64 3])) w2 from G2.out _ _ _ _ (M2.out.step (Below.refl _ _) _))
        clear G2 M2 B2
        go_wp2_with (first | (go_at_call 153; with_reducible refine (KNname.out _).mono ?_; rintro e w' ⟨rfl, rfl⟩) | fail)
        go_ret2
        exact HEND.out
      · obtain ⟨m3, x3, E3⟩ : ∃ aa bb, (bumpP (cFile)).run m2 = (aa, bb) := ⟨_, _, rfl⟩
        have bx3 := bumpP_bounds E3
        have O3 := Lib.hid ((bumpP_cost _).okE O2.out E3)
        have HE3 := Lib.hid E3
        clear E3
        obtain ⟨m4, u4, E4⟩ : ∃ aa bb, (setP (nK name) (x3)).run m3 = (aa, bb) := ⟨_, _, rfl⟩
        have O4 := Lib.hid ((setP_cost _ _).okE O3.out E4)
        have HE4 := Lib.hid E4
        clear E4
        obtain ⟨m5, u5, E5⟩ : ∃ aa bb, (setP (linksK x3) (1)).run m4 = (aa, bb) := ⟨_, _, rfl⟩
        have O5 := Lib.hid ((setP_cost _ _).okE O4.out E5)
        have HE5 := Lib.hid E5
        clear E5
        obtain ⟨e1, e2⟩ := Prod.mk.inj ((show (m5, (x3, 0)) = (makeP name).run m from by
          unfold makeP
          simp only [Pg.run_bind, Pg.run_pure, Pg.run_ret, ↓reduceIte, Bool.false_eq_true, Bool.true_and, Bool.and_true, Bool.and_self, Bool.false_and, Bool.and_false, or_false, false_or, true_or, or_true, ne_eq, not_true_eq_false, not_false_eq_true, eq_self_iff_true, decide_true, decide_false, C1.out, HE1.out, HE2.out, c3, HE3.out, HE4.out, HE5.out]).trans HE.out)
        obtain ⟨e2, e3⟩ := Prod.mk.inj e2
        subst e1 e2 e3
        have G0 := Lib.hid (show ∀ m' r e w', MStep p base v1 v2 v3 m' r w e w' → MStep p base v1 v2 v3 m' r w e w' from fun _ _ _ _ h => h)
        have M0 := Lib.hid H.out
        have B0 := Lib.hid (Below.refl base w)
        clear HE
        go_enter Tryz.func98, Tryz.ntmps98
        have K1 := Lib.hid (pFileOf_c p base v1 v2 v3 m m1 (0) name w M0.out (O0.out.mono (by omega)) (Nat.le_trans hs (by decide)) (fun W hW => HTT.out W (B0.out.trans hW)) HE1.out)
        go_wp2_with (first | (go_at_call 153; with_reducible refine (KNname.out _).mono ?_; rintro e w' ⟨rfl, rfl⟩) | fail)
        refine K1.out.mono ?_
        rintro e w1 ⟨x11, x12, x13, rfl, hm, hg, q1, q2, q3⟩
        have G1 := Lib.hid (show ∀ m' r e w', MStep p base x11 x12 x13 m' r w1 e w' → MStep p base v1 v2 v3 m' r w e w' from fun _ _ _ _ h => G0.out _ _ _ _ (MStep.next hg q1 q2 q3 h))
        have B1 := Lib.hid (B0.out.trans (M0.out.grow hg))
        have M1 := Lib.hid hm
        clear hm hg q1 q2 q3 K1 G0 M0 B0
        have K2 := Lib.hid (pNum_c p base x11 x12 x13 m1 m2 x2 (cFile) w1 M1.out (O1.out.mono (by omega)) (fun W hW => HTT.out W (B1.out.trans hW)) HE2.out)
        go_wp2_with (first | (go_at_call 153; with_reducible refine (KNname.out _).mono ?_; rintro e w' ⟨rfl, rfl⟩) | fail)
        refine K2.out.mono ?_
        rintro e w2 ⟨x21, x22, x23, rfl, hm, hg, q1, q2, q3⟩
        have G2 := Lib.hid (show ∀ m' r e w', MStep p base x21 x22 x23 m' r w2 e w' → MStep p base v1 v2 v3 m' r w e w' from fun _ _ _ _ h => G1.out _ _ _ _ (MStep.next hg q1 q2 q3 h))
        have B2 := Lib.hid (B1.out.trans (M1.out.grow hg))
        have M2 := Lib.hid hm
        clear hm hg q1 q2 q3 K2 G1 M1 B1
        have K3 := Lib.hid (pBump_c p base x21 x22 x23 m2 m3 x3 (cFile) w2 M2.out (O2.out.mono (by omega)) (by decide) (fun W hW => HTT.out W (B2.out.trans hW)) HE3.out)
        go_wp2_with (first | (go_at_call 153; with_reducible refine (KNname.out _).mono ?_; rintro e w' ⟨rfl, rfl⟩) | fail)
        refine K3.out.mono ?_
        rintro e w3 ⟨x31, x32, x33, rfl, hm, hg, q1, q2, q3⟩
        have G3 := Lib.hid (show ∀ m' r e w', MStep p base x31 x32 x33 m' r w3 e w' → MStep p base v1 v2 v3 m' r w e w' from fun _ _ _ _ h => G2.out _ _ _ _ (MStep.next hg q1 q2 q3 h))
        have B3 := Lib.hid (B2.out.trans (M2.out.grow hg))
        have M3 := Lib.hid hm
        clear hm hg q1 q2 q3 K3 G2 M2 B2
        go_wp2_with (first | (go_at_call 153; with_reducible refine (KNname.out _).mono ?_; rintro e w' ⟨rfl, rfl⟩) | fail)
        refine (nameKey_c name w3 (by omega)).mono ?_
        rintro e w4 ⟨rfl, hb⟩
        have G4 := Lib.hid (show ∀ m' r e w', MStep p base x31 x32 x33 m' r w4 e w' → MStep p base v1 v2 v3 m' r w e w' from fun _ _ _ _ h => G3.out _ _ _ _ (MStep.next (Grow3.of_below hb) (.inl rfl) (.inl rfl) (.inl rfl) h))
        have B4 := Lib.hid (B3.out.trans (hb.mono M3.out.hb))
        have M4 := Lib.hid (M3.out.below hb)
        clear hb G3 M3 B3
        have K5 := Lib.hid (pSet_c p base x31 x32 x33 m3 m4 u4 (nK name) (x3) w4 M4.out (O3.out.mono (by omega)) (kle (show (nK name).size ≤ 1000 by have := @nK_size name; omega)) (fun W hW => HTT.out W (B4.out.trans hW)) HE4.out)
        go_wp2_with (first | (go_at_call 153; with_reducible refine (KNname.out _).mono ?_; rintro e w' ⟨rfl, rfl⟩) | fail)
        refine K5.out.mono ?_
        rintro e w5 ⟨x51, x52, x53, rfl, hm, hg, q1, q2, q3⟩
        have G5 := Lib.hid (show ∀ m' r e w', MStep p base x51 x52 x53 m' r w5 e w' → MStep p base v1 v2 v3 m' r w e w' from fun _ _ _ _ h => G4.out _ _ _ _ (MStep.next hg q1 q2 q3 h))
        have B5 := Lib.hid (B4.out.trans (M4.out.grow hg))
        have M5 := Lib.hid hm
        clear hm hg q1 q2 q3 K5 G4 M4 B4
        go_wp2_with (first | (go_at_call 153; with_reducible refine (KNname.out _).mono ?_; rintro e w' ⟨rfl, rfl⟩) | fail)
        refine (linksKey_c x3 w5 (i64_of bx3) (HTT.out _ B5.out)).mono ?_
        rintro e w6 ⟨rfl, hb⟩
        have G6 := Lib.hid (show ∀ m' r e w', MStep p base x51 x52 x53 m' r w6 e w' → MStep p base v1 v2 v3 m' r w e w' from fun _ _ _ _ h => G5.out _ _ _ _ (MStep.next (Grow3.of_below hb) (.inl rfl) (.inl rfl) (.inl rfl) h))
        have B6 := Lib.hid (B5.out.trans (hb.mono M5.out.hb))
        have M6 := Lib.hid (M5.out.below hb)
        clear hb G5 M5 B5
        have K7 := Lib.hid (pSet_c p base x51 x52 x53 m4 m5 u5 (linksK x3) (1) w6 M6.out (O4.out.mono (by omega)) (kle (linksK_size (i64_of bx3))) (fun W hW => HTT.out W (B6.out.trans hW)) HE5.out)
        go_wp2_with (first | (go_at_call 153; with_reducible refine (KNname.out _).mono ?_; rintro e w' ⟨rfl, rfl⟩) | fail)
        refine K7.out.mono ?_
        rintro e w7 ⟨x71, x72, x73, rfl, hm, hg, q1, q2, q3⟩
        have G7 := Lib.hid (show ∀ m' r e w', MStep p base x71 x72 x73 m' r w7 e w' → MStep p base v1 v2 v3 m' r w e w' from fun _ _ _ _ h => G6.out _ _ _ _ (MStep.next hg q1 q2 q3 h))
        have B7 := Lib.hid (B6.out.trans (M6.out.grow hg))
        have M7 := Lib.hid hm
        clear hm hg q1 q2 q3 K7 G6 M6 B6
        have HEND := Lib.hid (show MStep p base v1 v2 v3 _ (.tuple #[.int .i64 x3, .int .i64 0]) w (.returned (.tuple #[.int .i64 x3, .int .i64 0])) w7 from G7.out _ _ _ _ (M7.out.step (Below.refl _ _) _))
        clear G7 M7 B7
        go_wp2_with (first | (go_at_call 153; with_reducible refine (KNname.out _).mono ?_; rintro e w' ⟨rfl, rfl⟩) | fail)
        go_ret2
        exact HEND.out
    · obtain ⟨e1, e2⟩ := Prod.mk.inj ((show (m1, (0, 1)) = (makeP name).run m from by
        unfold makeP
        simp only [Pg.run_bind, Pg.run_pure, Pg.run_ret, ↓reduceIte, Bool.false_eq_true, Bool.true_and, Bool.and_true, Bool.and_self, Bool.false_and, Bool.and_false, or_false, false_or, true_or, or_true, ne_eq, not_true_eq_false, not_false_eq_true, eq_self_iff_true, decide_true, decide_false, C1.out, HE1.out, c2]).trans HE.out)
      obtain ⟨e2, e3⟩ := Prod.mk.inj e2
      subst e1 e2 e3
      have G0 := Lib.hid (show ∀ m' r e w', MStep p base v1 v2 v3 m' r w e w' → MStep p base v1 v2 v3 m' r w e w' from fun _ _ _ _ h => h)
      have M0 := Lib.hid H.out
      have B0 := Lib.hid (Below.refl base w)
      clear HE
      go_enter Tryz.func98, Tryz.ntmps98
      have K1 := Lib.hid (pFileOf_c p base v1 v2 v3 m m1 x1 name w M0.out (O0.out.mono (by omega)) (Nat.le_trans hs (by decide)) (fun W hW => HTT.out W (B0.out.trans hW)) HE1.out)
      go_wp2_with (first | (go_at_call 153; with_reducible refine (KNname.out _).mono ?_; rintro e w' ⟨rfl, rfl⟩) | fail)
      refine K1.out.mono ?_
      rintro e w1 ⟨x11, x12, x13, rfl, hm, hg, q1, q2, q3⟩
      have G1 := Lib.hid (show ∀ m' r e w', MStep p base x11 x12 x13 m' r w1 e w' → MStep p base v1 v2 v3 m' r w e w' from fun _ _ _ _ h => G0.out _ _ _ _ (MStep.next hg q1 q2 q3 h))
      have B1 := Lib.hid (B0.out.trans (M0.out.grow hg))
      have M1 := Lib.hid hm
      clear hm hg q1 q2 q3 K1 G0 M0 B0
      have HEND := Lib.hid (show MStep p base v1 v2 v3 _ (.tuple #[.int .i64 0, .int .i64 1]) w (.returned (.tuple #[.int .i64 0, .int .i64 1])) w1 from G1.out _ _ _ _ (M1.out.step (Below.refl _ _) _))
      clear G1 M1 B1
      go_wp2_with (first | (go_at_call 153; with_reducible refine (KNname.out _).mono ?_; rintro e w' ⟨rfl, rfl⟩) | fail)
      go_ret2
      exact HEND.out
  · have C1 := Lib.hid (Bool.eq_false_iff.2 c1)
    clear c1
    have KNname := Lib.hid (fun W => implNameOk_c name W (kle (Nat.le_trans hs (by decide))))
    rw [C1.out] at KNname
    obtain ⟨e1, e2⟩ := Prod.mk.inj ((show (m, (0, 4)) = (makeP name).run m from by
      unfold makeP
      simp only [Pg.run_bind, Pg.run_pure, Pg.run_ret, ↓reduceIte, Bool.false_eq_true, Bool.true_and, Bool.and_true, Bool.and_self, Bool.false_and, Bool.and_false, or_false, false_or, true_or, or_true, ne_eq, not_true_eq_false, not_false_eq_true, eq_self_iff_true, decide_true, decide_false, C1.out]).trans HE.out)
    obtain ⟨e2, e3⟩ := Prod.mk.inj e2
    subst e1 e2 e3
    have G0 := Lib.hid (show ∀ m' r e w', MStep p base v1 v2 v3 m' r w e w' → MStep p base v1 v2 v3 m' r w e w' from fun _ _ _ _ h => h)
    have M0 := Lib.hid H.out
    have B0 := Lib.hid (Below.refl base w)
    clear HE
    go_enter Tryz.func98, Tryz.ntmps98
    have HEND := Lib.hid (show MStep p base v1 v2 v3 _ (.tuple #[.int .i64 0, .int .i64 4]) w (.returned (.tuple #[.int .i64 0, .int .i64 4])) w from G0.out _ _ _ _ (M0.out.step (Below.refl _ _) _))
    clear G0 M0 B0
    go_wp2_with (first | (go_at_call 153; with_reducible refine (KNname.out _).mono ?_; rintro e w' ⟨rfl, rfl⟩) | fail)
    go_ret2
    exact HEND.out

set_option maxRecDepth 100000 in
set_option maxHeartbeats 8000000 in
theorem pLink_c (p base : Nat) (v1 v2 v3 : Value) (m m' : Mch) (x : Int) (a : ByteArray) (b : ByteArray) (w : World) (h : MAt w p base v1 v2 v3 m) (ho : MOk 1700000000000 m) (hs : a.size ≤ 900) (hs2 : b.size ≤ 900) (HT : ∀ W, Below base w W → Tabs W) (E : (linkP a b).run m = (m', x)) :
    Calls Tryz.prog 99 #[.pointer (some ⟨p, 0, none⟩), .string a, .string b] w (MStep p base v1 v2 v3 m' (.int .i64 x) w) := by
  have H := Lib.hid h
  have HTT := Lib.hid HT
  have O0 := Lib.hid ho
  have HE := Lib.hid E
  clear h ho HT E
  by_cases c1 : nameOkB a = true
  · have C1 := Lib.hid c1
    clear c1
    have KNa := Lib.hid (fun W => implNameOk_c a W (kle (Nat.le_trans hs (by decide))))
    rw [C1.out] at KNa
    by_cases c2 : nameOkB b = true
    · have C2 := Lib.hid c2
      clear c2
      have KNb := Lib.hid (fun W => implNameOk_c b W (kle (Nat.le_trans hs2 (by decide))))
      rw [C2.out] at KNb
      obtain ⟨m1, x1, E1⟩ : ∃ aa bb, (fileOfP a).run m = (aa, bb) := ⟨_, _, rfl⟩
      have bx1 := fileOfP_bounds E1
      have O1 := Lib.hid ((fileOfP_cost _).okE O0.out E1)
      have HE1 := Lib.hid E1
      clear E1
      by_cases c3 : x1 = 0
      · subst c3
        obtain ⟨e1, e2⟩ := Prod.mk.inj ((show (m1, 2) = (linkP a b).run m from by
          unfold linkP
          simp only [Pg.run_bind, Pg.run_pure, Pg.run_ret, ↓reduceIte, Bool.false_eq_true, Bool.true_and, Bool.and_true, Bool.and_self, Bool.false_and, Bool.and_false, or_false, false_or, true_or, or_true, ne_eq, not_true_eq_false, not_false_eq_true, eq_self_iff_true, decide_true, decide_false, C1.out, C2.out, HE1.out]).trans HE.out)
        subst e1 e2
        have G0 := Lib.hid (show ∀ m' r e w', MStep p base v1 v2 v3 m' r w e w' → MStep p base v1 v2 v3 m' r w e w' from fun _ _ _ _ h => h)
        have M0 := Lib.hid H.out
        have B0 := Lib.hid (Below.refl base w)
        clear HE
        go_enter Tryz.func99, Tryz.ntmps99
        have K1 := Lib.hid (pFileOf_c p base v1 v2 v3 m m1 (0) a w M0.out (O0.out.mono (by omega)) (Nat.le_trans hs (by decide)) (fun W hW => HTT.out W (B0.out.trans hW)) HE1.out)
        go_wp2_with (first | (go_at_call 153; with_reducible refine (KNa.out _).mono ?_; rintro e w' ⟨rfl, rfl⟩) | (go_at_call 153; with_reducible refine (KNb.out _).mono ?_; rintro e w' ⟨rfl, rfl⟩) | fail)
        refine K1.out.mono ?_
        rintro e w1 ⟨x11, x12, x13, rfl, hm, hg, q1, q2, q3⟩
        have G1 := Lib.hid (show ∀ m' r e w', MStep p base x11 x12 x13 m' r w1 e w' → MStep p base v1 v2 v3 m' r w e w' from fun _ _ _ _ h => G0.out _ _ _ _ (MStep.next hg q1 q2 q3 h))
        have B1 := Lib.hid (B0.out.trans (M0.out.grow hg))
        have M1 := Lib.hid hm
        clear hm hg q1 q2 q3 K1 G0 M0 B0
        have HEND := Lib.hid (show MStep p base v1 v2 v3 _ (.int .i64 2) w (.returned (.int .i64 2)) w1 from G1.out _ _ _ _ (M1.out.step (Below.refl _ _) _))
        clear G1 M1 B1
        go_wp2_with (first | (go_at_call 153; with_reducible refine (KNa.out _).mono ?_; rintro e w' ⟨rfl, rfl⟩) | (go_at_call 153; with_reducible refine (KNb.out _).mono ?_; rintro e w' ⟨rfl, rfl⟩) | fail)
        go_ret
        exact HEND.out
      · obtain ⟨m2, x2, E2⟩ : ∃ aa bb, (fileOfP b).run m1 = (aa, bb) := ⟨_, _, rfl⟩
        have bx2 := fileOfP_bounds E2
        have O2 := Lib.hid ((fileOfP_cost _).okE O1.out E2)
        have HE2 := Lib.hid E2
        clear E2
        by_cases c4 : x2 = 0
        · subst c4
          obtain ⟨m3, x3, E3⟩ : ∃ aa bb, (numP (linksK x1)).run m2 = (aa, bb) := ⟨_, _, rfl⟩
          have bx3 := numP_bounds E3
          have O3 := Lib.hid ((numP_cost _).okE O2.out E3)
          have HE3 := Lib.hid E3
          clear E3
          by_cases c5 : 4 ≤ x3
          · obtain ⟨e1, e2⟩ := Prod.mk.inj ((show (m3, 3) = (linkP a b).run m from by
              unfold linkP
              simp only [Pg.run_bind, Pg.run_pure, Pg.run_ret, ↓reduceIte, Bool.false_eq_true, Bool.true_and, Bool.and_true, Bool.and_self, Bool.false_and, Bool.and_false, or_false, false_or, true_or, or_true, ne_eq, not_true_eq_false, not_false_eq_true, eq_self_iff_true, decide_true, decide_false, C1.out, C2.out, HE1.out, c3, HE2.out, HE3.out, c5]).trans HE.out)
            subst e1 e2
            have G0 := Lib.hid (show ∀ m' r e w', MStep p base v1 v2 v3 m' r w e w' → MStep p base v1 v2 v3 m' r w e w' from fun _ _ _ _ h => h)
            have M0 := Lib.hid H.out
            have B0 := Lib.hid (Below.refl base w)
            clear HE
            go_enter Tryz.func99, Tryz.ntmps99
            have K1 := Lib.hid (pFileOf_c p base v1 v2 v3 m m1 x1 a w M0.out (O0.out.mono (by omega)) (Nat.le_trans hs (by decide)) (fun W hW => HTT.out W (B0.out.trans hW)) HE1.out)
            go_wp2_with (first | (go_at_call 153; with_reducible refine (KNa.out _).mono ?_; rintro e w' ⟨rfl, rfl⟩) | (go_at_call 153; with_reducible refine (KNb.out _).mono ?_; rintro e w' ⟨rfl, rfl⟩) | fail)
            refine K1.out.mono ?_
            rintro e w1 ⟨x11, x12, x13, rfl, hm, hg, q1, q2, q3⟩
            have G1 := Lib.hid (show ∀ m' r e w', MStep p base x11 x12 x13 m' r w1 e w' → MStep p base v1 v2 v3 m' r w e w' from fun _ _ _ _ h => G0.out _ _ _ _ (MStep.next hg q1 q2 q3 h))
            have B1 := Lib.hid (B0.out.trans (M0.out.grow hg))
            have M1 := Lib.hid hm
            clear hm hg q1 q2 q3 K1 G0 M0 B0
            have K2 := Lib.hid (pFileOf_c p base x11 x12 x13 m1 m2 (0) b w1 M1.out (O1.out.mono (by omega)) (Nat.le_trans hs2 (by decide)) (fun W hW => HTT.out W (B1.out.trans hW)) HE2.out)
            go_wp2_with (first | (go_at_call 153; with_reducible refine (KNa.out _).mono ?_; rintro e w' ⟨rfl, rfl⟩) | (go_at_call 153; with_reducible refine (KNb.out _).mono ?_; rintro e w' ⟨rfl, rfl⟩) | fail)
            refine K2.out.mono ?_
            rintro e w2 ⟨x21, x22, x23, rfl, hm, hg, q1, q2, q3⟩
            have G2 := Lib.hid (show ∀ m' r e w', MStep p base x21 x22 x23 m' r w2 e w' → MStep p base v1 v2 v3 m' r w e w' from fun _ _ _ _ h => G1.out _ _ _ _ (MStep.next hg q1 q2 q3 h))
            have B2 := Lib.hid (B1.out.trans (M1.out.grow hg))
            have M2 := Lib.hid hm
            clear hm hg q1 q2 q3 K2 G1 M1 B1
            go_wp2_with (first | (go_at_call 153; with_reducible refine (KNa.out _).mono ?_; rintro e w' ⟨rfl, rfl⟩) | (go_at_call 153; with_reducible refine (KNb.out _).mono ?_; rintro e w' ⟨rfl, rfl⟩) | fail)
            refine (linksKey_c x1 w2 (i64_of bx1) (HTT.out _ B2.out)).mono ?_
            rintro e w3 ⟨rfl, hb⟩
            have G3 := Lib.hid (show ∀ m' r e w', MStep p base x21 x22 x23 m' r w3 e w' → MStep p base v1 v2 v3 m' r w e w' from fun _ _ _ _ h => G2.out _ _ _ _ (MStep.next (Grow3.of_below hb) (.inl rfl) (.inl rfl) (.inl rfl) h))
            have B3 := Lib.hid (B2.out.trans (hb.mono M2.out.hb))
            have M3 := Lib.hid (M2.out.below hb)
            clear hb G2 M2 B2
            have K4 := Lib.hid (pNum_c p base x21 x22 x23 m2 m3 x3 (linksK x1) w3 M3.out (O2.out.mono (by omega)) (fun W hW => HTT.out W (B3.out.trans hW)) HE3.out)
            go_wp2_with (first | (go_at_call 153; with_reducible refine (KNa.out _).mono ?_; rintro e w' ⟨rfl, rfl⟩) | (go_at_call 153; with_reducible refine (KNb.out _).mono ?_; rintro e w' ⟨rfl, rfl⟩) | fail)
            refine K4.out.mono ?_
            rintro e w4 ⟨x41, x42, x43, rfl, hm, hg, q1, q2, q3⟩
            have G4 := Lib.hid (show ∀ m' r e w', MStep p base x41 x42 x43 m' r w4 e w' → MStep p base v1 v2 v3 m' r w e w' from fun _ _ _ _ h => G3.out _ _ _ _ (MStep.next hg q1 q2 q3 h))
            have B4 := Lib.hid (B3.out.trans (M3.out.grow hg))
            have M4 := Lib.hid hm
            clear hm hg q1 q2 q3 K4 G3 M3 B3
            have HEND := Lib.hid (show MStep p base v1 v2 v3 _ (.int .i64 3) w (.returned (.int .i64 3)) w4 from G4.out _ _ _ _ (M4.out.step (Below.refl _ _) _))
            clear G4 M4 B4
            go_wp2_with (first | (go_at_call 153; with_reducible refine (KNa.out _).mono ?_; rintro e w' ⟨rfl, rfl⟩) | (go_at_call 153; with_reducible refine (KNb.out _).mono ?_; rintro e w' ⟨rfl, rfl⟩) | fail)
            go_ret
            exact HEND.out
          · have hw : IntKind.i64.wrap (x3 + 1) = x3 + 1 := by rw [IntKind.wrap_i64]; omega
            obtain ⟨m4, u4, E4⟩ : ∃ aa bb, (setP (nK b) (x1)).run m3 = (aa, bb) := ⟨_, _, rfl⟩
            have O4 := Lib.hid ((setP_cost _ _).okE O3.out E4)
            have HE4 := Lib.hid E4
            clear E4
            obtain ⟨m5, u5, E5⟩ : ∃ aa bb, (setP (linksK x1) (x3 + 1)).run m4 = (aa, bb) := ⟨_, _, rfl⟩
            have O5 := Lib.hid ((setP_cost _ _).okE O4.out E5)
            have HE5 := Lib.hid E5
            clear E5
            obtain ⟨e1, e2⟩ := Prod.mk.inj ((show (m5, 0) = (linkP a b).run m from by
              unfold linkP
              simp only [Pg.run_bind, Pg.run_pure, Pg.run_ret, ↓reduceIte, Bool.false_eq_true, Bool.true_and, Bool.and_true, Bool.and_self, Bool.false_and, Bool.and_false, or_false, false_or, true_or, or_true, ne_eq, not_true_eq_false, not_false_eq_true, eq_self_iff_true, decide_true, decide_false, C1.out, C2.out, HE1.out, c3, HE2.out, HE3.out, c5, HE4.out, HE5.out]).trans HE.out)
            subst e1 e2
            have G0 := Lib.hid (show ∀ m' r e w', MStep p base v1 v2 v3 m' r w e w' → MStep p base v1 v2 v3 m' r w e w' from fun _ _ _ _ h => h)
            have M0 := Lib.hid H.out
            have B0 := Lib.hid (Below.refl base w)
            clear HE
            go_enter Tryz.func99, Tryz.ntmps99
            have K1 := Lib.hid (pFileOf_c p base v1 v2 v3 m m1 x1 a w M0.out (O0.out.mono (by omega)) (Nat.le_trans hs (by decide)) (fun W hW => HTT.out W (B0.out.trans hW)) HE1.out)
            go_wp2_with (first | (go_at_call 153; with_reducible refine (KNa.out _).mono ?_; rintro e w' ⟨rfl, rfl⟩) | (go_at_call 153; with_reducible refine (KNb.out _).mono ?_; rintro e w' ⟨rfl, rfl⟩) | fail)
            refine K1.out.mono ?_
            rintro e w1 ⟨x11, x12, x13, rfl, hm, hg, q1, q2, q3⟩
            have G1 := Lib.hid (show ∀ m' r e w', MStep p base x11 x12 x13 m' r w1 e w' → MStep p base v1 v2 v3 m' r w e w' from fun _ _ _ _ h => G0.out _ _ _ _ (MStep.next hg q1 q2 q3 h))
            have B1 := Lib.hid (B0.out.trans (M0.out.grow hg))
            have M1 := Lib.hid hm
            clear hm hg q1 q2 q3 K1 G0 M0 B0
            have K2 := Lib.hid (pFileOf_c p base x11 x12 x13 m1 m2 (0) b w1 M1.out (O1.out.mono (by omega)) (Nat.le_trans hs2 (by decide)) (fun W hW => HTT.out W (B1.out.trans hW)) HE2.out)
            go_wp2_with (first | (go_at_call 153; with_reducible refine (KNa.out _).mono ?_; rintro e w' ⟨rfl, rfl⟩) | (go_at_call 153; with_reducible refine (KNb.out _).mono ?_; rintro e w' ⟨rfl, rfl⟩) | fail)
            refine K2.out.mono ?_
            rintro e w2 ⟨x21, x22, x23, rfl, hm, hg, q1, q2, q3⟩
            have G2 := Lib.hid (show ∀ m' r e w', MStep p base x21 x22 x23 m' r w2 e w' → MStep p base v1 v2 v3 m' r w e w' from fun _ _ _ _ h => G1.out _ _ _ _ (MStep.next hg q1 q2 q3 h))
            have B2 := Lib.hid (B1.out.trans (M1.out.grow hg))
            have M2 := Lib.hid hm
            clear hm hg q1 q2 q3 K2 G1 M1 B1
            go_wp2_with (first | (go_at_call 153; with_reducible refine (KNa.out _).mono ?_; rintro e w' ⟨rfl, rfl⟩) | (go_at_call 153; with_reducible refine (KNb.out _).mono ?_; rintro e w' ⟨rfl, rfl⟩) | fail)
            refine (linksKey_c x1 w2 (i64_of bx1) (HTT.out _ B2.out)).mono ?_
            rintro e w3 ⟨rfl, hb⟩
            have G3 := Lib.hid (show ∀ m' r e w', MStep p base x21 x22 x23 m' r w3 e w' → MStep p base v1 v2 v3 m' r w e w' from fun _ _ _ _ h => G2.out _ _ _ _ (MStep.next (Grow3.of_below hb) (.inl rfl) (.inl rfl) (.inl rfl) h))
            have B3 := Lib.hid (B2.out.trans (hb.mono M2.out.hb))
            have M3 := Lib.hid (M2.out.below hb)
            clear hb G2 M2 B2
            have K4 := Lib.hid (pNum_c p base x21 x22 x23 m2 m3 x3 (linksK x1) w3 M3.out (O2.out.mono (by omega)) (fun W hW => HTT.out W (B3.out.trans hW)) HE3.out)
            go_wp2_with (first | (go_at_call 153; with_reducible refine (KNa.out _).mono ?_; rintro e w' ⟨rfl, rfl⟩) | (go_at_call 153; with_reducible refine (KNb.out _).mono ?_; rintro e w' ⟨rfl, rfl⟩) | fail)
            refine K4.out.mono ?_
            rintro e w4 ⟨x41, x42, x43, rfl, hm, hg, q1, q2, q3⟩
            have G4 := Lib.hid (show ∀ m' r e w', MStep p base x41 x42 x43 m' r w4 e w' → MStep p base v1 v2 v3 m' r w e w' from fun _ _ _ _ h => G3.out _ _ _ _ (MStep.next hg q1 q2 q3 h))
            have B4 := Lib.hid (B3.out.trans (M3.out.grow hg))
            have M4 := Lib.hid hm
            clear hm hg q1 q2 q3 K4 G3 M3 B3
            go_wp2_with (first | (go_at_call 153; with_reducible refine (KNa.out _).mono ?_; rintro e w' ⟨rfl, rfl⟩) | (go_at_call 153; with_reducible refine (KNb.out _).mono ?_; rintro e w' ⟨rfl, rfl⟩) | fail)
            refine (nameKey_c b w4 (by omega)).mono ?_
            rintro e w5 ⟨rfl, hb⟩
            have G5 := Lib.hid (show ∀ m' r e w', MStep p base x41 x42 x43 m' r w5 e w' → MStep p base v1 v2 v3 m' r w e w' from fun _ _ _ _ h => G4.out _ _ _ _ (MStep.next (Grow3.of_below hb) (.inl rfl) (.inl rfl) (.inl rfl) h))
            have B5 := Lib.hid (B4.out.trans (hb.mono M4.out.hb))
            have M5 := Lib.hid (M4.out.below hb)
            clear hb G4 M4 B4
            have K6 := Lib.hid (pSet_c p base x41 x42 x43 m3 m4 u4 (nK b) (x1) w5 M5.out (O3.out.mono (by omega)) (kle (show (nK b).size ≤ 1000 by have := @nK_size b; omega)) (fun W hW => HTT.out W (B5.out.trans hW)) HE4.out)
            go_wp2_with (first | (go_at_call 153; with_reducible refine (KNa.out _).mono ?_; rintro e w' ⟨rfl, rfl⟩) | (go_at_call 153; with_reducible refine (KNb.out _).mono ?_; rintro e w' ⟨rfl, rfl⟩) | fail)
            refine K6.out.mono ?_
            rintro e w6 ⟨x61, x62, x63, rfl, hm, hg, q1, q2, q3⟩
            have G6 := Lib.hid (show ∀ m' r e w', MStep p base x61 x62 x63 m' r w6 e w' → MStep p base v1 v2 v3 m' r w e w' from fun _ _ _ _ h => G5.out _ _ _ _ (MStep.next hg q1 q2 q3 h))
            have B6 := Lib.hid (B5.out.trans (M5.out.grow hg))
            have M6 := Lib.hid hm
            clear hm hg q1 q2 q3 K6 G5 M5 B5
            go_wp2_with (first | (go_at_call 153; with_reducible refine (KNa.out _).mono ?_; rintro e w' ⟨rfl, rfl⟩) | (go_at_call 153; with_reducible refine (KNb.out _).mono ?_; rintro e w' ⟨rfl, rfl⟩) | fail)
            refine (linksKey_c x1 w6 (i64_of bx1) (HTT.out _ B6.out)).mono ?_
            rintro e w7 ⟨rfl, hb⟩
            have G7 := Lib.hid (show ∀ m' r e w', MStep p base x61 x62 x63 m' r w7 e w' → MStep p base v1 v2 v3 m' r w e w' from fun _ _ _ _ h => G6.out _ _ _ _ (MStep.next (Grow3.of_below hb) (.inl rfl) (.inl rfl) (.inl rfl) h))
            have B7 := Lib.hid (B6.out.trans (hb.mono M6.out.hb))
            have M7 := Lib.hid (M6.out.below hb)
            clear hb G6 M6 B6
            have K8 := Lib.hid (pSet_c p base x61 x62 x63 m4 m5 u5 (linksK x1) (x3 + 1) w7 M7.out (O4.out.mono (by omega)) (kle (linksK_size (i64_of bx1))) (fun W hW => HTT.out W (B7.out.trans hW)) HE5.out)
            go_wp2_with (first | (go_at_call 153; with_reducible refine (KNa.out _).mono ?_; rintro e w' ⟨rfl, rfl⟩) | (go_at_call 153; with_reducible refine (KNb.out _).mono ?_; rintro e w' ⟨rfl, rfl⟩) | fail)
            refine K8.out.mono ?_
            rintro e w8 ⟨x81, x82, x83, rfl, hm, hg, q1, q2, q3⟩
            have G8 := Lib.hid (show ∀ m' r e w', MStep p base x81 x82 x83 m' r w8 e w' → MStep p base v1 v2 v3 m' r w e w' from fun _ _ _ _ h => G7.out _ _ _ _ (MStep.next hg q1 q2 q3 h))
            have B8 := Lib.hid (B7.out.trans (M7.out.grow hg))
            have M8 := Lib.hid hm
            clear hm hg q1 q2 q3 K8 G7 M7 B7
            have HEND := Lib.hid (show MStep p base v1 v2 v3 _ (.int .i64 0) w (.returned (.int .i64 0)) w8 from G8.out _ _ _ _ (M8.out.step (Below.refl _ _) _))
            clear G8 M8 B8
            go_wp2_with (first | (go_at_call 153; with_reducible refine (KNa.out _).mono ?_; rintro e w' ⟨rfl, rfl⟩) | (go_at_call 153; with_reducible refine (KNb.out _).mono ?_; rintro e w' ⟨rfl, rfl⟩) | fail)
            go_ret
            exact HEND.out
        · obtain ⟨e1, e2⟩ := Prod.mk.inj ((show (m2, 1) = (linkP a b).run m from by
            unfold linkP
            simp only [Pg.run_bind, Pg.run_pure, Pg.run_ret, ↓reduceIte, Bool.false_eq_true, Bool.true_and, Bool.and_true, Bool.and_self, Bool.false_and, Bool.and_false, or_false, false_or, true_or, or_true, ne_eq, not_true_eq_false, not_false_eq_true, eq_self_iff_true, decide_true, decide_false, C1.out, C2.out, HE1.out, c3, HE2.out, c4]).trans HE.out)
          subst e1 e2
          have G0 := Lib.hid (show ∀ m' r e w', MStep p base v1 v2 v3 m' r w e w' → MStep p base v1 v2 v3 m' r w e w' from fun _ _ _ _ h => h)
          have M0 := Lib.hid H.out
          have B0 := Lib.hid (Below.refl base w)
          clear HE
          go_enter Tryz.func99, Tryz.ntmps99
          have K1 := Lib.hid (pFileOf_c p base v1 v2 v3 m m1 x1 a w M0.out (O0.out.mono (by omega)) (Nat.le_trans hs (by decide)) (fun W hW => HTT.out W (B0.out.trans hW)) HE1.out)
          go_wp2_with (first | (go_at_call 153; with_reducible refine (KNa.out _).mono ?_; rintro e w' ⟨rfl, rfl⟩) | (go_at_call 153; with_reducible refine (KNb.out _).mono ?_; rintro e w' ⟨rfl, rfl⟩) | fail)
          refine K1.out.mono ?_
          rintro e w1 ⟨x11, x12, x13, rfl, hm, hg, q1, q2, q3⟩
          have G1 := Lib.hid (show ∀ m' r e w', MStep p base x11 x12 x13 m' r w1 e w' → MStep p base v1 v2 v3 m' r w e w' from fun _ _ _ _ h => G0.out _ _ _ _ (MStep.next hg q1 q2 q3 h))
          have B1 := Lib.hid (B0.out.trans (M0.out.grow hg))
          have M1 := Lib.hid hm
          clear hm hg q1 q2 q3 K1 G0 M0 B0
          have K2 := Lib.hid (pFileOf_c p base x11 x12 x13 m1 m2 x2 b w1 M1.out (O1.out.mono (by omega)) (Nat.le_trans hs2 (by decide)) (fun W hW => HTT.out W (B1.out.trans hW)) HE2.out)
          go_wp2_with (first | (go_at_call 153; with_reducible refine (KNa.out _).mono ?_; rintro e w' ⟨rfl, rfl⟩) | (go_at_call 153; with_reducible refine (KNb.out _).mono ?_; rintro e w' ⟨rfl, rfl⟩) | fail)
          refine K2.out.mono ?_
          rintro e w2 ⟨x21, x22, x23, rfl, hm, hg, q1, q2, q3⟩
          have G2 := Lib.hid (show ∀ m' r e w', MStep p base x21 x22 x23 m' r w2 e w' → MStep p base v1 v2 v3 m' r w e w' from fun _ _ _ _ h => G1.out _ _ _ _ (MStep.next hg q1 q2 q3 h))
          have B2 := Lib.hid (B1.out.trans (M1.out.grow hg))
          have M2 := Lib.hid hm
          clear hm hg q1 q2 q3 K2 G1 M1 B1
          have HEND := Lib.hid (show MStep p base v1 v2 v3 _ (.int .i64 1) w (.returned (.int .i64 1)) w2 from G2.out _ _ _ _ (M2.out.step (Below.refl _ _) _))
          clear G2 M2 B2
          go_wp2_with (first | (go_at_call 153; with_reducible refine (KNa.out _).mono ?_; rintro e w' ⟨rfl, rfl⟩) | (go_at_call 153; with_reducible refine (KNb.out _).mono ?_; rintro e w' ⟨rfl, rfl⟩) | fail)
          go_ret
          exact HEND.out
    · have C2 := Lib.hid (Bool.eq_false_iff.2 c2)
      clear c2
      have KNb := Lib.hid (fun W => implNameOk_c b W (kle (Nat.le_trans hs2 (by decide))))
      rw [C2.out] at KNb
      obtain ⟨e1, e2⟩ := Prod.mk.inj ((show (m, 4) = (linkP a b).run m from by
        unfold linkP
        simp only [Pg.run_bind, Pg.run_pure, Pg.run_ret, ↓reduceIte, Bool.false_eq_true, Bool.true_and, Bool.and_true, Bool.and_self, Bool.false_and, Bool.and_false, or_false, false_or, true_or, or_true, ne_eq, not_true_eq_false, not_false_eq_true, eq_self_iff_true, decide_true, decide_false, C1.out, C2.out]).trans HE.out)
      subst e1 e2
      have G0 := Lib.hid (show ∀ m' r e w', MStep p base v1 v2 v3 m' r w e w' → MStep p base v1 v2 v3 m' r w e w' from fun _ _ _ _ h => h)
      have M0 := Lib.hid H.out
      have B0 := Lib.hid (Below.refl base w)
      clear HE
      go_enter Tryz.func99, Tryz.ntmps99
      have HEND := Lib.hid (show MStep p base v1 v2 v3 _ (.int .i64 4) w (.returned (.int .i64 4)) w from G0.out _ _ _ _ (M0.out.step (Below.refl _ _) _))
      clear G0 M0 B0
      go_wp2_with (first | (go_at_call 153; with_reducible refine (KNa.out _).mono ?_; rintro e w' ⟨rfl, rfl⟩) | (go_at_call 153; with_reducible refine (KNb.out _).mono ?_; rintro e w' ⟨rfl, rfl⟩) | fail)
      go_ret
      exact HEND.out
  · have C1 := Lib.hid (Bool.eq_false_iff.2 c1)
    clear c1
    have KNa := Lib.hid (fun W => implNameOk_c a W (kle (Nat.le_trans hs (by decide))))
    rw [C1.out] at KNa
    obtain ⟨e1, e2⟩ := Prod.mk.inj ((show (m, 4) = (linkP a b).run m from by
      unfold linkP
      simp only [Pg.run_bind, Pg.run_pure, Pg.run_ret, ↓reduceIte, Bool.false_eq_true, Bool.true_and, Bool.and_true, Bool.and_self, Bool.false_and, Bool.and_false, or_false, false_or, true_or, or_true, ne_eq, not_true_eq_false, not_false_eq_true, eq_self_iff_true, decide_true, decide_false, C1.out]).trans HE.out)
    subst e1 e2
    have G0 := Lib.hid (show ∀ m' r e w', MStep p base v1 v2 v3 m' r w e w' → MStep p base v1 v2 v3 m' r w e w' from fun _ _ _ _ h => h)
    have M0 := Lib.hid H.out
    have B0 := Lib.hid (Below.refl base w)
    clear HE
    go_enter Tryz.func99, Tryz.ntmps99
    have HEND := Lib.hid (show MStep p base v1 v2 v3 _ (.int .i64 4) w (.returned (.int .i64 4)) w from G0.out _ _ _ _ (M0.out.step (Below.refl _ _) _))
    clear G0 M0 B0
    go_wp2_with (first | (go_at_call 153; with_reducible refine (KNa.out _).mono ?_; rintro e w' ⟨rfl, rfl⟩) | (go_at_call 153; with_reducible refine (KNb.out _).mono ?_; rintro e w' ⟨rfl, rfl⟩) | fail)
    go_ret
    exact HEND.out
end Go.Proofs.YtihghflppegnmaaGreatDoor
namespace Go.Proofs.YtihghflppegnmaaGreatDoor
open Go.ChangeShapes Go.WideShapes Go.ChangeAt Go.RowKit
attribute [local go_sem ↓] Go.wp_at_zero Go.wp_at_succ
/-- At a loop's head: the machine, its bounds, the keys, and the way back to the start. -/
structure LAt (p base : Nat) (v1 v2 v3 : Value) (w : World) (a : Option Addr) (ks : List ByteArray) (wr : World) (u1 u2 u3 : Value) (mk : Mch) (n : Nat) : Prop where
  at_ : MAt wr p base u1 u2 u3 mk
  ok : MOk n mk
  keys : KAt wr p u1 u2 u3 a ks
  back : ∀ m' r e w', MStep p base u1 u2 u3 m' r wr e w' → MStep p base v1 v2 v3 m' r w e w'
  bel : Below base w wr
section
variable {p base : Nat} {v1 v2 v3 u1 u2 u3 x1 x2 x3 : Value} {w wr w' : World} {a : Option Addr} {ks : List ByteArray} {m mk mk' : Mch} {n n' : Nat}
theorem LAt.next (h : LAt p base v1 v2 v3 w a ks wr u1 u2 u3 mk n) (hm : MAt w' p base x1 x2 x3 mk') (hg : Grow3 wr w' p u1 u2 u3) (q1 : OwnOr wr u1 x1) (q2 : OwnOr wr u2 x2) (q3 : OwnOr wr u3 x3) (ho : MOk n' mk') : LAt p base v1 v2 v3 w a ks w' x1 x2 x3 mk' n' :=
  ⟨hm, ho, h.keys.grow hg q1 q2 q3, fun _ _ _ _ hs => h.back _ _ _ _ (MStep.next hg q1 q2 q3 hs), h.bel.trans (h.at_.grow hg)⟩
theorem LAt.below (h : LAt p base v1 v2 v3 w a ks wr u1 u2 u3 mk n) (hb : Below wr.heap.size wr w') : LAt p base v1 v2 v3 w a ks w' u1 u2 u3 mk n :=
  h.next (h.at_.below hb) (Grow3.of_below hb) (.inl rfl) (.inl rfl) (.inl rfl) h.ok
theorem LAt.first (h : MAt w p base v1 v2 v3 m) (hm : MAt w' p base x1 x2 x3 mk') (hg : Grow3 w w' p v1 v2 v3) (q1 : OwnOr w v1 x1) (q2 : OwnOr w v2 x2) (q3 : OwnOr w v3 x3) (ho : MOk n' mk') (hk : KAt w' p x1 x2 x3 a ks) : LAt p base v1 v2 v3 w a ks w' x1 x2 x3 mk' n' :=
  ⟨hm, ho, hk, fun _ _ _ _ hs => MStep.next hg q1 q2 q3 hs, h.grow hg⟩
theorem LAt.mono (h : LAt p base v1 v2 v3 w a ks wr u1 u2 u3 mk n) (hn : n ≤ n') : LAt p base v1 v2 v3 w a ks wr u1 u2 u3 mk n' := ⟨h.at_, h.ok.mono hn, h.keys, h.back, h.bel⟩
end
theorem under_sz {pre : ByteArray} {m m' : Mch} {ks : List ByteArray} {n : Nat} (ho : MOk n m) (E : (underP pre).run m = (m', ks)) : (∀ x ∈ ks, x.size ≤ 1048576) ∧ ks.length ≤ n := by
  obtain ⟨e1, e2⟩ := Prod.mk.inj (show (lookM m (starK pre), keysU m.st pre) = (m', ks) from E)
  subst e1 e2
  refine ⟨fun x hx => ?_, Nat.le_trans (keysU_len _ _) ho.l1⟩
  unfold keysU at hx
  obtain ⟨c, hc, rfl⟩ := List.mem_map.1 hx
  exact (ho.sz c (List.mem_filter.1 hc).1).1
theorem under_then {α : Type} {pre : ByteArray} {f : List ByteArray → Pg α} {m m1 : Mch} {ks : List ByteArray} {r : Mch × α} (E1 : (underP pre).run m = (m1, ks)) (E : (Pg.under pre f).run m = r) : (f ks).run m1 = r := by
  obtain ⟨e1, e2⟩ := Prod.mk.inj (show (lookM m (starK pre), keysU m.st pre) = (m1, ks) from E1)
  subst e1 e2
  exact E
theorem drop_cons {α : Type} {xs : List α} {k : Nat} {x : α} (h : xs[k]? = some x) : xs.drop k = x :: xs.drop (k + 1) := by
  obtain ⟨hk, rfl⟩ := List.getElem?_eq_some_iff.1 h
  exact List.drop_eq_getElem_cons hk

set_option maxRecDepth 100000 in
set_option maxHeartbeats 4000000 in
theorem pWipe_c (p base : Nat) (v1 v2 v3 : Value) (m m' : Mch) (x : Unit) (pre : ByteArray) (w : World) (h : MAt w p base v1 v2 v3 m) (ho : MOk 900000000000 m) (hp : pre.size ≤ 1000) (E : (wipeP pre).run m = (m', x)) :
    Calls Tryz.prog 158 #[.pointer (some ⟨p, 0, none⟩), .string pre] w (MStep p base v1 v2 v3 m' (.tuple #[]) w) := by
  obtain ⟨m1, ks, E1⟩ : ∃ aa bb, (underP pre).run m = (aa, bb) := ⟨_, _, rfl⟩
  have E2 := Lib.hid (under_then E1 E)
  obtain ⟨hsz, hn⟩ := under_sz ho E1
  have O1 := Lib.hid ((underP_cost pre).okE ho E1)
  have H := Lib.hid h
  have KU := Lib.hid (pUnder_c p base v1 v2 v3 m m1 ks pre w h (ho.mono (by omega)) hp E1)
  have HSZ := Lib.hid hsz
  clear h ho E E1 hsz
  go_enter Tryz.func158, Tryz.ntmps158
  go_wp2_with fail
  refine KU.out.mono ?_
  rintro e w1 ⟨u1, u2, u3, a, c, rfl, hm, hg, q1, q2, q3, hk⟩
  have L1 := Lib.hid (LAt.first H.out hm hg q1 q2 q3 O1.out hk)
  clear hm hg q1 q2 q3 hk KU O1
  go_wp2
  go_loopw [10] (fun i wr => ∃ k : Nat, k ≤ ks.length ∧ i = .int .i64 k ∧ Hid (∃ y1 y2 y3 mk, LAt p base v1 v2 v3 w a ks wr y1 y2 y3 mk (900000000001 + k) ∧ (layAll (ks.drop k)).run mk = (m', x))) (fun i _ => ks.length - (intOf i).toNat)
  case atStart => exact ⟨0, Nat.zero_le _, rfl, Lib.hid ⟨_, _, _, _, L1.out, E2.out⟩⟩
  case round =>
    obtain ⟨k, hk, rfl, HI⟩ := hrel
    obtain ⟨y1, y2, y3, mk, hl, hr⟩ := HI.out
    have HL := Lib.hid hl
    have HR := Lib.hid hr
    clear HI hl hr L1 E2
    by_cases hlt : k < ks.length
    · obtain ⟨y, hy⟩ := some_of_lt hlt
      obtain ⟨b, off, hab, c0⟩ := readFS HL.out.keys.rd (Below.refl _ _) hy
      subst hab
      have p1 : (0 : Int) ≤ (k : Int) := by omega
      have p2 : (k : Int) < (ks.length : Int) := by omega
      have hys := HSZ.out y (List.mem_of_getElem? hy)
      obtain ⟨m2, u, E3⟩ : ∃ aa bb, (layP y noB).run mk = (aa, bb) := ⟨_, _, rfl⟩
      have O2 := Lib.hid ((layP_cost y noB).okE HL.out.ok E3)
      have K := Lib.hid (pLay_c p base y1 y2 y3 mk m2 u y noB wr HL.out.at_ (HL.out.ok.mono (by omega)) (by unfold maxLen; omega) (by decide) E3)
      have HR2 := Lib.hid (show (layAll (ks.drop (k + 1))).run m2 = (m', x) from by
        have h := HR.out
        rw [drop_cons hy] at h
        obtain ⟨e1, e2⟩ := Prod.mk.inj (show (layM mk y noB, ()) = (m2, u) from E3)
        subst e1
        exact h)
      clear hy hys E3 HR
      go_wp2_with fail
      refine K.out.mono ?_
      rintro e w2 ⟨z1, z2, z3, rfl, hm, hg, q1, q2, q3⟩
      have L2 := Lib.hid (HL.out.next hm hg q1 q2 q3 O2.out)
      clear hm hg q1 q2 q3 K O2 HL
      go_wp2
      go_roundw
      case rel => exact ⟨k + 1, by omega, by go_num, Lib.hid ⟨_, _, _, _, L2.out, HR2.out⟩⟩
      case measure => simp [intOf]; omega
    · obtain rfl : k = ks.length := by omega
      have p2 : ¬ ((ks.length : Nat) : Int) < (ks.length : Int) := by omega
      have HEND := Lib.hid (show MStep p base v1 v2 v3 m' (.tuple #[]) w (.returned (.tuple #[])) wr from by
        have h := HR.out
        rw [List.drop_length] at h
        obtain ⟨e1, _⟩ := Prod.mk.inj (show (mk, ()) = (m', x) from h)
        subst e1
        exact HL.out.back _ _ _ _ (HL.out.at_.step (Below.refl _ _) _))
      clear HR HL
      go_wp2
      exact bodyPost_ret (v := .tuple #[]) (by simp [results, Tryz.results158, go_sem]) rfl HEND.out
end Go.Proofs.YtihghflppegnmaaGreatDoor
namespace Go.Proofs.YtihghflppegnmaaGreatDoor
open Go
section
variable {P : Program} {ops : Array Oper} {Q : Exit → Act → World → Prop} {md : Region.Mode} {S : World → Prop} {Y : List Nat}
/-- Is one of the operations Y listed? -/
def anyOf (Y : List Nat) (listed : Array Bool) : Bool := Y.any (fun y => listed.getD y false)
/-- Whatever order is picked from here on; S holds behind every operation till one of Y has come up. -/
def wpAnyY (P : Program) (md : Region.Mode) (ops : Array Oper) (Q : Exit → Act → World → Prop) (S : World → Prop) (Y : List Nat) : Nat → Array Bool → Act → World → Prop
  | 0, listed, a, w => Region.ready md ops listed = [] ∧ Q .normal a w
  | fuel + 1, listed, a, w =>
    (Region.ready md ops listed = [] → Q .normal a w) ∧
    ∀ i ∈ Region.ready md ops listed, wpOp P ops Q i (fun a' w' => (anyOf Y (listed.setIfInBounds i true) = true ∨ S w') ∧ wpAnyY P md ops Q S Y fuel (listed.setIfInBounds i true) a' w') a w
theorem wpAny_of_Y : ∀ (fuel : Nat) (listed : Array Bool) (a : Act) (w : World), wpAnyY P md ops Q S Y fuel listed a w → wpAny P md ops Q fuel listed a w
  | 0, _, _, _, h => h
  | fuel + 1, _, _, _, h => ⟨h.1, fun i hi => wpOp_mono (fun a' w' h' => wpAny_of_Y fuel _ a' w' h'.2) (h.2 i hi)⟩
/-- All that a listed operation waits for is listed. -/
def Closed (md : Region.Mode) (ops : Array Oper) (listed : Array Bool) : Prop :=
  ∀ k o, ops[k]? = some o → listed.getD k false = true → ∀ e ∈ o.after, Region.binds md e = true → listed.getD e.on false = true
def closedB (md : Region.Mode) (ops : Array Oper) (listed : Array Bool) : Bool :=
  (List.range ops.size).all (fun k => match ops[k]? with
    | none => true
    | some o => !(listed.getD k false) || o.after.all (fun e => !(Region.binds md e) || listed.getD e.on false))
theorem closed_of_B {listed : Array Bool} (h : closedB md ops listed = true) : Closed md ops listed := by
  intro k o hk hl e he hb
  have hlt : k < ops.size := (Array.getElem?_eq_some_iff.1 hk).1
  have h1 := List.all_eq_true.1 h k (List.mem_range.2 hlt)
  simp only [hk, hl, Bool.not_true, Bool.false_or] at h1
  have h2 := Array.all_eq_true_iff_forall_mem.1 h1 e he
  simpa [hb] using h2
theorem getD_set_self {listed : Array Bool} {j : Nat} (h : j < listed.size) : (listed.setIfInBounds j true).getD j false = true := by
  simp [h]
theorem Closed.set {listed : Array Bool} {j : Nat} (h : Closed md ops listed) (hj : j ∈ Region.ready md ops listed) : Closed md ops (listed.setIfInBounds j true) := by
  intro k o hk hl e he hb
  by_cases hkj : k = j
  · subst hkj
    obtain ⟨_, o', ho', hall⟩ := mem_ready.1 hj
    rw [hk] at ho'
    obtain rfl := Option.some.inj ho'
    exact getD_set_true (hall e he hb)
  · rw [getD_set_ne false (Ne.symm hkj)] at hl
    exact getD_set_true (h k o hk hl e he hb)
/-- Operation y waits for operation i, over n others at most. -/
def waits (md : Region.Mode) (ops : Array Oper) : Nat → Nat → Nat → Bool
  | 0, _, _ => false
  | n + 1, y, i => match ops[y]? with
    | none => false
    | some o => o.after.any (fun e => Region.binds md e && (e.on == i || waits md ops n e.on i))
theorem any_mem {α : Type} {p : α → Bool} {xs : Array α} (h : xs.any p = true) : ∃ x, x ∈ xs ∧ p x = true := by
  obtain ⟨i, hi, hp⟩ := Array.any_eq_true.1 h
  exact ⟨xs[i], Array.getElem_mem hi, hp⟩
theorem waits_listed {listed : Array Bool} {i : Nat} (h : Closed md ops listed) : ∀ (n y : Nat), waits md ops n y i = true → listed.getD y false = true → listed.getD i false = true
  | 0, _, hw, _ => by simp [waits] at hw
  | n + 1, y, hw, hl => by
    unfold waits at hw
    cases ho : ops[y]? with
    | none => simp [ho] at hw
    | some o =>
      simp only [ho] at hw
      obtain ⟨e, he, hq⟩ := any_mem hw
      simp only [Bool.and_eq_true, Bool.or_eq_true, beq_iff_eq] at hq
      have hon := h y o ho hl e he hq.1
      rcases hq.2 with rfl | h2
      · exact hon
      · exact waits_listed h n _ h2 hon
theorem waits_ready {listed : Array Bool} {i n y : Nat} (h : Closed md ops listed) (hw : waits md ops n y i = true) (hr : y ∈ Region.ready md ops listed) : listed.getD i false = true := by
  obtain ⟨_, o, ho, hall⟩ := mem_ready.1 hr
  cases n with
  | zero => simp [waits] at hw
  | succ n =>
    unfold waits at hw
    simp only [ho] at hw
    obtain ⟨e, he, hq⟩ := any_mem hw
    simp only [Bool.and_eq_true, Bool.or_eq_true, beq_iff_eq] at hq
    have hon := hall e he hq.1
    rcases hq.2 with rfl | h2
    · exact hon
    · exact waits_listed h n _ h2 hon
theorem anyOf_set {listed : Array Bool} {i : Nat} (h : i ∉ Y) : anyOf Y (listed.setIfInBounds i true) = anyOf Y listed := by
  unfold anyOf
  rw [Bool.eq_iff_iff, List.any_eq_true, List.any_eq_true]
  constructor
  · rintro ⟨y, hy, hl⟩
    exact ⟨y, hy, by rw [getD_set_ne false (fun e : i = y => h (by rw [e]; exact hy))] at hl; exact hl⟩
  · rintro ⟨y, hy, hl⟩
    exact ⟨y, hy, by rw [getD_set_ne false (fun e : i = y => h (by rw [e]; exact hy))]; exact hl⟩
theorem not_listed {listed : Array Bool} {i : Nat} (hr : i ∈ Region.ready md ops listed) : listed.getD i false = false := by
  have h0 := (mem_ready.1 hr).1
  rcases Nat.lt_or_ge i listed.size with h' | h'
  · simp [h'] at h0 ⊢; exact h0
  · simp [Array.getElem?_eq_none h']
/-- A load may be taken first: the store that hits what it reads waits for it. -/
theorem wpAnyY_first {i n : Nat} {oi : Oper} {v : Value} (hi : ops[i]? = some oi) (hsel : ∀ (j : Nat) (o : Oper) cs b, ops[j]? = some o → o.op ≠ .select cs b)
    (hQ : ∀ c a w, Q (.panic c) (a.put oi.dst v) w → Q (.panic c) a w) (hiY : i ∉ Y) (hwt : ∀ y ∈ Y, waits md ops n y i = true) :
    ∀ (fuel : Nat) (listed : Array Bool) (a : Act) (w : World),
      (∀ j oj, ops[j]? = some oj → j ≠ i → listed.getD j true = false → (∀ e ∈ oj.after, Region.binds md e = true → e.on ≠ i) → oi.apart ops oj = true) →
      i ∈ Region.ready md ops listed → YieldsIf P ops S oi v a → S w → Closed md ops listed → anyOf Y listed = false →
      wpAnyY P md ops Q S Y fuel (listed.setIfInBounds i true) (a.put oi.dst v) w → wpAnyY P md ops Q S Y (fuel + 1) listed a w := by
  intro fuel
  induction fuel with
  | zero =>
    intro listed a w _ hr hy hS _ _ H
    refine ⟨fun h => (by rw [h] at hr; cases hr), fun j hj => ?_⟩
    by_cases hji : j = i
    · subst hji; exact hy.wpOp hi hS ⟨.inr hS, H⟩
    · have := ready_mono hj hji
      rw [H.1] at this
      cases this
  | succ fuel ih =>
    intro listed a w hfree hr hy hS hcl hnY H
    refine ⟨fun h => (by rw [h] at hr; cases hr), fun j hj => ?_⟩
    by_cases hji : j = i
    · subst hji; exact hy.wpOp hi hS ⟨.inr hS, H⟩
    · have h1 := H.2 j (ready_mono hj hji)
      obtain ⟨hjun, oj, hoj, hall⟩ := mem_ready.1 hj
      have hin := not_listed hr
      have hnot : ∀ e ∈ oj.after, Region.binds md e = true → e.on ≠ i := fun e he hb heq => by
        have h1 := hall e he hb
        rw [heq, hin] at h1
        cases h1
      have hjY : j ∉ Y := fun hjY => by
        have := waits_ready hcl (hwt j hjY) hj
        rw [hin] at this
        cases this
      have hno2 : anyOf Y ((listed.setIfInBounds i true).setIfInBounds j true) = false := by
        rw [anyOf_set hjY, anyOf_set hiY]; exact hnY
      have h2 := wpOp_putIf hoj (hfree j oj hoj hji hjun hnot) (fun cs b => hsel i oi cs b hi) (fun cs b => hsel j oj cs b hoj) hQ hy h1
      have hfree' : ∀ k ok, ops[k]? = some ok → k ≠ i → (listed.setIfInBounds j true).getD k true = false →
          (∀ e ∈ ok.after, Region.binds md e = true → e.on ≠ i) → oi.apart ops ok = true := fun k ok hk hki hun hno => by
        refine hfree k ok hk hki ?_ hno
        by_cases hjk : j = k
        · subst hjk; exact hjun
        · rw [getD_set_ne true hjk] at hun; exact hun
      refine wpOp_mono (fun a' w' h3 => ?_) h2
      have hS' : S w' := by
        rcases h3.2.1 with h | h
        · rw [hno2] at h; cases h
        · exact h
      refine ⟨.inr hS', ih (listed.setIfInBounds j true) a' w' hfree' (ready_mono hr (Ne.symm hji)) h3.1 hS' (hcl.set hj) (by rw [anyOf_set hjY]; exact hnY) ?_⟩
      rw [Array.setIfInBounds_comm _ _ hji]
      exact h3.2.2
/-- What yields its value in whatever world may be taken first. -/
theorem wpAnyY_first0 {i : Nat} {oi : Oper} {v : Value} (hi : ops[i]? = some oi) (hsel : ∀ (j : Nat) (o : Oper) cs b, ops[j]? = some o → o.op ≠ .select cs b)
    (hQ : ∀ c a w, Q (.panic c) (a.put oi.dst v) w → Q (.panic c) a w) (hiY : i ∉ Y) :
    ∀ (fuel : Nat) (listed : Array Bool) (a : Act) (w : World),
      (∀ j oj, ops[j]? = some oj → j ≠ i → listed.getD j true = false → (∀ e ∈ oj.after, Region.binds md e = true → e.on ≠ i) → oi.apart ops oj = true) →
      i ∈ Region.ready md ops listed → YieldsIf P ops (fun _ => True) oi v a → (anyOf Y listed = true ∨ S w) →
      wpAnyY P md ops Q S Y fuel (listed.setIfInBounds i true) (a.put oi.dst v) w → wpAnyY P md ops Q S Y (fuel + 1) listed a w := by
  intro fuel
  induction fuel with
  | zero =>
    intro listed a w _ hr hy hS H
    refine ⟨fun h => (by rw [h] at hr; cases hr), fun j hj => ?_⟩
    by_cases hji : j = i
    · subst hji; exact hy.wpOp hi trivial ⟨by rw [anyOf_set hiY]; exact hS, H⟩
    · have := ready_mono hj hji
      rw [H.1] at this
      cases this
  | succ fuel ih =>
    intro listed a w hfree hr hy hS H
    refine ⟨fun h => (by rw [h] at hr; cases hr), fun j hj => ?_⟩
    by_cases hji : j = i
    · subst hji; exact hy.wpOp hi trivial ⟨by rw [anyOf_set hiY]; exact hS, H⟩
    · have h1 := H.2 j (ready_mono hj hji)
      obtain ⟨hjun, oj, hoj, hall⟩ := mem_ready.1 hj
      have hin := not_listed hr
      have hnot : ∀ e ∈ oj.after, Region.binds md e = true → e.on ≠ i := fun e he hb heq => by
        have h1 := hall e he hb
        rw [heq, hin] at h1
        cases h1
      have h2 := wpOp_putIf (S := fun _ => True) hoj (hfree j oj hoj hji hjun hnot) (fun cs b => hsel i oi cs b hi) (fun cs b => hsel j oj cs b hoj) hQ hy h1
      have hfree' : ∀ k ok, ops[k]? = some ok → k ≠ i → (listed.setIfInBounds j true).getD k true = false →
          (∀ e ∈ ok.after, Region.binds md e = true → e.on ≠ i) → oi.apart ops ok = true := fun k ok hk hki hun hno => by
        refine hfree k ok hk hki ?_ hno
        by_cases hjk : j = k
        · subst hjk; exact hjun
        · rw [getD_set_ne true hjk] at hun; exact hun
      refine wpOp_mono (fun a' w' h3 => ?_) h2
      have hS' : anyOf Y (listed.setIfInBounds j true) = true ∨ S w' := by
        have h4 := h3.2.1
        rw [Array.setIfInBounds_comm _ _ (Ne.symm hji), anyOf_set hiY] at h4
        exact h4
      refine ⟨hS', ih (listed.setIfInBounds j true) a' w' hfree' (ready_mono hr (Ne.symm hji)) h3.1 hS' ?_⟩
      rw [Array.setIfInBounds_comm _ _ hji]
      exact h3.2.2
theorem not_of_contains {Y : List Nat} {i : Nat} (h : Y.contains i = false) : i ∉ Y := fun hm => by
  have : Y.contains i = true := by simpa using hm
  rw [h] at this; cases this
/-- The steps of a walk. -/
theorem wpAnyY_load {i : Nat} {oi : Oper} {v : Value} {fuel : Nat} {listed : Array Bool} {a : Act} {w : World} (n : Nat) (hi : ops[i]? = some oi)
    (hs : Region.noSelect ops = true) (hf : Region.free md ops listed i = true) (hr : (Region.ready md ops listed).contains i = true)
    (hst : (!(Y.contains i) && Y.all (fun y => waits md ops n y i) && closedB md ops listed && !(anyOf Y listed)) = true)
    (hQ : ∀ c a w, Q (.panic c) (a.put oi.dst v) w → Q (.panic c) a w) (hy : YieldsIf P ops S oi v a) (hS : S w)
    (h : S w → wpAnyY P md ops Q S Y fuel (listed.setIfInBounds i true) (a.put oi.dst v) w) : wpAnyY P md ops Q S Y (fuel + 1) listed a w := by
  simp only [Bool.and_eq_true, Bool.not_eq_true'] at hst
  obtain ⟨⟨⟨h1, h2⟩, h3⟩, h4⟩ := hst
  exact wpAnyY_first (n := n) hi (Region.noSelect_spec hs) hQ (not_of_contains h1) (fun y hy => List.all_eq_true.1 h2 y hy) fuel listed a w (Region.free_spec hi hf) (by simpa using hr) hy hS (closed_of_B h3) h4 (h hS)
theorem wpAnyY_pure {i : Nat} {oi : Oper} {v : Value} {fuel : Nat} {listed : Array Bool} {a : Act} {w : World} (hi : ops[i]? = some oi)
    (hs : Region.noSelect ops = true) (hf : Region.free md ops listed i = true) (hr : (Region.ready md ops listed).contains i = true) (hst : Y.contains i = false)
    (hQ : ∀ c a w, Q (.panic c) (a.put oi.dst v) w → Q (.panic c) a w) (hy : YieldsIf P ops (fun _ => True) oi v a) (hS : anyOf Y listed = true ∨ S w)
    (h : wpAnyY P md ops Q S Y fuel (listed.setIfInBounds i true) (a.put oi.dst v) w) : wpAnyY P md ops Q S Y (fuel + 1) listed a w :=
  wpAnyY_first0 hi (Region.noSelect_spec hs) hQ (not_of_contains hst) fuel listed a w (Region.free_spec hi hf) (by simpa using hr) hy hS h
/-- The one operation that may come up. -/
theorem wpAnyY_one {i : Nat} {o : Oper} {fuel : Nat} {listed : Array Bool} {a : Act} {w : World} (hr : Region.ready md ops listed = [i]) (ho : ops[i]? = some o)
    (h : ∀ K' : Act → World → Prop, Shut (∀ a w, (anyOf Y (listed.setIfInBounds i true) = true ∨ S w) → wpAnyY P md ops Q S Y fuel (listed.setIfInBounds i true) a w → K' a w) → if Region.wanted o (yielded ops a.tmps) = true then Oper.wp P o a w K' Q else K' (a.put o.dst undef) w) :
    wpAnyY P md ops Q S Y (fuel + 1) listed a w :=
  ⟨fun h0 => (by rw [hr] at h0; cases h0), fun j hj => by
    rw [hr] at hj
    obtain rfl := List.mem_singleton.1 hj
    exact wpOp_step ho (fun K' hK => h K' (fun a w hS hW => hK a w ⟨hS, hW⟩))⟩
theorem wpAnyY_done {listed : Array Bool} {a : Act} {w : World} (hr : Region.ready md ops listed = []) (h : Q .normal a w) :
    ∀ fuel, wpAnyY P md ops Q S Y fuel listed a w
  | 0 => ⟨hr, h⟩
  | _ + 1 => ⟨fun _ => h, by rw [hr]; simp⟩
theorem wp_region_Y {id : Nat} {a : Act} {w : World} (S : World → Prop) (Y : List Nat) (hm : P.follows .mixedOrders = true) (hS : S w.drew)
    (h : S w.drew → wpAnyY P .any ops Q S Y ops.size (Array.replicate ops.size false) a w.drew) : (Code.region id ops true).wp P Q a w :=
  wp_region_any hm (wpAny_of_Y _ _ _ _ (h hS))
end
end Go.Proofs.YtihghflppegnmaaGreatDoor
namespace Go.Proofs.YtihghflppegnmaaGreatDoor
open Go.ChangeShapes Go.WideShapes Go.ChangeAt Go.RowKit
attribute [local go_sem ↓] Go.wp_at_zero Go.wp_at_succ
theorem under_pre {pre : ByteArray} {m m' : Mch} {ks : List ByteArray} (E : (underP pre).run m = (m', ks)) : ∀ x ∈ ks, beginsB x pre = true := by
  obtain ⟨e1, e2⟩ := Prod.mk.inj (show (lookM m (starK pre), keysU m.st pre) = (m', ks) from E)
  subst e1 e2
  intro x hx
  unfold keysU at hx
  obtain ⟨c, hc, rfl⟩ := List.mem_map.1 hx
  exact (List.mem_filter.1 hc).2
theorem begins_size {x pre : ByteArray} (h : beginsB x pre = true) : pre.size ≤ x.size := by
  unfold beginsB at h
  simp only [Bool.and_eq_true, decide_eq_true_eq] at h
  exact h.1
theorem forkL_then {a b k : ByteArray} {ks : List ByteArray} {m m1 m2 : Mch} {x : ByteArray} {u : Unit} {r : Mch × Unit} (E1 : (lookP k).run m = (m1, x)) (E2 : (layP (b ++ k.extract a.size k.size) x).run m1 = (m2, u)) (E : (forkL a b (k :: ks)).run m = r) : (forkL a b ks).run m2 = r := by
  obtain ⟨e1, e2⟩ := Prod.mk.inj (show (lookM m k, getKeyS m.st k) = (m1, x) from E1)
  subst e1 e2
  obtain ⟨e1, e2⟩ := Prod.mk.inj (show (layM (lookM m k) (b ++ k.extract a.size k.size) (getKeyS m.st k), ()) = (m2, u) from E2)
  subst e1
  exact E
theorem look_sz {m m1 : Mch} {k x : ByteArray} {n : Nat} (ho : MOk n m) (E : (lookP k).run m = (m1, x)) : x.size ≤ 1048576 := by
  obtain ⟨e1, e2⟩ := Prod.mk.inj (show (lookM m k, getKeyS m.st k) = (m1, x) from E)
  subst e1 e2
  exact get_sz ho.sz k

set_option maxRecDepth 100000 in
set_option maxHeartbeats 16000000 in
theorem pFork_c (p base : Nat) (v1 v2 v3 : Value) (m m' : Mch) (x : Unit) (i j : Int) (w : World) (h : MAt w p base v1 v2 v3 m) (ho : MOk 600000000000 m) (hi : I64 i) (hj : I64 j) (HT : ∀ W, Below base w W → Tabs W) (E : (forkP i j).run m = (m', x)) :
    Calls Tryz.prog 107 #[.pointer (some ⟨p, 0, none⟩), .int .i64 i, .int .i64 j] w (MStep p base v1 v2 v3 m' (.tuple #[]) w) := by
  have H := Lib.hid h
  have HTT := Lib.hid HT
  have O0 := Lib.hid ho
  clear h ho HT
  have KI := Lib.hid (fun W hT => pagesKey_c i W hi hT)
  have KJ := Lib.hid (fun W hT => pagesKey_c j W hj hT)
  have hsi := pagesK_size hi
  have hsj := pagesK_size hj
  unfold forkP at E
  generalize pagesK i = pi at *
  generalize pagesK j = pj at *
  obtain ⟨m1, ks, E1⟩ : ∃ aa bb, (underP pi).run m = (aa, bb) := ⟨_, _, rfl⟩
  have O1 := Lib.hid ((underP_cost _).okE O0.out E1)
  obtain ⟨hsz, hkn⟩ := under_sz O0.out E1
  have hpre := under_pre E1
  have HE := Lib.hid (under_then E1 E)
  have HE1 := Lib.hid E1
  have HSZ := Lib.hid hsz
  have HPRE := Lib.hid hpre
  clear E E1 hsz hpre hi hj
  go_enter Tryz.func107, Tryz.ntmps107
  go_wp2_with fail
  refine (KI.out w (HTT.out w (Below.refl _ _))).mono ?_
  rintro e w0 ⟨rfl, hb0⟩
  have M0 := Lib.hid (H.out.below hb0)
  have B0 := Lib.hid (hb0.mono H.out.hb)
  have G0 := Lib.hid (show ∀ m' r e w', MStep p base v1 v2 v3 m' r w0 e w' → MStep p base v1 v2 v3 m' r w e w' from fun _ _ _ _ h => MStep.next (Grow3.of_below hb0) (.inl rfl) (.inl rfl) (.inl rfl) h)
  have K3 := Lib.hid (pUnder_c p base v1 v2 v3 m m1 ks pi w0 M0.out (O0.out.mono (by omega)) (by omega) HE1.out)
  clear hb0
  go_wp2_with fail
  refine K3.out.mono ?_
  rintro e w3 ⟨t1, t2, t3, a, c, rfl, hm, hg, q1, q2, q3, hk⟩
  have L1 := Lib.hid (show LAt p base v1 v2 v3 w a ks w3 t1 t2 t3 m1 (600000000000 + 1) from ⟨hm, O1.out, hk, fun _ _ _ _ hs => G0.out _ _ _ _ (MStep.next hg q1 q2 q3 hs), B0.out.trans (M0.out.grow hg)⟩)
  clear hm hg q1 q2 q3 hk K3 G0 M0 B0 O1 HE1 H O0
  go_wp2
  go_loopw [13] (fun i wr => ∃ k : Nat, k ≤ ks.length ∧ i = .int .i64 k ∧ Hid (∃ y1 y2 y3 mk, LAt p base v1 v2 v3 w a ks wr y1 y2 y3 mk (600000000001 + 2 * k) ∧ (forkL pi pj (ks.drop k)).run mk = (m', x))) (fun i _ => ks.length - (intOf i).toNat)
  case atStart => exact ⟨0, Nat.zero_le _, rfl, Lib.hid ⟨_, _, _, _, L1.out, HE.out⟩⟩
  case round =>
    obtain ⟨k, hk, rfl, HI⟩ := hrel
    obtain ⟨y1, y2, y3, mk, hl, hr⟩ := HI.out
    have HL := Lib.hid hl
    have HR := Lib.hid hr
    clear HI hl hr L1 HE
    by_cases hlt : k < ks.length
    · obtain ⟨y, hy⟩ := some_of_lt hlt
      obtain ⟨b, off, hab, c0⟩ := readFS HL.out.keys.rd (Below.refl _ _) hy
      subst hab
      have p1 : (0 : Int) ≤ (k : Int) := by omega
      have p2 : (k : Int) < (ks.length : Int) := by omega
      have hys := HSZ.out y (List.mem_of_getElem? hy)
      have hyp : pi.size ≤ y.size := begins_size (HPRE.out y (List.mem_of_getElem? hy))
      obtain ⟨n1, z1, F1⟩ : ∃ aa bb, (lookP y).run mk = (aa, bb) := ⟨_, _, rfl⟩
      have P1 := Lib.hid ((lookP_cost _).okE HL.out.ok F1)
      have hz1 := look_sz HL.out.ok F1
      obtain ⟨n2, u2, F2⟩ : ∃ aa bb, (layP (pj ++ y.extract pi.size y.size) z1).run n1 = (aa, bb) := ⟨_, _, rfl⟩
      have P2 := Lib.hid ((layP_cost _ _).okE P1.out F2)
      have HR2 := Lib.hid (show (forkL pi pj (ks.drop (k + 1))).run n2 = (m', x) from by
        have h := HR.out
        rw [drop_cons hy] at h
        exact forkL_then F1 F2 h)
      have HF1 := Lib.hid F1
      have HF2 := Lib.hid F2
      have hes : (y.extract pi.size y.size).size ≤ 1048576 := by rw [ByteArray.size_extract]; omega
      have hcs : (pj ++ y.extract pi.size y.size).size ≤ maxLen := by rw [ByteArray.size_append]; unfold maxLen; omega
      have p3 : (pi.size : Int) ≤ (y.size : Int) := by omega
      have p4 : ¬ 9223372036854775807 < pj.size + (y.size - pi.size) := by omega
      clear hy HR F1 F2
      go_wp2_with fail
      refine wp_region_Y (fun _ => True) [] (by kernel_rfl) trivial (fun _ => ?_)
      refine wpAnyY_pure (i := 0) (oi := _) (v := ?_) rfl (by kernel_rfl) (by kernel_rfl) (by kernel_rfl) (by kernel_rfl) (fun _ _ _ h => h) (Or.inl ⟨by rfl, ?_⟩) (Or.inr trivial) ?_
      rotate_left
      · (intro w hSw; (try dsimp only at hSw); go_simp); all_goals with_reducible rfl
      try simp only [Act.put, List.getElem_toArray, List.getElem_cons_zero, List.getElem_cons_succ, List.setIfInBounds_toArray, List.set_cons_zero, List.set_cons_succ]
      refine wpAnyY_pure (i := 1) (oi := _) (v := ?_) rfl (by kernel_rfl) (by kernel_rfl) (by kernel_rfl) (by kernel_rfl) (fun _ _ _ h => h) (Or.inl ⟨by rfl, ?_⟩) (Or.inr trivial) ?_
      rotate_left
      · (intro w hSw; (try dsimp only at hSw); go_simp); all_goals with_reducible rfl
      try simp only [Act.put, List.getElem_toArray, List.getElem_cons_zero, List.getElem_cons_succ, List.setIfInBounds_toArray, List.set_cons_zero, List.set_cons_succ]
      refine wpAnyY_pure (i := 3) (oi := _) (v := ?_) rfl (by kernel_rfl) (by kernel_rfl) (by kernel_rfl) (by kernel_rfl) (fun _ _ _ h => h) (Or.inl ⟨by rfl, ?_⟩) (Or.inr trivial) ?_
      rotate_left
      · (intro w hSw; (try dsimp only at hSw); go_simp); all_goals with_reducible rfl
      try simp only [Act.put, List.getElem_toArray, List.getElem_cons_zero, List.getElem_cons_succ, List.setIfInBounds_toArray, List.set_cons_zero, List.set_cons_succ]
      refine wpAnyY_pure (i := 4) (oi := _) (v := ?_) rfl (by kernel_rfl) (by kernel_rfl) (by kernel_rfl) (by kernel_rfl) (fun _ _ _ h => h) (Or.inl ⟨by rfl, ?_⟩) (Or.inr trivial) ?_
      rotate_left
      · (intro w hSw; (try dsimp only at hSw); go_simp); all_goals with_reducible rfl
      try simp only [Act.put, List.getElem_toArray, List.getElem_cons_zero, List.getElem_cons_succ, List.setIfInBounds_toArray, List.set_cons_zero, List.set_cons_succ]
      refine wpAnyY_pure (i := 9) (oi := _) (v := ?_) rfl (by kernel_rfl) (by kernel_rfl) (by kernel_rfl) (by kernel_rfl) (fun _ _ _ h => h) (Or.inl ⟨by rfl, ?_⟩) (Or.inr trivial) ?_
      rotate_left
      · (intro w hSw; (try dsimp only at hSw); go_simp); all_goals with_reducible rfl
      try simp only [Act.put, List.getElem_toArray, List.getElem_cons_zero, List.getElem_cons_succ, List.setIfInBounds_toArray, List.set_cons_zero, List.set_cons_succ]
      refine wpAnyY_pure (i := 10) (oi := _) (v := ?_) rfl (by kernel_rfl) (by kernel_rfl) (by kernel_rfl) (by kernel_rfl) (fun _ _ _ h => h) (Or.inl ⟨by rfl, ?_⟩) (Or.inr trivial) ?_
      rotate_left
      · (intro w hSw; (try dsimp only at hSw); go_simp); all_goals with_reducible rfl
      try simp only [Act.put, List.getElem_toArray, List.getElem_cons_zero, List.getElem_cons_succ, List.setIfInBounds_toArray, List.set_cons_zero, List.set_cons_succ]
      refine wpAnyY_one (i := 2) (o := _) (by kernel_rfl) rfl (fun K hK => ?_)
      go_simp
      go_at_call 168
      refine (KJ.out _ (HTT.out _ (HL.out.bel.trans ((Below.drew (Below.refl _ _)).mono (HL.out.at_.hb))))).mono ?_
      rintro e w4 ⟨rfl, hb⟩
      have L2 := Lib.hid ((HL.out.below (Below.drew (Below.refl _ _))).below hb)
      clear hb HL
      go_wp2_with fail
      refine hK.out _ _ (Or.inr trivial) ?_
      clear hK K
      try simp only [Act.put, List.getElem_toArray, List.getElem_cons_zero, List.getElem_cons_succ, List.setIfInBounds_toArray, List.set_cons_zero, List.set_cons_succ]
      refine wpAnyY_one (i := 5) (o := _) (by kernel_rfl) rfl (fun K hK => ?_)
      go_simp
      go_at_call 168
      refine (KI.out _ (HTT.out _ L2.out.bel)).mono ?_
      rintro e w5 ⟨rfl, hb⟩
      have L3 := Lib.hid (L2.out.below hb)
      have Q1 := Lib.hid (pLook_c p base y1 y2 y3 mk n1 z1 y w5 L3.out.at_ (L3.out.ok.mono (by omega)) HF1.out)
      clear hb L2
      go_wp2_with fail
      refine hK.out _ _ (Or.inr trivial) ?_
      clear hK K
      try simp only [Act.put, List.getElem_toArray, List.getElem_cons_zero, List.getElem_cons_succ, List.setIfInBounds_toArray, List.set_cons_zero, List.set_cons_succ]
      refine wpAnyY_pure (i := 6) (oi := _) (v := ?_) rfl (by kernel_rfl) (by kernel_rfl) (by kernel_rfl) (by kernel_rfl) (fun _ _ _ h => h) (Or.inl ⟨by rfl, ?_⟩) (Or.inr trivial) ?_
      rotate_left
      · (intro w hSw; (try dsimp only at hSw); go_simp); all_goals with_reducible rfl
      try simp only [Act.put, List.getElem_toArray, List.getElem_cons_zero, List.getElem_cons_succ, List.setIfInBounds_toArray, List.set_cons_zero, List.set_cons_succ]
      refine wpAnyY_pure (i := 7) (oi := _) (v := ?_) rfl (by kernel_rfl) (by kernel_rfl) (by kernel_rfl) (by kernel_rfl) (fun _ _ _ h => h) (Or.inl ⟨by rfl, ?_⟩) (Or.inr trivial) ?_
      rotate_left
      · (intro w hSw; (try dsimp only at hSw); go_simp); all_goals with_reducible rfl
      try simp only [Act.put, List.getElem_toArray, List.getElem_cons_zero, List.getElem_cons_succ, List.setIfInBounds_toArray, List.set_cons_zero, List.set_cons_succ]
      refine wpAnyY_pure (i := 8) (oi := _) (v := ?_) rfl (by kernel_rfl) (by kernel_rfl) (by kernel_rfl) (by kernel_rfl) (fun _ _ _ h => h) (Or.inl ⟨by rfl, ?_⟩) (Or.inr trivial) ?_
      rotate_left
      · (intro w hSw; (try dsimp only at hSw); go_simp); all_goals with_reducible rfl
      try simp only [Act.put, List.getElem_toArray, List.getElem_cons_zero, List.getElem_cons_succ, List.setIfInBounds_toArray, List.set_cons_zero, List.set_cons_succ]
      refine wpAnyY_one (i := 11) (o := _) (by kernel_rfl) rfl (fun K hK => ?_)
      go_simp
      go_at_call 169
      refine Q1.out.mono ?_
      rintro e w6 ⟨r1, r2, r3, rfl, hm, hg, q1, q2, q3⟩
      have L4 := Lib.hid (L3.out.next hm hg q1 q2 q3 P1.out)
      have Q2 := Lib.hid (pLay_c p base r1 r2 r3 n1 n2 u2 (pj ++ y.extract pi.size y.size) z1 w6 hm (P1.out.mono (by omega)) hcs (by unfold maxLen; omega) HF2.out)
      clear hm hg q1 q2 q3
      go_wp2_with fail
      refine hK.out _ _ (Or.inr trivial) ?_
      clear hK K
      try simp only [Act.put, List.getElem_toArray, List.getElem_cons_zero, List.getElem_cons_succ, List.setIfInBounds_toArray, List.set_cons_zero, List.set_cons_succ]
      refine wpAnyY_one (i := 12) (o := _) (by kernel_rfl) rfl (fun K hK => ?_)
      go_simp
      go_at_call 157
      refine Q2.out.mono ?_
      rintro e w7 ⟨j1, j2, j3, rfl, hm, hg, q1, q2, q3⟩
      have L5 := Lib.hid (L4.out.next hm hg q1 q2 q3 P2.out)
      clear hm hg q1 q2 q3
      go_wp2_with fail
      refine hK.out _ _ (Or.inr trivial) ?_
      clear hK K
      try simp only [Act.put, List.getElem_toArray, List.getElem_cons_zero, List.getElem_cons_succ, List.setIfInBounds_toArray, List.set_cons_zero, List.set_cons_succ]
      refine wpAnyY_done (by kernel_rfl) ?_ _
      go_wp2
      go_roundw
      case rel => exact ⟨k + 1, by omega, by go_num, Lib.hid ⟨_, _, _, _, L5.out.mono (by omega), HR2.out⟩⟩
      case measure => simp [intOf]; omega
    · obtain rfl : k = ks.length := by omega
      have p2 : ¬ ((ks.length : Nat) : Int) < (ks.length : Int) := by omega
      have HEND := Lib.hid (show MStep p base v1 v2 v3 m' (.tuple #[]) w (.returned (.tuple #[])) wr from by
        have h := HR.out
        rw [List.drop_length] at h
        obtain ⟨e1, _⟩ := Prod.mk.inj (show (mk, ()) = (m', x) from h)
        subst e1
        exact HL.out.back _ _ _ _ (HL.out.at_.step (Below.refl _ _) _))
      clear HR HL
      go_wp2
      exact bodyPost_ret (v := .tuple #[]) (by simp [results, Tryz.results107, go_sem]) rfl HEND.out
end Go.Proofs.YtihghflppegnmaaGreatDoor
