/- Contracts: the reference's OutCount, and OutsFrom of both sides: the messages from a place on. Conditions: the bounds that any Go slice and string meets; the library's variables hold what their texts lay. -/
import Derived.Test.YtedbmmoddemngaaDoorOuts
namespace Go.Proofs.YtedbmmoddemngaaDoor
open Go.RowKit
attribute [local go_sem ↓] Go.wp_at_zero Go.wp_at_succ
theorem specOutCount_c (a : Option Addr) (cap : Nat) (xs : List (ByteArray × ByteArray)) (w : World) (hlen : xs.length ≤ 1048576) (hr : Reads w a 2 encC xs) (ho : ∀ x ∈ xs, x.2.size ≤ 1048576) :
    Calls Tryd.prog 31 #[.slice a xs.length cap] w fun e w' => e = .returned (.int .i64 (outN xs : Int)) ∧ Below w.heap.size w w' := by
  have K := Lib.hid (specOutsIn_c a cap xs w hlen hr ho)
  have HL := Lib.hid (outsL_len xs)
  clear hr ho
  go_enter Tryd.func31, Tryd.ntmps31
  go_wp2_with fail
  refine K.out.mono ?_
  rintro e w1 ⟨v, rfl, ho1, hb1⟩
  obtain ⟨a1, c1, rfl, _⟩ := reads_of_owns encS_len ho1
  rw [HL.out]
  clear ho1
  go_wp2
  go_ret
  exact ⟨rfl, hb1⟩
/-- The messages from place n on. -/
noncomputable def outsF (xs : List (ByteArray × ByteArray)) (n : Int) : List ByteArray := (outsL xs).drop (broughtV n 0 (outsL xs).length).toNat
theorem outsF_len (xs : List (ByteArray × ByteArray)) (n : Int) : (outsF xs n).length ≤ 40 := by
  unfold outsF
  rw [List.length_drop]
  have := outN_le xs
  rw [outsL_len]; omega
theorem dropReads {α : Type} {enc : α → List Value} {w : World} {b off K k : Nat} {xs : List α} (h : Reads w (some ⟨b, off, none⟩) K enc xs) : Reads w (some ⟨b, off + k * K, none⟩) K enc (xs.drop k) := by
  rcases h with rfl | ⟨b', off', e, h2, h3⟩
  · exact .inl (by simp)
  · cases e
    refine .inr ⟨b, off + k * K, rfl, h2, fun i x hx j v hv => ?_⟩
    rw [List.getElem?_drop] at hx
    have := h3 (k + i) x hx j v hv
    rwa [show off + ((k + i) * K + j) = off + k * K + (i * K + j) by rw [Nat.add_mul]; omega] at this

set_option maxRecDepth 100000 in
set_option maxHeartbeats 4000000 in
theorem implOutsFrom_c (a : Option Addr) (cap : Nat) (xs : List (ByteArray × ByteArray)) (n : Int) (w : World) (hlen : xs.length ≤ 1048576) (hr : Reads w a 2 encC xs) (ho : ∀ x ∈ xs, x.2.size ≤ 1048576) (hT : Tabs w) :
    Calls Tryd.prog 42 #[.slice a xs.length cap, .int .i64 n] w (Fresh 9 1 ((outsF xs n).flatMap encS) (outsF xs n).length w) := by
  have K := Lib.hid (implOutsIn_c a cap xs w hlen hr ho hT)
  have HF := Lib.hid (show outsF xs n = (outsL xs).drop (broughtV n 0 (outsL xs).length).toNat from rfl)
  have HL := Lib.hid (show (outsL xs).length ≤ 40 from by rw [outsL_len]; exact outN_le xs)
  have KB := Lib.hid (fun W => implBrought_c n 0 ((outsL xs).length : Nat) W)
  obtain ⟨k, hk, hkl⟩ : ∃ k : Nat, broughtV n 0 ((outsL xs).length : Nat) = (k : Int) ∧ k ≤ (outsL xs).length := ⟨(broughtV n 0 ((outsL xs).length : Nat)).toNat, by unfold broughtV; omega, by unfold broughtV; omega⟩
  rw [hk] at KB HF
  rw [Int.toNat_natCast] at HF
  generalize outsF xs n = F at *
  generalize outsL xs = L at *
  have hkl' : (k : Int) ≤ (L.length : Int) := by omega
  have hk0 : (0 : Int) ≤ (k : Int) := by omega
  have HKL := Lib.hid hkl
  clear hr ho hT hk hkl
  go_enter Tryd.func42, Tryd.ntmps42
  go_wp2_with fail
  refine K.out.mono ?_
  rintro e w1 ⟨v, rfl, ho1, hb1⟩
  obtain ⟨a1, c1, rfl, hr1, hc1, hm1⟩ := reads_of_owns' encS_len ho1
  have HB1 := Lib.hid hb1
  have HR1 := Lib.hid hr1
  have hc1' : (L.length : Int) ≤ (c1 : Int) := by omega
  have hkc : (k : Int) ≤ (c1 : Int) := by omega
  clear ho1 hb1 hr1 K
  go_wp2_with fail
  refine (KB.out _).mono ?_
  rintro e w2 ⟨rfl, rfl⟩
  have hFl : F.length = L.length - k := by rw [HF.out, List.length_drop]
  have HFL := Lib.hid hFl
  clear hFl
  have KC := Lib.hid (fun A C (h : Reads w1 A 1 encS F) => cloneS_c A C F w1 (by have := HFL.out; have := HL.out; omega) h)
  rw [HFL.out] at KC
  by_cases hlt : k < L.length
  · obtain ⟨b, off, rfl⟩ : ∃ b off, a1 = some ⟨b, off, none⟩ := by
      rcases HR1.out with h | ⟨b, off, h, _⟩
      · rw [h] at hlt; simp at hlt
      · exact ⟨b, off, h⟩
    have K3 := Lib.hid (KC.out (some ⟨b, off + k, none⟩) (c1 - k) (by have := dropReads (k := k) HR1.out; rw [Nat.mul_one, ← HF.out] at this; exact this))
    clear KC HR1 HF
    go_wp2_with fail
    refine K3.out.mono ?_
    rintro e w3 ⟨v3, rfl, o3, hb3⟩
    have HE := Lib.hid (show Fresh 9 1 (F.flatMap encS) F.length w (.returned v3) w3 from ⟨v3, rfl, ownsRow_base (by rw [HFL.out]; exact o3) HB1.out.size, HB1.out.trans (hb3.mono HB1.out.size)⟩)
    clear o3 hb3
    go_wp2
    go_ret
    exact HE.out
  · obtain rfl : k = L.length := by have := HKL.out; omega
    have hz : F = [] := List.eq_nil_of_length_eq_zero (by have := HFL.out; omega)
    subst hz
    have KC2 := Lib.hid (fun A C => cloneS_c A C [] w1 (by decide) (.inl rfl))
    clear KC
    go_wp2_with fail
    all_goals
      refine (KC2.out _ _).mono ?_
      rintro e w3 ⟨v3, rfl, o3, hb3⟩
      have HE := Lib.hid (show Fresh 9 1 [] 0 w (.returned v3) w3 from ⟨v3, rfl, ownsRow_base o3 HB1.out.size, HB1.out.trans (hb3.mono HB1.out.size)⟩)
      clear o3 hb3
      go_wp2
      go_ret
      exact HE.out

set_option maxRecDepth 100000 in
set_option maxHeartbeats 4000000 in
theorem specOutsFrom_c (a : Option Addr) (cap : Nat) (xs : List (ByteArray × ByteArray)) (n : Int) (w : World) (hlen : xs.length ≤ 1048576) (hr : Reads w a 2 encC xs) (ho : ∀ x ∈ xs, x.2.size ≤ 1048576) :
    Calls Tryd.prog 41 #[.slice a xs.length cap, .int .i64 n] w (Fresh 9 1 ((outsF xs n).flatMap encS) (outsF xs n).length w) := by
  obtain ⟨i0, hi, hzz⟩ := Option.map_eq_some_iff.1 infoString
  simp only [Prod.mk.injEq] at hzz
  have HI := Lib.hid hi
  have HZ := Lib.hid hzz
  have K := Lib.hid (specOutsIn_c a cap xs w hlen hr ho)
  have HF := Lib.hid (show outsF xs n = (outsL xs).drop (broughtV n 0 (outsL xs).length).toNat from rfl)
  have HL := Lib.hid (show (outsL xs).length ≤ 40 from by rw [outsL_len]; exact outN_le xs)
  have KB := Lib.hid (fun W => specBrought_c n 0 ((outsL xs).length : Nat) W)
  obtain ⟨k, hk, hkl⟩ : ∃ k : Nat, broughtV n 0 ((outsL xs).length : Nat) = (k : Int) ∧ k ≤ (outsL xs).length := ⟨(broughtV n 0 ((outsL xs).length : Nat)).toNat, by unfold broughtV; omega, by unfold broughtV; omega⟩
  rw [hk] at KB HF
  rw [Int.toNat_natCast] at HF
  generalize outsF xs n = F at *
  generalize outsL xs = L at *
  have hkl' : (k : Int) ≤ (L.length : Int) := by omega
  have hk0 : (0 : Int) ≤ (k : Int) := by omega
  have HKL := Lib.hid hkl
  clear hr ho hk hkl hi hzz
  go_enter Tryd.func41, Tryd.ntmps41
  go_wp2_with fail
  refine K.out.mono ?_
  rintro e w1 ⟨v, rfl, ho1, hb1⟩
  obtain ⟨a1, c1, rfl, hr1, hc1, hm1⟩ := reads_of_owns' encS_len ho1
  have HB1 := Lib.hid hb1
  have HR1 := Lib.hid hr1
  have hc1' : (L.length : Int) ≤ (c1 : Int) := by omega
  have hkc : (k : Int) ≤ (c1 : Int) := by omega
  have HO := Lib.hid (ownsRow_base (own_empty0 w1 9 1) hb1.size)
  have BA := Lib.hid (show Below w.heap.size w (w1.alloc (.cells #[] 9)) from (by repeat (first | exact Below.refl _ _ | refine Below.drew ?_ | refine below_drewN ?_ _ | refine Below.allocC ?_ _ | refine Below.setCell ?_ (by first | (simp; done) | (simp; omega)) _ | refine Below.chain ?_ (by assumption))))
  clear ho1 hb1 hr1 K
  go_wp2_with fail
  refine (KB.out _).mono ?_
  rintro e w2 ⟨rfl, rfl⟩
  have hFl : F.length = L.length - k := by rw [HF.out, List.length_drop]
  have HFL := Lib.hid hFl
  clear hFl
  by_cases hlt : k < L.length
  · obtain ⟨b, off, rfl⟩ : ∃ b off, a1 = some ⟨b, off, none⟩ := by
      rcases HR1.out with h | ⟨b, off, h, _⟩
      · rw [h] at hlt; simp at hlt
      · exact ⟨b, off, h⟩
    have HRd := Lib.hid (show Reads (w1.alloc (.cells #[] 9)) (some ⟨b, off + k, none⟩) 1 encS F from by
      have := dropReads (k := k) (HR1.out.below (show Below w1.heap.size w1 (w1.alloc (.cells #[] 9)) from (by repeat (first | exact Below.refl _ _ | refine Below.drew ?_ | refine below_drewN ?_ _ | refine Below.allocC ?_ _ | refine Below.setCell ?_ (by first | (simp; done) | (simp; omega)) _ | refine Below.chain ?_ (by assumption))))); rw [Nat.mul_one, ← HF.out] at this; exact this)
    clear HR1 HF
    go_wp2_with (at_builtin; refine wpList_append_reads _ rfl _ _ 51 rfl w.heap.size 9 i0 (.string ⟨#[]⟩) 1 16 Tryd.underlying51 HI.out HZ.out.1 HZ.out.2.1 HZ.out.2.2 rfl (by decide) encS_len encS_one _ 0 [] rfl HO.out (some ⟨b, off + k, none⟩) (L.length - k) (c1 - k) F rfl HFL.out.symm HRd.out (by rw [HFL.out]; have := HL.out; unfold maxLen; omega) (by rw [HFL.out]; have := HL.out; omega) BA.out.size ?_)
    intro v3 w3 o3 g3 or3
    have HB3 := Lib.hid (below_of_own0 BA.out HO.out g3)
    have HE := Lib.hid (show Fresh 9 1 (F.flatMap encS) F.length w (.returned v3) w3 from ⟨v3, rfl, by first | exact o3 | simpa using o3, HB3.out⟩)
    clear o3 g3 or3
    go_wp2
    go_ret
    exact HE.out
  · obtain rfl : k = L.length := by have := HKL.out; omega
    have hz : F = [] := List.eq_nil_of_length_eq_zero (by have := HFL.out; omega)
    subst hz
    go_wp2_with (at_builtin; refine wpList_append_reads _ rfl _ _ 51 rfl w.heap.size 9 i0 (.string ⟨#[]⟩) 1 16 Tryd.underlying51 HI.out HZ.out.1 HZ.out.2.1 HZ.out.2.2 rfl (by decide) encS_len encS_one _ 0 [] rfl HO.out _ _ _ [] rfl (by simp) (.inl rfl) (by simp) (by simp) BA.out.size ?_)
    all_goals
      intro v3 w3 o3 g3 or3
      have HB3 := Lib.hid (below_of_own0 BA.out HO.out g3)
      have HE := Lib.hid (show Fresh 9 1 [] 0 w (.returned v3) w3 from ⟨v3, rfl, by first | exact o3 | simpa using o3, HB3.out⟩)
      clear o3 g3 or3
      go_wp2
      go_ret
      exact HE.out
end Go.Proofs.YtedbmmoddemngaaDoor
