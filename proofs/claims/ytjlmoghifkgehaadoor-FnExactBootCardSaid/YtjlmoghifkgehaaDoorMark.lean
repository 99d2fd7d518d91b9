/- Contract: markText: the letter m and the decimal digits ('markT'). Condition: the number is positive and an int. -/
import Derived.Test.YtjlmoghifkgehaaDoorProg
import Derived.WalkKit
import Derived.WalkSpells
import Derived.WalkLawsBesides
import Derived.Test.YtjlmoghifkgehaaDoorOwn
import Derived.Lib.Hide
import Derived.Laws.IdiomStrings
import Derived.Deep.RegionHeld3
import Derived.Deep.DrawnRows
namespace Go.Proofs.YtjlmoghifkgehaaDoor
open Go.RowKit
attribute [local go_sem ↓] Go.wp_at_zero Go.wp_at_succ
def markLoop (n : Nat) (s : ByteArray) : ByteArray := if n = 0 then s else markLoop (n / 10) (⟨#[UInt8.ofNat (48 + n % 10)]⟩ ++ s)
termination_by n
decreasing_by omega
theorem markLoop_zero (s : ByteArray) : markLoop 0 s = s := by unfold markLoop; simp
theorem markLoop_step {n : Nat} (h : 0 < n) (s : ByteArray) : markLoop n s = markLoop (n / 10) (⟨#[UInt8.ofNat (48 + n % 10)]⟩ ++ s) := by
  rw [markLoop, if_neg (by omega)]
/-- The letter m and the digits of k. -/
def markT (k : Nat) : ByteArray := ⟨#[109]⟩ ++ markLoop k ByteArray.empty

set_option maxHeartbeats 2000000 in
theorem markText_c (k : Nat) (w : World) (h0 : 0 < k) (h1 : k ≤ 1000000000) :
    Calls Tryd.prog 13 #[.int .i64 k] w fun e w' => e = .returned (.string (markT k)) ∧ Below w.heap.size w w' := by
  have p0 : ¬ (k : Int) ≤ 0 := by omega
  go_enter Tryd.func13, Tryd.ntmps13
  go_wp2
  go_loopw [0, 3] (fun i s wr => ∃ (n : Nat) (t : ByteArray), i = .int .i64 n ∧ s = .string t ∧ t.size + n ≤ k ∧ Hid (markLoop n t = markLoop k ByteArray.empty) ∧ Below w.heap.size w wr) (fun i _ _ => (intOf i).toNat)
  case atStart => exact ⟨k, ByteArray.empty, rfl, rfl, by simp, Lib.hid rfl, (by repeat (first | exact Below.refl _ _ | refine Below.drew ?_ | refine below_drewN ?_ _ | refine Below.allocC ?_ _ | refine Below.setCell ?_ (by first | (simp; done) | (simp; omega)) _ | refine Below.chain ?_ (by assumption)))⟩
  case round =>
    obtain ⟨n, t, rfl, rfl, hn, HE, hb⟩ := hrel
    by_cases hpos : 0 < n
    · have p1 : (0 : Int) < (n : Int) := by omega
      have HS := Lib.hid (markLoop_step hpos t)
      have hd : n % 10 < 10 := Nat.mod_lt _ (by omega)
      have hcv := run_convert_bytes_back (P := Tryd.prog) (wr.alloc (.cells #[.int .u8 (48 + (n : Int) % 10)] 5)) 48 9 5 ⟨wr.heap.size, 0, none⟩ 1 [UInt8.ofNat (48 + n % 10)] Tryd.underlying48 Tryd.underlying5 Tryd.underlying9 (by
        intro j hj
        have hj1 : j < 1 := hj
        obtain rfl : j = 0 := by omega
        have e1 : ((UInt8.ofNat (48 + n % 10)).toNat : Int) = 48 + (n : Int) % 10 := by
          rw [UInt8.toNat_ofNat', Nat.mod_eq_of_lt (by omega)]; omega
        show _ = some (Value.int .u8 ((UInt8.ofNat (48 + n % 10)).toNat : Int))
        rw [e1, add_none]
        exact (Box.new wr [.int .u8 (48 + (n : Int) % 10)] 5).cell 0 _ rfl)
      simp only [List.length_singleton] at hcv
      generalize hch : UInt8.ofNat (48 + n % 10) = ch at hcv HS
      have hsz : ([ch].toArray.size : Nat) = 1 := rfl
      have q1 : (⟨#[ch]⟩ : ByteArray).size = 1 := rfl
      have q2 : t.size ≤ 1000000000 := by omega
      have q3 : ((⟨#[ch]⟩ ++ t : ByteArray).size : Nat) = 1 + t.size := by rw [ByteArray.size_append]; rfl
      clear hch hd
      go_wp2
      go_roundw
      case rel => exact ⟨n / 10, ⟨#[ch]⟩ ++ t, by go_num, rfl, by rw [q3]; omega, Lib.hid (HS.out.symm.trans HE.out), (by repeat (first | exact Below.refl _ _ | refine Below.drew ?_ | refine below_drewN ?_ _ | refine Below.allocC ?_ _ | refine Below.setCell ?_ (by first | (simp; done) | (simp; omega)) _ | refine Below.chain ?_ (by assumption)))⟩
      case measure => simp [intOf]; omega
    · have hz : n = 0 := by omega
      subst hz
      have p1 : ¬ (0 : Int) < ((0 : Nat) : Int) := by omega
      have HM : Hid (markT k = ⟨#[109]⟩ ++ t) := Lib.hid (by unfold markT; rw [← HE.out, markLoop_zero])
      have q2 : t.size ≤ 1000000000 := by omega
      go_wp2
      go_ret
      exact ⟨by rw [HM.out]; rfl, (by repeat (first | exact Below.refl _ _ | refine Below.drew ?_ | refine below_drewN ?_ _ | refine Below.allocC ?_ _ | refine Below.setCell ?_ (by first | (simp; done) | (simp; omega)) _ | refine Below.chain ?_ (by assumption)))⟩
end Go.Proofs.YtjlmoghifkgehaaDoor
