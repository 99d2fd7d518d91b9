/- Contracts: Decimal of both sides: the numeral of a number; KeyNum. Conditions: the bounds that any Go int and string meet; the library's table of powers is as its text lays it. -/
import Derived.Test.YtjlmoghifkgehaaDoorHex
import Derived.Test.YtjlmoghifkgehaaDoorOwnKeepS
import Derived.Lib.ItoaNum
namespace Go.Proofs.YtjlmoghifkgehaaDoor
open Go.RowKit
attribute [local go_sem ↓] Go.wp_at_zero Go.wp_at_succ
def decS (n : Int) : ByteArray := ⟨(Lib.itoa n).toArray⟩
theorem dec_len : ∀ (k u : Nat), 0 < k → u < 10 ^ k → (Lib.decDigits u).length ≤ k
  | 0, _, h, _ => absurd h (Nat.lt_irrefl _)
  | k + 1, u, _, h => by
    rw [Lib.decDigits]
    split
    · simp
    · rename_i hu
      have hk : 0 < k := by
        rcases Nat.eq_zero_or_pos k with rfl | h'
        · simp at h; omega
        · exact h'
      have := dec_len k (u / 10) hk (by rw [Nat.pow_succ] at h; omega)
      simp; omega
theorem dec_one {u : Nat} (h : u < 10) : Lib.decDigits u = [UInt8.ofNat (48 + u)] := by rw [Lib.decDigits, dif_pos h]
theorem dec_more {u : Nat} (h : ¬ u < 10) : Lib.decDigits u = Lib.decDigits (u / 10) ++ [UInt8.ofNat (48 + u % 10)] := by rw [Lib.decDigits, dif_neg h]
/-- The numeral of m; nothing for 0. -/
def decHead (m : Nat) : List UInt8 := if m = 0 then [] else Lib.decDigits m
theorem decHead_step {m : Nat} (h : 0 < m) : decHead m = decHead (m / 10) ++ [UInt8.ofNat (48 + m % 10)] := by
  unfold decHead
  rw [if_neg (by omega)]
  by_cases h1 : m < 10
  · rw [dec_one h1, if_pos (by omega)]
    simp [Nat.mod_eq_of_lt h1]
  · rw [dec_more h1, if_neg (by omega)]
theorem decS_size (n : Int) (h0 : -9223372036854775808 ≤ n) (h1 : n ≤ 9223372036854775807) : (decS n).size ≤ 20 := by
  show (Lib.itoa n).toArray.size ≤ 20
  rw [List.size_toArray]
  unfold Lib.itoa
  split
  · have := dec_len 19 n.natAbs (by decide) (by omega)
    simp; omega
  · have := dec_len 19 n.toNat (by decide) (by omega)
    omega
theorem figD_c (d : Nat) (w : World) (h : d < 10) : Calls Tryd.prog 38 #[.int .i64 (d : Int)] w fun e w' => e = .returned (.int .u8 (48 + (d : Int))) ∧ w = w' := by
  have p0 : (0 : Int) ≤ (d : Int) := by omega
  have p1 : (d : Int) < 10 := by omega
  go_enter Tryd.func38, Tryd.ntmps38
  go_wp2
  go_ret
  exact ⟨rfl, rfl⟩
theorem pow_bound {t m u : Nat} (h : m * 10 ^ t ≤ u) (hm : 0 < m) (hu : u < 10 ^ 19) : t ≤ 18 := by
  rcases Nat.lt_or_ge t 19 with h1 | h1
  · omega
  · have h2 : 10 ^ 19 ≤ 10 ^ t := Nat.pow_le_pow_right (by decide) h1
    have h3 : 1 * 10 ^ t ≤ m * 10 ^ t := Nat.mul_le_mul_right _ hm
    omega
theorem pow_step {t m u : Nat} (h : m * 10 ^ t ≤ u) : m / 10 * 10 ^ (t + 1) ≤ u := by
  rw [Nat.pow_succ]
  have : m / 10 * 10 ≤ m := Nat.div_mul_le_self m 10
  calc m / 10 * (10 ^ t * 10) = (m / 10 * 10) * 10 ^ t := by rw [Nat.mul_comm (10 ^ t) 10, Nat.mul_assoc]
    _ ≤ m * 10 ^ t := Nat.mul_le_mul_right _ this
    _ ≤ u := h
theorem conv1 (wr : World) (ch : UInt8) (x : Int) (hx : (ch.toNat : Int) = x) : (convert 48 9 (.slice (some ⟨wr.heap.size, 0, none⟩) 1 1)).run Tryd.prog (wr.alloc (.cells #[.int .u8 x] 5)) = .ok (.string ⟨#[ch]⟩) (wr.alloc (.cells #[.int .u8 x] 5)) := by
  have := run_convert_bytes_back (P := Tryd.prog) (wr.alloc (.cells #[.int .u8 x] 5)) 48 9 5 ⟨wr.heap.size, 0, none⟩ 1 [ch] Tryd.underlying48 Tryd.underlying5 Tryd.underlying9 (by
    intro j hj
    have hj1 : j < 1 := hj
    obtain rfl : j = 0 := by omega
    show _ = some (Value.int .u8 (ch.toNat : Int))
    rw [hx, add_none]
    exact (Box.new wr [.int .u8 x] 5).cell 0 _ rfl)
  simpa using this
theorem ofNat_dig (d : Nat) (h : d < 10) : ((UInt8.ofNat (48 + d)).toNat : Int) = 48 + (d : Int) := by
  rw [UInt8.toNat_ofNat', Nat.mod_eq_of_lt (by omega)]; omega

set_option maxHeartbeats 4000000 in
theorem specDecimal_pos (u : Nat) (w : World) (h0 : 0 < u) (h1 : u ≤ 9223372036854775807) :
    Calls Tryd.prog 25 #[.int .i64 (u : Int)] w fun e w' => e = .returned (.string (decS (u : Int))) ∧ Below w.heap.size w w' := by
  have pz : ((u : Int) == 0) = false := beq_eq_false_iff_ne.2 (by omega)
  have pz2 : ((u : Int) != 0) = true := by simp; omega
  have pn : ¬ (u : Int) < 0 := by omega
  have HF := Lib.hid (show decS (u : Int) = ⟨(decHead u).toArray⟩ by
    unfold decS decHead Lib.itoa
    rw [if_neg (by omega), if_neg (by omega)]; simp)
  clear pz2
  go_enter Tryd.func25, Tryd.ntmps25
  go_wp2
  go_loopw [0, 4] (fun i s wr => ∃ (m : Nat) (t : ByteArray), i = .int .i64 m ∧ s = .string t ∧ m ≤ u ∧ t.size ≤ 19 ∧ Hid (m * 10 ^ t.size ≤ u) ∧ Hid (decHead u = decHead m ++ t.data.toList) ∧ Below w.heap.size w wr) (fun i _ _ => (intOf i).toNat)
  case atStart => exact ⟨u, ByteArray.empty, rfl, rfl, Nat.le_refl _, by simp, Lib.hid (by simp), Lib.hid (by simp), (by repeat (first | exact Below.refl _ _ | refine Below.drew ?_ | refine below_drewN ?_ _ | refine Below.allocC ?_ _ | refine Below.setCell ?_ (by first | (simp; done) | (simp; omega)) _ | refine Below.chain ?_ (by assumption)))⟩
  case round =>
    obtain ⟨m, t, rfl, rfl, hm, ht, HP, HE, hb⟩ := hrel
    by_cases hpos : 0 < m
    · have q1 : ((m : Int) == 0) = false := beq_eq_false_iff_ne.2 (by omega)
      have q2 : ((m : Int) != 0) = true := by simp; omega
      have q0 : (0 : Int) ≤ (m : Int) := by omega
      have q3 : (m : Int) ≤ 9223372036854775807 := by omega
      have hd : m % 10 < 10 := Nat.mod_lt _ (by omega)
      have hd0 : (0 : Int) ≤ (m : Int) % 10 := by omega
      have hd1 : ¬ (m : Int) % 10 < 0 := by omega
      have ht18 := pow_bound HP.out hpos (by omega)
      have K := Lib.hid (show ∀ W, Calls Tryd.prog 38 #[.int .i64 ((m : Int) % 10)] W fun e w' => e = .returned (.int .u8 (48 + (m : Int) % 10)) ∧ W = w' from fun W => by
        have := figD_c (m % 10) W hd
        rwa [show ((m % 10 : Nat) : Int) = (m : Int) % 10 by omega] at this)
      obtain ⟨ch, hch⟩ : ∃ ch, UInt8.ofNat (48 + m % 10) = ch := ⟨_, rfl⟩
      have hcv := conv1 wr ch (48 + (m : Int) % 10) (by rw [← hch, ofNat_dig _ hd]; omega)
      have HS := Lib.hid (show decHead u = decHead (m / 10) ++ (⟨#[ch]⟩ ++ t : ByteArray).data.toList from by
        rw [HE.out, decHead_step hpos, hch, ByteArray.data_append, Array.toList_append, List.append_assoc])
      have HP2 := Lib.hid (pow_step HP.out)
      have hsz : ((⟨#[ch]⟩ ++ t : ByteArray).size : Nat) = t.size + 1 := by rw [ByteArray.size_append, Nat.add_comm]; rfl
      have HSZ := Lib.hid hsz
      have q4 : (⟨#[ch]⟩ : ByteArray).size = 1 := rfl
      clear hch hd hsz
      go_wp2_with fail
      refine (K.out _).mono ?_
      rintro e w1 ⟨rfl, rfl⟩
      go_wp2
      go_roundw
      case rel => exact ⟨m / 10, ⟨#[ch]⟩ ++ t, by go_num, rfl, by omega, by rw [HSZ.out]; omega, by rw [HSZ.out]; exact HP2, HS, (by repeat (first | exact Below.refl _ _ | refine Below.drew ?_ | refine below_drewN ?_ _ | refine Below.allocC ?_ _ | refine Below.setCell ?_ (by first | (simp; done) | (simp; omega)) _ | refine Below.chain ?_ (by assumption)))⟩
      case measure => simp [intOf]; omega
    · have hz : m = 0 := by omega
      subst hz
      have HX := Lib.hid (show decS (u : Int) = t from by rw [HF.out, HE.out]; simp [decHead])
      have q1 : (((0 : Nat) : Int) == 0) = true := rfl
      go_wp2
      go_ret
      exact ⟨by rw [HX.out]; rfl, hb⟩

set_option maxHeartbeats 4000000 in
theorem specDecimal_neg (u : Nat) (w : World) (h0 : 0 < u) (h1 : u ≤ 9223372036854775808) :
    Calls Tryd.prog 25 #[.int .i64 (-(u : Int))] w fun e w' => e = .returned (.string (decS (-(u : Int)))) ∧ Below w.heap.size w w' := by
  have pz : (-(u : Int) == 0) = false := beq_eq_false_iff_ne.2 (by omega)
  have HF := Lib.hid (show decS (-(u : Int)) = ⟨#[45]⟩ ++ ⟨(decHead u).toArray⟩ by
    unfold decS decHead Lib.itoa
    rw [if_pos (by omega), if_neg (by omega), show (-(u : Int)).natAbs = u by omega]
    apply ByteArray.ext
    rw [ByteArray.data_append]
    simp)
  obtain ⟨n, hn⟩ : ∃ n : Int, -(u : Int) = n := ⟨_, rfl⟩
  have HN := Lib.hid hn
  have pn : n < 0 := by omega
  rw [hn] at pz HF ⊢
  clear hn
  go_enter Tryd.func25, Tryd.ntmps25
  go_wp2
  go_loopw [0, 4] (fun i s wr => ∃ (m : Nat) (x : Int) (t : ByteArray), i = .int .i64 x ∧ x = -(m : Int) ∧ s = .string t ∧ m ≤ u ∧ t.size ≤ 19 ∧ Hid (m * 10 ^ t.size ≤ u) ∧ Hid (decHead u = decHead m ++ t.data.toList) ∧ Below w.heap.size w wr) (fun i _ _ => (-(intOf i)).toNat)
  case atStart => exact ⟨u, n, ByteArray.empty, rfl, HN.out.symm, rfl, Nat.le_refl _, by simp, Lib.hid (by simp), Lib.hid (by simp), (by repeat (first | exact Below.refl _ _ | refine Below.drew ?_ | refine below_drewN ?_ _ | refine Below.allocC ?_ _ | refine Below.setCell ?_ (by first | (simp; done) | (simp; omega)) _ | refine Below.chain ?_ (by assumption)))⟩
  case round =>
    obtain ⟨m, x, t, rfl, hx, rfl, hm, ht, HP, HE, hb⟩ := hrel
    by_cases hpos : 0 < m
    · have q1 : (x == 0) = false := beq_eq_false_iff_ne.2 (by omega)
      have q2 : (x != 0) = true := by simp; omega
      have hd : m % 10 < 10 := Nat.mod_lt _ (by omega)
      obtain ⟨y, hy⟩ : ∃ y : Int, x.tmod 10 = y := ⟨_, rfl⟩
      obtain ⟨z, hz⟩ : ∃ z : Int, x.tdiv 10 = z := ⟨_, rfl⟩
      have hyd : y = -((m % 10 : Nat) : Int) := by rw [← hy, hx, Int.neg_tmod, Int.tmod_eq_emod_of_nonneg (by omega)]; omega
      have hzd : z = -((m / 10 : Nat) : Int) := by rw [← hz, hx, Int.neg_tdiv, Int.tdiv_eq_ediv_of_nonneg (by omega)]; omega
      have hzw : IntKind.i64.wrap z = z := by rw [IntKind.wrap_i64]; omega
      have HX := Lib.hid hx
      have HZ := Lib.hid hzd
      have ht18 := pow_bound HP.out hpos (by omega)
      obtain ⟨d, hdd⟩ : ∃ d : Nat, m % 10 = d := ⟨_, rfl⟩
      rw [hdd] at hd hyd
      have K := Lib.hid (fun W => figD_c d W hd)
      obtain ⟨ch, hch⟩ : ∃ ch, UInt8.ofNat (48 + d) = ch := ⟨_, rfl⟩
      have hcv := conv1 wr ch (48 + (d : Int)) (by rw [← hch, ofNat_dig _ hd])
      have HCH := Lib.hid hch
      have HS := Lib.hid (show decHead u = decHead (m / 10) ++ (⟨#[ch]⟩ ++ t : ByteArray).data.toList from by
        rw [HE.out, decHead_step hpos, hdd, hch, ByteArray.data_append, Array.toList_append, List.append_assoc])
      have HP2 := Lib.hid (pow_step HP.out)
      have hsz : ((⟨#[ch]⟩ ++ t : ByteArray).size : Nat) = t.size + 1 := by rw [ByteArray.size_append, Nat.add_comm]; rfl
      have HSZ := Lib.hid hsz
      have q4 : (⟨#[ch]⟩ : ByteArray).size = 1 := rfl
      have hmd : m / 10 ≤ u := by omega
      have hml : m / 10 < m := by omega
      clear hch hsz hdd hzd hm
      have pd0 : (0 : Int) ≤ (d : Int) := by omega
      have pd1 : (d : Int) ≤ 9 := by omega
      by_cases hd0 : d = 0
      · subst hd0
        have hy0 : y = 0 := by omega
        subst hy0
        have K0 := Lib.hid (show ∀ W, Calls Tryd.prog 38 #[.int .i64 0] W fun e w' => e = .returned (.int .u8 48) ∧ W = w' from fun W => by simpa using figD_c 0 W (by omega))
        have hcv0 := conv1 wr ch 48 (by rw [← HCH.out]; exact ofNat_dig 0 (by omega))
        clear hyd hx K hcv
        go_wp2_with fail
        refine (K0.out _).mono ?_
        rintro e w1 ⟨rfl, rfl⟩
        go_wp2
        go_roundw
        case rel => exact ⟨m / 10, z, ⟨#[ch]⟩ ++ t, rfl, HZ.out, rfl, hmd, by rw [HSZ.out]; omega, by rw [HSZ.out]; exact HP2, HS, (by repeat (first | exact Below.refl _ _ | refine Below.drew ?_ | refine below_drewN ?_ _ | refine Below.allocC ?_ _ | refine Below.setCell ?_ (by first | (simp; done) | (simp; omega)) _ | refine Below.chain ?_ (by assumption)))⟩
        case measure => simp [intOf]; have := HX.out; have := HZ.out; omega
      · have hyn : y < 0 := by omega
        have hyneg : -y = (d : Int) := by omega
        have hyw : IntKind.i64.wrap (-y) = (d : Int) := by rw [IntKind.wrap_i64]; omega
        clear hyd hx hd0
        go_wp2_with fail
        refine (K.out _).mono ?_
        rintro e w1 ⟨rfl, rfl⟩
        go_wp2
        go_roundw
        case rel => exact ⟨m / 10, z, ⟨#[ch]⟩ ++ t, rfl, HZ.out, rfl, hmd, by rw [HSZ.out]; omega, by rw [HSZ.out]; exact HP2, HS, (by repeat (first | exact Below.refl _ _ | refine Below.drew ?_ | refine below_drewN ?_ _ | refine Below.allocC ?_ _ | refine Below.setCell ?_ (by first | (simp; done) | (simp; omega)) _ | refine Below.chain ?_ (by assumption)))⟩
        case measure => simp [intOf]; have := HX.out; have := HZ.out; omega
    · have hz : m = 0 := by omega
      subst hz
      have hx0 : x = 0 := by omega
      subst hx0
      have hth : t.size ≤ 20 := by omega
      have HXX := Lib.hid (show decS n = ⟨#[45]⟩ ++ t from by rw [HF.out, HE.out]; simp [decHead])
      have q4 : (⟨#[45]⟩ : ByteArray).size = 1 := rfl
      clear hx
      go_wp2
      go_ret
      exact ⟨by rw [HXX.out]; rfl, hb⟩

theorem specDecimal_c (n : Int) (w : World) (h0 : -9223372036854775808 ≤ n) (h1 : n ≤ 9223372036854775807) :
    Calls Tryd.prog 25 #[.int .i64 n] w fun e w' => e = .returned (.string (decS n)) ∧ Below w.heap.size w w' := by
  rcases Int.lt_trichotomy n 0 with h | h | h
  · obtain ⟨u, rfl⟩ : ∃ u : Nat, n = -(u : Int) := ⟨n.natAbs, by omega⟩
    exact specDecimal_neg u w (by omega) (by omega)
  · subst h
    have HX := Lib.hid (show decS 0 = ⟨#[48]⟩ from by unfold decS Lib.itoa; rw [if_neg (by omega)]; rw [show (0 : Int).toNat = 0 from rfl, dec_one (by omega)]; rfl)
    go_enter Tryd.func25, Tryd.ntmps25
    go_wp2
    go_ret
    exact ⟨by rw [HX.out]; rfl, Below.refl _ _⟩
  · obtain ⟨u, rfl⟩ : ∃ u : Nat, n = (u : Int) := ⟨n.toNat, by omega⟩
    exact specDecimal_pos u w (by omega) (by omega)
/-- The library's table of powers. -/
def DecTab (w : World) : Prop := Lib.TabIs Tryd.prog w "internal/strconv.uint64pow10" .u64 Lib.pow10Tab
theorem DecTab.below {w W : World} (h : DecTab w) (hb : Below w.heap.size w W) : DecTab W := tab_below h hb
theorem below_growN (w : World) (k : Nat) (os : Array Obj) : Below w.heap.size w (Sort.grow (w.drewN k) os) := by
  refine Below.trans (below_drewN (Below.refl _ _) k) ?_
  refine ⟨rfl, rfl, rfl, ?_, fun b hb => ?_⟩
  · simp [Sort.grow]
  · have hb' : b < (w.drewN k).heap.size := Nat.lt_of_lt_of_le hb (below_drewN (Below.refl w.heap.size w) k).size
    show ((w.drewN k).heap ++ os)[b]? = _
    rw [Array.getElem?_append_left hb']
theorem implDecimal_c (n : Int) (w : World) (h0 : -9223372036854775808 ≤ n) (h1 : n ≤ 9223372036854775807) (ht : DecTab w) :
    Calls Tryd.prog 31 #[.int .i64 n] w fun e w' => e = .returned (.string (decS n)) ∧ Below w.heap.size w w' := by
  have K := Lib.hid (Tryd.strconv_Itoa n h0 h1 w ht)
  clear ht
  go_enter Tryd.func31, Tryd.ntmps31
  go_wp2_with fail
  refine K.out.mono ?_
  rintro e w1 ⟨rfl, k, os, hw⟩
  have HB := Lib.hid (show Below w.heap.size w w1 by rw [hw]; exact below_growN w k os)
  clear hw
  go_wp2
  go_ret
  exact ⟨rfl, HB.out⟩
/-- head, the numeral, tail. -/
def keyNumS (h : ByteArray) (n : Int) (t : ByteArray) : ByteArray := h ++ decS n ++ t
theorem keyNumS_size (h : ByteArray) (n : Int) (t : ByteArray) (h0 : -9223372036854775808 ≤ n) (h1 : n ≤ 9223372036854775807) : (keyNumS h n t).size ≤ h.size + 20 + t.size := by
  unfold keyNumS
  rw [ByteArray.size_append, ByteArray.size_append]
  have := decS_size n h0 h1
  omega
set_option maxHeartbeats 1000000 in
theorem implKeyNum_c (h : ByteArray) (n : Int) (t : ByteArray) (w : World) (h0 : -9223372036854775808 ≤ n) (h1 : n ≤ 9223372036854775807) (hh : h.size ≤ 4611686018427387904) (htl : t.size ≤ 4611686018427387000) (ht : DecTab w) :
    Calls Tryd.prog 33 #[.string h, .int .i64 n, .string t] w fun e w' => e = .returned (.string (keyNumS h n t)) ∧ Below w.heap.size w w' := by
  have K := Lib.hid (implDecimal_c n w h0 h1 ht)
  have hs := decS_size n h0 h1
  have HX := Lib.hid (show keyNumS h n t = h ++ decS n ++ t from rfl)
  generalize decS n = d at *
  have hz : (h ++ d).size = h.size + d.size := ByteArray.size_append
  clear ht
  go_enter Tryd.func33, Tryd.ntmps33
  go_wp2_with fail
  refine K.out.mono ?_
  rintro e w1 ⟨rfl, hb1⟩
  go_wp2
  go_ret
  exact ⟨by rw [HX.out]; rfl, hb1⟩
set_option maxHeartbeats 1000000 in
theorem specKeyNum_c (h : ByteArray) (n : Int) (t : ByteArray) (w : World) (h0 : -9223372036854775808 ≤ n) (h1 : n ≤ 9223372036854775807) (hh : h.size ≤ 4611686018427387904) (htl : t.size ≤ 4611686018427387000) :
    Calls Tryd.prog 27 #[.string h, .int .i64 n, .string t] w fun e w' => e = .returned (.string (keyNumS h n t)) ∧ Below w.heap.size w w' := by
  have K := Lib.hid (specDecimal_c n w h0 h1)
  have hs := decS_size n h0 h1
  have HX := Lib.hid (show keyNumS h n t = h ++ decS n ++ t from rfl)
  generalize decS n = d at *
  have hz : (h ++ d).size = h.size + d.size := ByteArray.size_append
  go_enter Tryd.func27, Tryd.ntmps27
  go_wp2_with fail
  refine K.out.mono ?_
  rintro e w1 ⟨rfl, hb1⟩
  go_wp2
  go_ret
  exact ⟨by rw [HX.out]; rfl, hb1⟩
end Go.Proofs.YtjlmoghifkgehaaDoor
