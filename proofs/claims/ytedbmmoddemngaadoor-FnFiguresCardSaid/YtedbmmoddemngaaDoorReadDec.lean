/- Contracts: ReadDecimal and NumOf of both sides: the number of which a text is the numeral, up to 10^9. Conditions: the bounds that any Go string meets; the library's variables hold what their texts lay. -/
import Derived.Test.YtedbmmoddemngaaDoorDec
import Derived.Test.YtedbmmoddemngaaDoorWithin
import Derived.Lib.AtoiAll
namespace Go.Proofs.YtedbmmoddemngaaDoor
open Go.RowKit
attribute [local go_sem ↓] Go.wp_at_zero Go.wp_at_succ
def numIs (s : ByteArray) (n : Nat) : Prop := n ≤ 1000000000 ∧ Lib.decDigits n = s.data.toList
def decVal (l : List UInt8) : Nat := l.foldl (fun a c => 10 * a + (c.toNat - 48)) 0
theorem decVal_snoc (l : List UInt8) (c : UInt8) : decVal (l ++ [c]) = 10 * decVal l + (c.toNat - 48) := by simp [decVal, List.foldl_append]
theorem dig_nat (d : Nat) (h : d < 10) : (UInt8.ofNat (48 + d)).toNat = 48 + d := by rw [UInt8.toNat_ofNat', Nat.mod_eq_of_lt (by omega)]
theorem decVal_dec : ∀ (k u : Nat), u ≤ k → decVal (Lib.decDigits u) = u
  | 0, u, h => by
    obtain rfl : u = 0 := by omega
    rw [dec_one (by omega)]; rfl
  | k + 1, u, h => by
    by_cases h1 : u < 10
    · rw [dec_one h1]
      simp only [decVal, List.foldl_cons, List.foldl_nil]
      rw [dig_nat u h1]; omega
    · rw [dec_more h1, decVal_snoc, decVal_dec k (u / 10) (by omega), dig_nat _ (Nat.mod_lt _ (by omega))]
      omega
theorem dec_digits : ∀ (k u : Nat), u ≤ k → ∀ c ∈ Lib.decDigits u, 48 ≤ c.toNat ∧ c.toNat ≤ 57
  | k, u, h, c, hc => by
    by_cases h1 : u < 10
    · rw [dec_one h1] at hc
      have hc := List.mem_singleton.1 hc
      rw [hc, dig_nat u h1]; omega
    · rw [dec_more h1] at hc
      rcases List.mem_append.1 hc with hc | hc
      · match k, h with
        | 0, h => omega
        | k + 1, h => exact dec_digits k (u / 10) (by omega) c hc
      · have hc := List.mem_singleton.1 hc
        rw [hc, dig_nat _ (Nat.mod_lt _ (by omega))]; omega
theorem numIs_val {s : ByteArray} {n : Nat} (h : numIs s n) : decVal s.data.toList = n := by rw [← h.2]; exact decVal_dec n n (Nat.le_refl _)
theorem numIs_one {s : ByteArray} {n m : Nat} (h : numIs s n) (k : numIs s m) : n = m := by rw [← numIs_val h, numIs_val k]
open Classical in
noncomputable def readOk (s : ByteArray) : Bool := decide (∃ n, numIs s n)
open Classical in
noncomputable def readV (s : ByteArray) : Int := if ∃ n, numIs s n then (decVal s.data.toList : Int) else 0
open Classical in
theorem read_yes {s : ByteArray} {n : Nat} (h : numIs s n) : readOk s = true ∧ readV s = (n : Int) := by
  refine ⟨by unfold readOk; exact decide_eq_true ⟨n, h⟩, ?_⟩
  unfold readV
  rw [if_pos ⟨n, h⟩, numIs_val h]
open Classical in
theorem read_no {s : ByteArray} (h : ∀ n, ¬ numIs s n) : readOk s = false ∧ readV s = 0 := by
  have h' : ¬ ∃ n, numIs s n := fun ⟨n, hn⟩ => h n hn
  exact ⟨by unfold readOk; exact decide_eq_false h', by unfold readV; rw [if_neg h']⟩
open Classical in
theorem read_ok {s : ByteArray} (h : readOk s = true) : ∃ n, numIs s n := by unfold readOk at h; exact of_decide_eq_true h
theorem readV_bounds (s : ByteArray) : 0 ≤ readV s ∧ readV s ≤ 1000000000 := by
  cases h : readOk s with
  | true =>
    obtain ⟨n, hn⟩ := read_ok h
    rw [(read_yes hn).2]
    have := hn.1
    omega
  | false =>
    have : readV s = 0 := (read_no (fun n hn => by rw [(read_yes hn).1] at h; cases h)).2
    omega
theorem decS_nat (n : Nat) : decS (n : Int) = ⟨(Lib.decDigits n).toArray⟩ := by
  unfold decS Lib.itoa; rw [if_neg (by omega)]; simp
theorem numIs_of {s : ByteArray} {n : Nat} (hn : n ≤ 1000000000) (h : decS (n : Int) = s) : numIs s n := ⟨hn, by rw [← h, decS_nat]⟩
theorem numIs_dec {s : ByteArray} {n : Nat} (h : numIs s n) : decS (n : Int) = s := by
  rw [decS_nat, h.2]
theorem parse_snoc (l : List UInt8) (c : UInt8) : ∀ acc, Lib.parseUint10 acc (l ++ [c]) = match Lib.parseUint10 acc l with | .ok a => Lib.parseUint10 a [c] | r => r := by
  induction l with
  | nil => intro acc; simp [Lib.parseUint10]
  | cons d l ih =>
    intro acc
    rw [List.cons_append]
    simp only [Lib.parseUint10]
    split
    · split
      · rfl
      · split
        · rfl
        · rw [ih]; simp only [Lib.parseUint10]
    · rfl
theorem parse_dec : ∀ (k u : Nat), u ≤ k → u ≤ 1000000000 → Lib.parseUint10 0 (Lib.decDigits u) = .ok u
  | k, u, h, hu => by
    have one : ∀ a d : Nat, d < 10 → a ≤ 1000000000 → Lib.parseUint10 a [UInt8.ofNat (48 + d)] = .ok (10 * a + d) := fun a d hd ha => by
      simp only [Lib.parseUint10]
      rw [dig_nat d hd, if_pos (by omega), if_neg (by omega), if_neg (by omega)]
      congr 1
      omega
    by_cases h1 : u < 10
    · rw [dec_one h1, one 0 u h1 (by omega)]; simp
    · match k, h with
      | 0, h => omega
      | k + 1, h =>
        rw [dec_more h1, parse_snoc, parse_dec k (u / 10) (by omega) (by omega)]
        show Lib.parseUint10 (u / 10) [UInt8.ofNat (48 + u % 10)] = _
        rw [one (u / 10) (u % 10) (Nat.mod_lt _ (by omega)) (by omega)]
        congr 1
        omega
theorem atoi_dec {s : ByteArray} {n : Nat} (h : numIs s n) : Lib.atoiAll s.data.toList = .ok (n : Int) := by
  rw [← h.2]
  have hp := parse_dec n n (Nat.le_refl _) h.1
  have hne : Lib.decDigits n ≠ [] := by
    rw [Lib.decDigits]; split <;> simp
  have hd := dec_digits n n (Nat.le_refl _)
  cases hl : Lib.decDigits n with
  | nil => exact absurd hl hne
  | cons c r =>
    rw [hl] at hp hd
    have hc := hd c (by simp)
    unfold Lib.atoiAll
    simp only
    rw [if_neg (by omega)]
    unfold Lib.parseMag
    rw [if_neg (by simp), hp]
    simp only
    have hn := h.1
    rw [if_neg (by omega), if_neg (by omega), if_neg (by omega)]

/-- The library's variables of a bad numeral and of a numeral out of range hold some errors. -/
def NumErr (w : World) : Prop := (∃ tp p, w.var? Tryd.prog "strconv.ErrSyntax" = some #[.iface tp p]) ∧ (∃ tp p, w.var? Tryd.prog "strconv.ErrRange" = some #[.iface tp p])
theorem var_below {P : Program} {w W : World} {name : String} {cs : Array Value} (h : w.var? P name = some cs) (hb : Below w.heap.size w W) : W.var? P name = some cs := by
  unfold World.var? at *
  cases hg : P.globalNamed name with
  | none => simp [hg] at h
  | some g =>
    simp only [hg, Option.bind_some] at h ⊢
    have hlt : g < w.heap.size := by
      rcases Nat.lt_or_ge g w.heap.size with h' | h'
      · exact h'
      · simp [Array.getElem?_eq_none h'] at h
    rw [hb.block g hlt]
    exact h
theorem NumErr.below {w W : World} (h : NumErr w) (hb : Below w.heap.size w W) : NumErr W := by
  obtain ⟨⟨t, p, h1⟩, ⟨t2, p2, h2⟩⟩ := h
  exact ⟨⟨t, p, var_below h1 hb⟩, ⟨t2, p2, var_below h2 hb⟩⟩

set_option maxHeartbeats 4000000 in
theorem implReadDec_c (s : ByteArray) (w : World) (hs : s.size ≤ 281474976710656) (ht : DecTab w) (hE : NumErr w) :
    Calls Tryd.prog 18 #[.string s] w fun e w' => e = .returned (.tuple #[.int .i64 (readV s), .bool (readOk s)]) ∧ Below w.heap.size w w' := by
  obtain ⟨⟨t1, p1, hv1⟩, ⟨t2, p2, hv2⟩⟩ := hE
  have HT := Lib.hid ht
  cases ho : Lib.atoiAll s.data.toList
  rotate_left
  · have HV := Lib.hid (read_no (s := s) (fun n hn => by rw [atoi_dec hn] at ho; cases ho))
    have K := Lib.hid (Tryd.strconv_Atoi_syntax_var s hs ho t1 p1 w hv1)
    clear ht ho hv1 hv2
    go_enter Tryd.func18, Tryd.ntmps18
    go_wp2_with fail
    refine K.out.mono ?_
    rintro e w1 ⟨N, rfl, _, _, hb1⟩
    go_wp2
    go_ret2
    exact ⟨by rw [HV.out.1, HV.out.2]; rfl, hb1⟩
  · have HV := Lib.hid (read_no (s := s) (fun n hn => by rw [atoi_dec hn] at ho; cases ho))
    have K := Lib.hid (Tryd.strconv_Atoi_range_var s hs ho t2 p2 w hv2)
    clear ht ho hv1 hv2
    go_enter Tryd.func18, Tryd.ntmps18
    go_wp2_with fail
    refine K.out.mono ?_
    rintro e w1 ⟨N, rfl, _, _, hb1⟩
    go_wp2
    go_ret2
    exact ⟨by rw [HV.out.1, HV.out.2]; rfl, hb1⟩
  · rename_i v
    have K := Lib.hid (Tryd.strconv_Atoi_ok s (by omega) v ho w)
    have HW : Hid (∀ w', (w' = w ∨ ∃ t, w' = Lib.bytesWorld w 5 t) → Below w.heap.size w w') := Lib.hid (fun w' h => by
      rcases h with rfl | ⟨t, rfl⟩
      · exact Below.refl _ _
      · exact Lib.bytesWorld_below w _ t)
    have hv : ∀ n, numIs s n → v = (n : Int) := fun n hn => by rw [atoi_dec hn] at ho; cases ho; rfl
    clear ht ho hv1 hv2
    cases hi : inB v 0 1000000000 with
    | false =>
      have HV := Lib.hid (read_no (s := s) (fun n hn => by
        have := hv n hn
        have := hn.1
        have := inB_false hi
        omega))
      have HI := Lib.hid (fun W => within_c v 0 1000000000 W)
      rw [hi] at HI
      clear hv hi
      go_enter Tryd.func18, Tryd.ntmps18
      go_wp2_with fail
      refine K.out.mono ?_
      rintro e w1 ⟨rfl, hw1⟩
      have hb1 := HW.out w1 hw1
      clear hw1
      go_wp2_with fail
      refine (HI.out _).mono ?_
      rintro e w2 ⟨rfl, rfl⟩
      go_wp2
      go_ret2
      exact ⟨by rw [HV.out.1, HV.out.2]; rfl, hb1⟩
    | true =>
      have hin := inB_iff.1 hi
      obtain ⟨n, rfl⟩ : ∃ n : Nat, v = (n : Int) := ⟨v.toNat, by omega⟩
      have HI := Lib.hid (fun W => within_c (n : Int) 0 1000000000 W)
      rw [hi] at HI
      have HD := Lib.hid (fun (W : World) (hW : Below w.heap.size w W) => implDecimal_c (n : Int) W (by omega) (by omega) (DecTab.below HT.out hW))
      by_cases he : decS (n : Int) = s
      · have HV := Lib.hid (read_yes (numIs_of (by omega) he))
        rw [he] at HD
        clear hv hi hin he
        go_enter Tryd.func18, Tryd.ntmps18
        go_wp2_with fail
        refine K.out.mono ?_
        rintro e w1 ⟨rfl, hw1⟩
        have hb1 := HW.out w1 hw1
        clear hw1
        go_wp2_with fail
        refine (HI.out _).mono ?_
        rintro e w2 ⟨rfl, rfl⟩
        go_wp2_with fail
        refine (HD.out _ hb1).mono ?_
        rintro e w2 ⟨rfl, hb2⟩
        have B2 : Below w.heap.size w w2 := hb1.trans (hb2.mono hb1.size)
        go_wp2
        go_ret2
        exact ⟨by rw [HV.out.1, HV.out.2]; rfl, B2⟩
      · have HV := Lib.hid (read_no (s := s) (fun m hm => he (by rw [hv m hm]; exact numIs_dec hm)))
        have f1 := beq_toList_false he
        have f2 := bne_toList_true he
        have f3 := toList_ne he
        generalize decS (n : Int) = t at *
        clear hv hi hin he
        go_enter Tryd.func18, Tryd.ntmps18
        go_wp2_with fail
        refine K.out.mono ?_
        rintro e w1 ⟨rfl, hw1⟩
        have hb1 := HW.out w1 hw1
        clear hw1
        go_wp2_with fail
        refine (HI.out _).mono ?_
        rintro e w2 ⟨rfl, rfl⟩
        go_wp2_with fail
        refine (HD.out _ hb1).mono ?_
        rintro e w2 ⟨rfl, hb2⟩
        have B2 : Below w.heap.size w w2 := hb1.trans (hb2.mono hb1.size)
        go_wp2
        go_ret2
        exact ⟨by rw [HV.out.1, HV.out.2]; rfl, B2⟩

set_option maxHeartbeats 4000000 in
theorem specReadDec_c (s : ByteArray) (w : World) :
    Calls Tryd.prog 17 #[.string s] w fun e w' => e = .returned (.tuple #[.int .i64 (readV s), .bool (readOk s)]) ∧ Below w.heap.size w w' := by
  by_cases h10 : (10 : Int) < (s.size : Int)
  · have HV := Lib.hid (read_no (s := s) (fun n hn => by
      have := dec_len 10 n (by decide) (by have := hn.1; omega)
      rw [hn.2] at this
      simp at this
      omega))
    go_enter Tryd.func17, Tryd.ntmps17
    go_wp2
    go_ret2
    exact ⟨by rw [HV.out.1, HV.out.2]; rfl, Below.refl _ _⟩
  · go_enter Tryd.func17, Tryd.ntmps17
    go_wp2
    go_loop [4, 5] (fun a i => ∃ k m : Nat, k ≤ s.size ∧ i = .int .i64 k ∧ a = .int .i64 m ∧ Hid (m = decVal (s.data.toList.take k)) ∧ Hid (m < 10 ^ k)) (fun _ i => s.size - (intOf i).toNat)
    case atStart => exact ⟨0, 0, Nat.zero_le _, rfl, rfl, Lib.hid rfl, Lib.hid (by decide)⟩
    case round =>
      obtain ⟨k, m, hk, rfl, rfl, HM, HB⟩ := hrel
      have hmb : m ≤ 10000000000 := by
        have h1 := HB.out
        have h2 : 10 ^ k ≤ 10 ^ 10 := Nat.pow_le_pow_right (by decide) (by omega)
        have h3 : (10 : Nat) ^ 10 = 10000000000 := by decide
        omega
      have p1 : (0 : Int) ≤ (k : Int) := by omega
      have pm : (0 : Int) ≤ (m : Int) := by omega
      by_cases hlt : k < s.size
      · have p2 : (k : Int) < (s.size : Int) := by omega
        have hmem : s[k] ∈ s.data.toList := List.getElem_mem (l := s.data.toList) (n := k) (by simpa using hlt)
        have q0 : (0 : Int) ≤ (s[k].toNat : Int) := by omega
        have hn255 : (s[k].toNat : Int) ≤ 255 := by have := s[k].toNat_lt; omega
        by_cases h1 : (s[k].toNat : Int) < 48
        · have HV := Lib.hid (read_no (s := s) (fun n hn => by
            have := dec_digits n n (Nat.le_refl _) s[k] (by rw [hn.2]; exact hmem)
            omega))
          clear hmem
          go_wp2
          go_ret2
          exact ⟨by rw [HV.out.1, HV.out.2]; rfl, Below.refl _ _⟩
        · by_cases h2 : (57 : Int) < (s[k].toNat : Int)
          · have HV := Lib.hid (read_no (s := s) (fun n hn => by
              have := dec_digits n n (Nat.le_refl _) s[k] (by rw [hn.2]; exact hmem)
              omega))
            clear hmem
            go_wp2
            go_ret2
            exact ⟨by rw [HV.out.1, HV.out.2]; rfl, Below.refl _ _⟩
          · have HS := Lib.hid (show 10 * m + (s[k].toNat - 48) = decVal (s.data.toList.take (k + 1)) from by
              rw [List.take_succ_eq_append_getElem (by simpa using hlt), decVal_snoc, ← HM.out]; rfl)
            have HS2 := Lib.hid (show 10 * m + (s[k].toNat - 48) < 10 ^ (k + 1) from by
              have := HB.out
              rw [Nat.pow_succ]; omega)
            have HCast := Lib.hid (show ((10 * m + (s[k].toNat - 48) : Nat) : Int) = 10 * (m : Int) + (s[k].toNat : Int) - 48 from by omega)
            clear hmem
            go_wp2
            go_round
            case rel => exact ⟨k + 1, 10 * m + (s[k].toNat - 48), by omega, by go_num, by rw [HCast.out], HS, HS2⟩
            case measure => simp [intOf]; omega
      · obtain rfl : k = s.size := by omega
        have p2 : ¬ (s.size : Int) < (s.size : Int) := by omega
        have HM2 := Lib.hid (show decVal s.data.toList = m from by rw [HM.out, List.take_of_length_le (by simp)])
        by_cases hbig : (1000000000 : Int) < (m : Int)
        · have HV := Lib.hid (read_no (s := s) (fun n hn => by
            have := numIs_val hn
            rw [HM2.out] at this
            have := hn.1
            omega))
          go_wp2
          go_ret2
          exact ⟨by rw [HV.out.1, HV.out.2]; rfl, Below.refl _ _⟩
        · have HD := Lib.hid (fun (W : World) => specDecimal_c (m : Int) W (by omega) (by omega))
          by_cases he : decS (m : Int) = s
          · have HV := Lib.hid (read_yes (numIs_of (by omega) he))
            rw [he] at HD
            clear he
            go_wp2_with fail
            refine (HD.out _).mono ?_
            rintro e w2 ⟨rfl, hb2⟩
            go_wp2
            go_ret2
            exact ⟨by rw [HV.out.1, HV.out.2]; rfl, hb2⟩
          · have HV := Lib.hid (read_no (s := s) (fun n hn => he (by
              have := numIs_val hn
              rw [HM2.out] at this
              rw [this]; exact numIs_dec hn)))
            have f1 := beq_toList_false he
            have f2 := bne_toList_true he
            have f3 := toList_ne he
            generalize decS (m : Int) = t at *
            clear he
            go_wp2_with fail
            refine (HD.out _).mono ?_
            rintro e w2 ⟨rfl, hb2⟩
            go_wp2
            go_ret2
            exact ⟨by rw [HV.out.1, HV.out.2]; rfl, hb2⟩
end Go.Proofs.YtedbmmoddemngaaDoor
