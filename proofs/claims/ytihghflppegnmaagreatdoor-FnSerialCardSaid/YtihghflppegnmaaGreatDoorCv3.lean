/- Lemmas and contracts that the last text leans on, joined: ReadDec, NumOf, NMach, NMachS, KeysUnder, Unhex, Outs. Conditions: as each theorem says. -/
import Derived.Test.YtihghflppegnmaaGreatDoorCv0
import Derived.Test.YtihghflppegnmaaGreatDoorCv2
import Derived.Lib.ShelfFacts
set_option linter.unusedSimpArgs false
set_option linter.unusedVariables false
set_option maxHeartbeats 40000000
namespace Go.Proofs.YtihghflppegnmaaGreatDoor
open Go.Proofs.Tryz
section
open Go.RowKit
attribute [local go_sem ↓] Go.wp_at_zero Go.wp_at_succ
def numIs (s : ByteArray) (n : Nat) : Prop := n ≤ 1000000000 ∧ Lib.decDigits n = s.data.toList
def decVal (l : List UInt8) : Nat := l.foldl (fun a c => 10 * a + (c.toNat - 48)) 0
theorem decVal_snoc (l : List UInt8) (c : UInt8) : decVal (l ++ [c]) = 10 * decVal l + (c.toNat - 48) := by simp [decVal, List.foldl_append]
theorem dig_nat (d : Nat) (h : d < 10) : (UInt8.ofNat (48 + d)).toNat = 48 + d := by rw [UInt8.toNat_ofNat', Nat.mod_eq_of_lt (by omega)]
theorem decVal_dec : ∀ (k u : Nat), u ≤ k → decVal (Lib.decDigits u) = u
 | 0, u, h => by
  obtain rfl : u = 0 := by omega
  rw [dec_one (by omega)]; rfl
 | k + 1, u, h => by
  by_cases h1 : u < 10
  ·rw [dec_one h1];simp only [decVal, List.foldl_cons, List.foldl_nil];rw [dig_nat u h1]; omega
  ·rw [dec_more h1, decVal_snoc, decVal_dec k (u / 10) (by omega), dig_nat _ (Nat.mod_lt _ (by omega))];omega
theorem dec_digits : ∀ (k u : Nat), u ≤ k → ∀ c ∈ Lib.decDigits u, 48 ≤ c.toNat ∧ c.toNat ≤ 57
 | k, u, h, c, hc => by
  by_cases h1 : u < 10
  ·rw [dec_one h1] at hc;have hc := List.mem_singleton.1 hc;rw [hc, dig_nat u h1]; omega
  ·rw [dec_more h1] at hc;rcases List.mem_append.1 hc with hc | hc
   ·match k, h with
    | 0, h => omega
    | k + 1, h => exact dec_digits k (u / 10) (by omega) c hc
   ·have hc := List.mem_singleton.1 hc;rw [hc, dig_nat _ (Nat.mod_lt _ (by omega))]; omega
theorem numIs_val {s : ByteArray} {n : Nat} (h : numIs s n) : decVal s.data.toList = n := by rw [← h.2]; exact decVal_dec n n (Nat.le_refl _)
open Classical in
noncomputable def readOk (s : ByteArray) : Bool := decide (∃ n, numIs s n)
open Classical in
noncomputable def readV (s : ByteArray) : Int := if ∃ n, numIs s n then (decVal s.data.toList : Int) else 0
open Classical in
theorem read_yes {s : ByteArray} {n : Nat} (h : numIs s n) : readOk s = true ∧ readV s = (n : Int) := by
 refine ⟨by unfold readOk; exact decide_eq_true ⟨n, h⟩, ?_⟩;unfold readV;rw [if_pos ⟨n, h⟩, numIs_val h]
open Classical in
theorem read_no {s : ByteArray} (h : ∀ n, ¬ numIs s n) : readOk s = false ∧ readV s = 0 := by
 have h' : ¬ ∃ n, numIs s n := fun ⟨n, hn⟩ => h n hn;exact ⟨by unfold readOk; exact decide_eq_false h', by unfold readV; rw [if_neg h']⟩
open Classical in
theorem read_ok {s : ByteArray} (h : readOk s = true) : ∃ n, numIs s n := by unfold readOk at h; exact of_decide_eq_true h
theorem readV_bounds (s : ByteArray) : 0 ≤ readV s ∧ readV s ≤ 1000000000 := by
 cases h : readOk s with
 | true =>
  obtain ⟨n, hn⟩ := read_ok h;rw [(read_yes hn).2];have := hn.1;omega
 | false =>
  have : readV s = 0 := (read_no (fun n hn => by rw [(read_yes hn).1] at h; cases h)).2;omega
theorem decS_nat (n : Nat) : decS (n : Int) = ⟨(Lib.decDigits n).toArray⟩ := by
 unfold decS Lib.itoa; rw [if_neg (by omega)]; simp
theorem numIs_of {s : ByteArray} {n : Nat} (hn : n ≤ 1000000000) (h : decS (n : Int) = s) : numIs s n := ⟨hn, by rw [← h, decS_nat]⟩
theorem numIs_dec {s : ByteArray} {n : Nat} (h : numIs s n) : decS (n : Int) = s := by
 rw [decS_nat, h.2]
theorem parse_snoc (l : List UInt8) (c : UInt8) : ∀ acc, Lib.parseUint10 acc (l ++ [c]) = match Lib.parseUint10 acc l with | .ok a => Lib.parseUint10 a [c] | r => r := by
 induction l with
 | nil => intro acc; simp [Lib.parseUint10]
 | cons d l ih =>
  intro acc;rw [List.cons_append];simp only [Lib.parseUint10];split
  ·split
   ·rfl
   ·split
    ·rfl
    ·rw [ih]; simp only [Lib.parseUint10]
  ·rfl
theorem parse_dec : ∀ (k u : Nat), u ≤ k → u ≤ 1000000000 → Lib.parseUint10 0 (Lib.decDigits u) = .ok u
 | k, u, h, hu => by
  have one : ∀ a d : Nat, d < 10 → a ≤ 1000000000 → Lib.parseUint10 a [UInt8.ofNat (48 + d)] = .ok (10 * a + d) := fun a d hd ha => by
   simp only [Lib.parseUint10];rw [dig_nat d hd, if_pos (by omega), if_neg (by omega), if_neg (by omega)];congr 1;omega
  by_cases h1 : u < 10
  ·rw [dec_one h1, one 0 u h1 (by omega)]; simp
  ·match k, h with
   | 0, h => omega
   | k + 1, h =>
    rw [dec_more h1, parse_snoc, parse_dec k (u / 10) (by omega) (by omega)];show Lib.parseUint10 (u / 10) [UInt8.ofNat (48 + u % 10)] = _;rw [one (u / 10) (u % 10) (Nat.mod_lt _ (by omega)) (by omega)];congr 1;omega
theorem atoi_dec {s : ByteArray} {n : Nat} (h : numIs s n) : Lib.atoiAll s.data.toList = .ok (n : Int) := by
 rw [← h.2];have hp := parse_dec n n (Nat.le_refl _) h.1;have hne : Lib.decDigits n ≠ [] := by
  rw [Lib.decDigits]; split <;> simp
 have hd := dec_digits n n (Nat.le_refl _);cases hl : Lib.decDigits n with
 | nil => exact absurd hl hne
 | cons c r =>
  rw [hl] at hp hd;have hc := hd c (by simp);unfold Lib.atoiAll;simp only;rw [if_neg (by omega)];unfold Lib.parseMag;rw [if_neg (by simp), hp];simp only;have hn := h.1;rw [if_neg (by omega), if_neg (by omega), if_neg (by omega)]
def NumErr (w : World) : Prop := (∃ tp p, w.var? prog "strconv.ErrSyntax" = some #[.iface tp p]) ∧ (∃ tp p, w.var? prog "strconv.ErrRange" = some #[.iface tp p])
theorem var_below {P : Program} {w W : World} {name : String} {cs : Array Value} (h : w.var? P name = some cs) (hb : Below w.heap.size w W) : W.var? P name = some cs := by
 unfold World.var? at *;cases hg : P.globalNamed name with
 | none => simp [hg] at h
 | some g =>
  simp only [hg, Option.bind_some] at h ⊢;have hlt : g < w.heap.size := by
   rcases Nat.lt_or_ge g w.heap.size with h' | h'
   ·exact h'
   ·simp [Array.getElem?_eq_none h'] at h
  rw [hb.block g hlt];exact h
theorem NumErr.below {w W : World} (h : NumErr w) (hb : Below w.heap.size w W) : NumErr W := by
 obtain ⟨⟨t, p, h1⟩, ⟨t2, p2, h2⟩⟩ := h;exact ⟨⟨t, p, var_below h1 hb⟩, ⟨t2, p2, var_below h2 hb⟩⟩
theorem implReadDec_c (s : ByteArray) (w : World) (hs : s.size ≤ 281474976710656) (ht : DecTab w) (hE : NumErr w) :
 Calls prog 211 #[.string s] w fun e w' => e = .returned (.tuple #[.int .i64 (readV s), .bool (readOk s)]) ∧ Below w.heap.size w w' := by
 obtain ⟨⟨t1, p1, hv1⟩, ⟨t2, p2, hv2⟩⟩ := hE;have HT := hid9 ht;cases ho : Lib.atoiAll s.data.toList
 rotate_left
 ·have HV := hid9 (read_no (s := s) (fun n hn => by rw [atoi_dec hn] at ho; cases ho));have K := hid9 (Tryz.strconv_Atoi_syntax_var s hs ho t1 p1 w hv1);clear ht ho hv1 hv2;go_enter func211, ntmps211;go_wp2_with fail;refine K.out.mono ?_;rintro e w1 ⟨N, rfl, _, _, hb1⟩;go_wp2;go_ret2;exact ⟨by rw [HV.out.1, HV.out.2]; rfl, hb1⟩
 ·have HV := hid9 (read_no (s := s) (fun n hn => by rw [atoi_dec hn] at ho; cases ho));have K := hid9 (Tryz.strconv_Atoi_range_var s hs ho t2 p2 w hv2);clear ht ho hv1 hv2;go_enter func211, ntmps211;go_wp2_with fail;refine K.out.mono ?_;rintro e w1 ⟨N, rfl, _, _, hb1⟩;go_wp2;go_ret2;exact ⟨by rw [HV.out.1, HV.out.2]; rfl, hb1⟩
 ·rename_i v;have K := hid9 (Tryz.strconv_Atoi_ok s (by omega) v ho w);have HW : Hid (∀ w', (w' = w ∨ ∃ t, w' = Lib.bytesWorld w 5 t) → Below w.heap.size w w') := hid9 (fun w' h => by
   rcases h with rfl | ⟨t, rfl⟩
   ·exact Below.refl _ _
   ·exact Lib.bytesWorld_below w _ t)
  have hv : ∀ n, numIs s n → v = (n : Int) := fun n hn => by rw [atoi_dec hn] at ho; cases ho; rfl
  clear ht ho hv1 hv2;cases hi : inB v 0 1000000000 with
  | false =>
   have HV := hid9 (read_no (s := s) (fun n hn => by
    have := hv n hn;have := hn.1;have := inB_false hi;omega))
   have HI := hid9 (fun W => within_c v 0 1000000000 W);rw [hi] at HI;clear hv hi;go_enter func211, ntmps211;go_wp2_with fail;refine K.out.mono ?_;rintro e w1 ⟨rfl, hw1⟩;have hb1 := HW.out w1 hw1;clear hw1;go_wp2_with fail;refine (HI.out _).mono ?_;rintro e w2 ⟨rfl, rfl⟩;go_wp2;go_ret2;exact ⟨by rw [HV.out.1, HV.out.2]; rfl, hb1⟩
  | true =>
   have hin := inB_iff.1 hi;obtain ⟨n, rfl⟩ : ∃ n : Nat, v = (n : Int) := ⟨v.toNat, by omega⟩;have HI := hid9 (fun W => within_c (n : Int) 0 1000000000 W);rw [hi] at HI;have HD := hid9 (fun (W : World) (hW : Below w.heap.size w W) => implDecimal_c (n : Int) W (by omega) (by omega) (DecTab.below HT.out hW));by_cases he : decS (n : Int) = s
   ·have HV := hid9 (read_yes (numIs_of (by omega) he));rw [he] at HD;clear hv hi hin he;go_enter func211, ntmps211;go_wp2_with fail;refine K.out.mono ?_;rintro e w1 ⟨rfl, hw1⟩;have hb1 := HW.out w1 hw1;clear hw1;go_wp2_with fail;refine (HI.out _).mono ?_;rintro e w2 ⟨rfl, rfl⟩;go_wp2_with fail;refine (HD.out _ hb1).mono ?_;rintro e w2 ⟨rfl, hb2⟩;have B2 : Below w.heap.size w w2 := hb1.trans (hb2.mono hb1.size);go_wp2;go_ret2;exact ⟨by rw [HV.out.1, HV.out.2]; rfl, B2⟩
   ·have HV := hid9 (read_no (s := s) (fun m hm => he (by rw [hv m hm]; exact numIs_dec hm)));have f1 := beq_toList_false he;have f2 := bne_toList_true he;have f3 := toList_ne he;generalize decS (n : Int) = t at *;clear hv hi hin he;go_enter func211, ntmps211;go_wp2_with fail;refine K.out.mono ?_;rintro e w1 ⟨rfl, hw1⟩;have hb1 := HW.out w1 hw1;clear hw1;go_wp2_with fail;refine (HI.out _).mono ?_;rintro e w2 ⟨rfl, rfl⟩;go_wp2_with fail;refine (HD.out _ hb1).mono ?_;rintro e w2 ⟨rfl, hb2⟩;have B2 : Below w.heap.size w w2 := hb1.trans (hb2.mono hb1.size);go_wp2;go_ret2;exact ⟨by rw [HV.out.1, HV.out.2]; rfl, B2⟩
theorem specReadDec_c (s : ByteArray) (w : World) :
 Calls prog 222 #[.string s] w fun e w' => e = .returned (.tuple #[.int .i64 (readV s), .bool (readOk s)]) ∧ Below w.heap.size w w' := by
 by_cases h10 : (10 : Int) < (s.size : Int)
 ·have HV := hid9 (read_no (s := s) (fun n hn => by
   have := dec_len 10 n (by decide) (by have := hn.1; omega);rw [hn.2] at this;simp at this;omega))
  go_enter func222, ntmps222;go_wp2;go_ret2;exact ⟨by rw [HV.out.1, HV.out.2]; rfl, Below.refl _ _⟩
 ·go_enter func222, ntmps222;go_wp2;go_loop [4, 5] (fun a i => ∃ k m : Nat, k ≤ s.size ∧ i = .int .i64 k ∧ a = .int .i64 m ∧ Hid (m = decVal (s.data.toList.take k)) ∧ Hid (m < 10 ^ k)) (fun _ i => s.size - (intOf i).toNat)
  case atStart => exact ⟨0, 0, Nat.zero_le _, rfl, rfl, hid9 rfl, hid9 (by decide)⟩
  case round =>
   obtain ⟨k, m, hk, rfl, rfl, HM, HB⟩ := hrel;have hmb : m ≤ 10000000000 := by
    have h1 := HB.out;have h2 : 10 ^ k ≤ 10 ^ 10 := Nat.pow_le_pow_right (by decide) (by omega);have h3 : (10 : Nat) ^ 10 = 10000000000 := by decide
    omega
   have p1 : (0 : Int) ≤ (k : Int) := by omega
   have pm : (0 : Int) ≤ (m : Int) := by omega
   by_cases hlt : k < s.size
   ·have p2 : (k : Int) < (s.size : Int) := by omega
    have hmem : s[k] ∈ s.data.toList := List.getElem_mem (l := s.data.toList) (n := k) (by simpa using hlt);have q0 : (0 : Int) ≤ (s[k].toNat : Int) := by omega
    have hn255 : (s[k].toNat : Int) ≤ 255 := by have := s[k].toNat_lt; omega
    by_cases h1 : (s[k].toNat : Int) < 48
    ·have HV := hid9 (read_no (s := s) (fun n hn => by
      have := dec_digits n n (Nat.le_refl _) s[k] (by rw [hn.2]; exact hmem);omega))
     clear hmem;go_wp2;go_ret2;exact ⟨by rw [HV.out.1, HV.out.2]; rfl, Below.refl _ _⟩
    ·by_cases h2 : (57 : Int) < (s[k].toNat : Int)
     ·have HV := hid9 (read_no (s := s) (fun n hn => by
       have := dec_digits n n (Nat.le_refl _) s[k] (by rw [hn.2]; exact hmem);omega))
      clear hmem;go_wp2;go_ret2;exact ⟨by rw [HV.out.1, HV.out.2]; rfl, Below.refl _ _⟩
     ·have HS := hid9 (show 10 * m + (s[k].toNat - 48) = decVal (s.data.toList.take (k + 1)) from by
       rw [List.take_succ_eq_append_getElem (by simpa using hlt), decVal_snoc, ← HM.out]; rfl)
      have HS2 := hid9 (show 10 * m + (s[k].toNat - 48) < 10 ^ (k + 1) from by
       have := HB.out;rw [Nat.pow_succ]; omega)
      have HCast := hid9 (show ((10 * m + (s[k].toNat - 48) : Nat) : Int) = 10 * (m : Int) + (s[k].toNat : Int) - 48 from by omega);clear hmem;go_wp2;go_round
      case rel => exact ⟨k + 1, 10 * m + (s[k].toNat - 48), by omega, by go_num, by rw [HCast.out], HS, HS2⟩
      case measure => simp [intOf]; omega
   ·obtain rfl : k = s.size := by omega
    have p2 : ¬ (s.size : Int) < (s.size : Int) := by omega
    have HM2 := hid9 (show decVal s.data.toList = m from by rw [HM.out, List.take_of_length_le (by simp)]);by_cases hbig : (1000000000 : Int) < (m : Int)
    ·have HV := hid9 (read_no (s := s) (fun n hn => by
      have := numIs_val hn;rw [HM2.out] at this;have := hn.1;omega))
     go_wp2;go_ret2;exact ⟨by rw [HV.out.1, HV.out.2]; rfl, Below.refl _ _⟩
    ·have HD := hid9 (fun (W : World) => specDecimal_c (m : Int) W (by omega) (by omega));by_cases he : decS (m : Int) = s
     ·have HV := hid9 (read_yes (numIs_of (by omega) he));rw [he] at HD;clear he;go_wp2_with fail;refine (HD.out _).mono ?_;rintro e w2 ⟨rfl, hb2⟩;go_wp2;go_ret2;exact ⟨by rw [HV.out.1, HV.out.2]; rfl, hb2⟩
     ·have HV := hid9 (read_no (s := s) (fun n hn => he (by
       have := numIs_val hn;rw [HM2.out] at this;rw [this]; exact numIs_dec hn)))
      have f1 := beq_toList_false he;have f2 := bne_toList_true he;have f3 := toList_ne he;generalize decS (m : Int) = t at *;clear he;go_wp2_with fail;refine (HD.out _).mono ?_;rintro e w2 ⟨rfl, hb2⟩;go_wp2;go_ret2;exact ⟨by rw [HV.out.1, HV.out.2]; rfl, hb2⟩
noncomputable def numOfV (s : ByteArray) : Int := if 999 < readV s then 0 else readV s
theorem numOf_bounds (s : ByteArray) : 0 ≤ numOfV s ∧ numOfV s ≤ 999 := by
 have := readV_bounds s;unfold numOfV; split <;> omega
theorem implNumOf_c (s : ByteArray) (w : World) (hs : s.size ≤ 281474976710656) (ht : DecTab w) (hE : NumErr w) :
 Calls prog 171 #[.string s] w fun e w' => e = .returned (.int .i64 (numOfV s)) ∧ Below w.heap.size w w' := by
 have K := hid9 (implReadDec_c s w hs ht hE);clear ht hE;have HX := hid9 (show numOfV s = if 999 < readV s then 0 else readV s from rfl);generalize readV s = n at *;by_cases h : 999 < n
 ·have HY := hid9 (HX.out.trans (if_pos h));go_enter func171, ntmps171;go_wp2_with fail;refine K.out.mono ?_;rintro e w1 ⟨rfl, hb1⟩;go_wp2;go_ret;exact ⟨by rw [HY.out]; rfl, hb1⟩
 ·have HY := hid9 (HX.out.trans (if_neg h));go_enter func171, ntmps171;go_wp2_with fail;refine K.out.mono ?_;rintro e w1 ⟨rfl, hb1⟩;go_wp2;go_ret;exact ⟨by rw [HY.out]; rfl, hb1⟩
theorem specNumOf_c (s : ByteArray) (w : World) :
 Calls prog 192 #[.string s] w fun e w' => e = .returned (.int .i64 (numOfV s)) ∧ Below w.heap.size w w' := by
 have K := hid9 (specReadDec_c s w);have HX := hid9 (show numOfV s = if 999 < readV s then 0 else readV s from rfl);cases ho : readOk s with
 | false =>
  have HZ := hid9 (show numOfV s = 0 by
   have : readV s = 0 := (read_no (fun n hn => by rw [(read_yes hn).1] at ho; cases ho)).2;rw [HX.out, this]; rfl)
  rw [ho] at K;clear ho;generalize readV s = n at *;go_enter func192, ntmps192;go_wp2_with fail;refine K.out.mono ?_;rintro e w1 ⟨rfl, hb1⟩;go_wp2;go_ret;exact ⟨by rw [HZ.out]; rfl, hb1⟩
 | true =>
  rw [ho] at K;clear ho;generalize readV s = n at *;by_cases h : 999 < n
  ·have HY := hid9 (HX.out.trans (if_pos h));go_enter func192, ntmps192;go_wp2_with fail;refine K.out.mono ?_;rintro e w1 ⟨rfl, hb1⟩;go_wp2;go_ret;exact ⟨by rw [HY.out]; rfl, hb1⟩
  ·have HY := hid9 (HX.out.trans (if_neg h));go_enter func192, ntmps192;go_wp2_with fail;refine K.out.mono ?_;rintro e w1 ⟨rfl, hb1⟩;go_wp2;go_ret;exact ⟨by rw [HY.out]; rfl, hb1⟩
end
section
open Go.ChangeShapes Go.WideShapes Go.ChangeAt Go.RowKit
attribute [local go_sem ↓] Go.wp_at_zero Go.wp_at_succ
def NumTab (w : World) : Prop := DecTab w ∧ NumErr w
theorem MAt.grow {w w' : World} {p base : Nat} {v1 v2 v3 : Value} {m : Mch} (h : MAt w p base v1 v2 v3 m) (g : Grow3 w w' p v1 v2 v3) : Below base w w' :=
 ⟨g.os, g.tape, g.output, g.size, fun k hk => g.block k (Nat.lt_of_lt_of_le hk h.hb) (by have := h.hp; omega) (fun e => by have := (h.o1.lt k e).1; omega) (fun e => by have := (h.o2.lt k e).1; omega) (fun e => by have := (h.o3.lt k e).1; omega)⟩
structure MOk (n : Nat) (m : Mch) : Prop where
 l1 : m.st.length ≤ n
 l2 : m.rs.length ≤ n
 l3 : m.ws.length ≤ n
 sz : ∀ x ∈ m.st, x.1.size ≤ 1048576 ∧ x.2.size ≤ 1048576
def lookM (m : Mch) (key : ByteArray) : Mch := ⟨m.st, addS m.rs key, m.ws⟩
def layM (m : Mch) (key val : ByteArray) : Mch := ⟨putKeyS m.st key val, m.rs, addS m.ws key⟩
theorem get_sz {xs : List (ByteArray × ByteArray)} (h : ∀ x ∈ xs, x.1.size ≤ 1048576 ∧ x.2.size ≤ 1048576) (k : ByteArray) : (getKeyS xs k).size ≤ 1048576 := by
 unfold getKeyS;split
 ·rename_i c hc; exact (h c (List.mem_of_getElem? hc)).2
 ·exact Nat.zero_le _
theorem MOk.look {n : Nat} {m : Mch} (h : MOk n m) (key : ByteArray) : MOk (n + 1) (lookM m key) :=
 ⟨Nat.le_succ_of_le h.l1, Nat.le_trans (addS_len m.rs key) (Nat.succ_le_succ h.l2), Nat.le_succ_of_le h.l3, h.sz⟩
theorem keyOkB_size {k : ByteArray} (h : keyOkB k = true) : k.size ≤ 40 := by
 unfold keyOkB at h;simp only [Bool.and_eq_true] at h;have := (inB_iff.1 h.2).2;omega
theorem putKeyS_mem2 {z : ByteArray × ByteArray} {xs : List (ByteArray × ByteArray)} {key val : ByteArray} (h : z ∈ putKeyS xs key val) : (z = (key, val) ∧ keyOkB key = true ∧ val.size ≤ 60) ∨ z ∈ xs := by
 unfold putKeyS at h;split at h
 ·exact .inr h
 ·rename_i hc;rw [not_or, Bool.not_eq_false] at hc;rcases putV_mem h with h | h
  ·exact .inl ⟨h, hc.1, by omega⟩
  ·exact .inr h
theorem MOk.lay {n : Nat} {m : Mch} (h : MOk n m) (key val : ByteArray) : MOk (n + 1) (layM m key val) :=
 ⟨Nat.le_trans (putKeyS_len m.st key val) (Nat.succ_le_succ h.l1), Nat.le_succ_of_le h.l2, Nat.le_trans (addS_len m.ws key) (Nat.succ_le_succ h.l3), fun x hx => by
  rcases putKeyS_mem2 hx with ⟨rfl, h1, h2⟩ | hx
  ·exact ⟨Nat.le_trans (keyOkB_size h1) (by decide), Nat.le_trans h2 (by decide)⟩
  ·exact h.sz x hx⟩
theorem look_c (p base : Nat) (v1 v2 v3 : Value) (m : Mch) (key : ByteArray) (w : World) (h : MAt w p base v1 v2 v3 m) (ho : MOk 2000000000000 m) :
 Calls prog 169 #[.pointer (some ⟨p, 0, none⟩), .string key] w (MStep p base v1 v2 v3 (lookM m key) (.string (getKeyS m.st key)) w) := by
 have H := hid9 h;have K := hid9 (addSpan_c v2 base m.rs key w (by have := ho.l2; omega) h.o2 h.hb);have c1 := h.box.cell 1 _ rfl;have hl := ho.l1;clear h ho;go_enter func169, ntmps169;go_wp2_with fail;refine K.out.mono ?_;rintro e w1 ⟨u, rfl, ho, hg, hor⟩;obtain ⟨au, ku, hvu, _⟩ := reads_of_owns encS_len ho;subst hvu;obtain ⟨hs, hgr, hbx⟩ := H.out.set2 (xs := addS m.rs key) ho hg hor;have HS := hid9 hs;have HG := hid9 hgr;have HOR := hid9 hor;have d1 := hbx.cell 1 _ rfl;have z1 := hbx.free 1;have d0 := hbx.cell 0 _ rfl;obtain ⟨a1, k1, hv1, hrd⟩ := reads_of_owns encC_len hs.o1;subst hv1;have KG := hid9 (implGetKey_c a1 k1 m.st key _ (by unfold maxLen; omega) hrd);clear ho hg hor hs hgr hbx c1 hrd K;go_wp2_with fail;refine KG.out.mono ?_;rintro e w3 ⟨rfl, hb3⟩;have HEND := hid9 (MStep.next HG.out (.inl rfl) HOR.out (.inl rfl) (HS.out.step hb3 (.string (getKeyS m.st key))));clear hb3 HG HS HOR KG d0 d1 z1;go_wp2;go_ret;exact HEND.out
theorem lay_c (p base : Nat) (v1 v2 v3 : Value) (m : Mch) (key val : ByteArray) (w : World) (h : MAt w p base v1 v2 v3 m) (ho : MOk 2000000000000 m) (hk : key.size ≤ maxLen) (hv : val.size ≤ maxLen) :
 Calls prog 157 #[.pointer (some ⟨p, 0, none⟩), .string key, .string val] w (MStep p base v1 v2 v3 (layM m key val) (.tuple #[]) w) := by
 have H := hid9 h;have K := hid9 (addSpan_c v3 base m.ws key w (by have := ho.l3; omega) h.o3 h.hb);have c2 := h.box.cell 2 _ rfl;have hl := ho.l1;clear h ho;go_enter func157, ntmps157;go_wp2_with fail;refine K.out.mono ?_;rintro e w1 ⟨u, rfl, ho, hg, hor⟩;obtain ⟨au, ku, hvu, _⟩ := reads_of_owns encS_len ho;subst hvu;obtain ⟨hs, hgr, hbx⟩ := H.out.set3 (xs := addS m.ws key) ho hg hor;have HS := hid9 hs;have HG := hid9 hgr;have HOR := hid9 hor;have d2 := hbx.cell 2 _ rfl;have z2 := hbx.free 2;have d0 := hbx.cell 0 _ rfl;have KP := hid9 (put_c v1 base m.st key val _ (by omega) hs.o1 hs.hb hk hv);clear ho hg hor hs hgr hbx c2 K;go_wp2_with fail;refine KP.out.mono ?_;rintro e w3 ⟨u1, rfl, ho1, hg1, hor1⟩;obtain ⟨ax, kx, hvx, _⟩ := reads_of_owns encC_len ho1;subst hvx;obtain ⟨hs1, hgr1, hbx1⟩ := HS.out.set1 (xs := putKeyS m.st key val) ho1 hg1 hor1;have e0 := hbx1.cell 0 _ rfl;have y0 := hbx1.free 0;have HEND := hid9 (MStep.next HG.out (.inl rfl) (.inl rfl) HOR.out (⟨_, v2, _, rfl, hs1, hgr1, hor1, .inl rfl, .inl rfl⟩ : MStep p base v1 v2 (.slice au (addS m.ws key).length ku) (layM m key val) (.tuple #[]) _ (.returned (.tuple #[])) _));clear ho1 hg1 hor1 hs1 hgr1 hbx1 d0 d2 z2 HS HG HOR KP;go_wp2;exact bodyPost_ret (v := .tuple #[]) (by simp [results, results157, go_sem]) rfl HEND.out
theorem num_c (p base : Nat) (v1 v2 v3 : Value) (m : Mch) (key : ByteArray) (w : World) (h : MAt w p base v1 v2 v3 m) (ho : MOk 2000000000000 m) (HT : ∀ W, Below base w W → NumTab W) :
 Calls prog 120 #[.pointer (some ⟨p, 0, none⟩), .string key] w (MStep p base v1 v2 v3 (lookM m key) (.int .i64 (numOfV (getKeyS m.st key))) w) := by
 have H := hid9 h;have K := hid9 (look_c p base v1 v2 v3 m key w h ho);have hs := get_sz ho.sz key;have HTT := hid9 HT;clear h ho HT;generalize getKeyS m.st key = s at *;have KN := hid9 (fun W (h : NumTab W) => implNumOf_c s W (by omega) h.1 h.2);generalize numOfV s = n at *;go_enter func120, ntmps120;go_wp2_with fail;refine K.out.mono ?_;rintro e w1 ⟨u1, u2, u3, rfl, hm, hg, q1, q2, q3⟩;have HM := hid9 hm;have HG := hid9 hg;have Q1 := hid9 q1;have Q2 := hid9 q2;have Q3 := hid9 q3;have HW := hid9 (HTT.out w1 (H.out.grow hg));clear hm hg q1 q2 q3 K;go_wp2_with fail;refine (KN.out _ HW.out).mono ?_;rintro e w2 ⟨rfl, hb⟩;have HEND := hid9 (MStep.next HG.out Q1.out Q2.out Q3.out (HM.out.step hb (.int .i64 n)));clear hb;go_wp2;go_ret;exact HEND.out
def numText (n : Int) : ByteArray := if inB n 1 999 then decS n else ⟨#[]⟩
theorem numText_size (n : Int) : (numText n).size ≤ 1000 := by
 unfold numText;cases h : inB n 1 999 with
 | false => exact Nat.zero_le _
 | true =>
  have := inB_iff.1 h;have := decS_size n (by omega) (by omega);rw [if_pos rfl]; omega
def setM (m : Mch) (key : ByteArray) (n : Int) : Mch := layM m key (numText n)
theorem setNum_c (p base : Nat) (v1 v2 v3 : Value) (m : Mch) (key : ByteArray) (n : Int) (w : World) (h : MAt w p base v1 v2 v3 m) (ho : MOk 2000000000000 m) (hk : key.size ≤ maxLen) (HT : ∀ W, Below base w W → NumTab W) :
 Calls prog 122 #[.pointer (some ⟨p, 0, none⟩), .string key, .int .i64 n] w (MStep p base v1 v2 v3 (setM m key n) (.tuple #[]) w) := by
 have HTT := hid9 HT;have H := hid9 h;cases hb : inB n 1 999 with
 | false =>
  have ht : numText n = ⟨#[]⟩ := by unfold numText; rw [hb]; rfl
  have K := hid9 (lay_c p base v1 v2 v3 m key ⟨#[]⟩ w h ho hk (Nat.zero_le _));rw [← ht] at K;have HE := hid9 ht;clear h ho hk HT ht;go_enter func122, ntmps122;go_wp2_with (first | (go_at_call 152; refine (within_c _ _ _ _).mono ?_; rintro e w' ⟨rfl, rfl⟩) | fail);have K2 := K.out;rw [HE.out] at K2;refine K2.mono ?_;rintro e w1 hst;have HST := hid9 hst;obtain ⟨u1, u2, u3, rfl, hm, hg, q1, q2, q3⟩ := hst;have HEND := hid9 (show MStep p base v1 v2 v3 (setM m key n) (.tuple #[]) w (.returned (.tuple #[])) w1 from by
   unfold setM; rw [HE.out]; exact HST.out)
  clear hm hg q1 q2 q3;go_wp2;exact bodyPost_ret (v := .tuple #[]) (by simp [results, results122, go_sem]) rfl HEND.out
 | true =>
  have hr := inB_iff.1 hb;have ht : numText n = decS n := by unfold numText; rw [hb]; rfl
  have hs := numText_size n;rw [ht] at hs;have KD := hid9 (fun W (h : NumTab W) => implDecimal_c n W (by omega) (by omega) h.1);obtain ⟨dn, hdn⟩ : ∃ dn, decS n = dn := ⟨_, rfl⟩;rw [hdn] at KD hs ht;have HE := hid9 ht;have HS := hid9 hs;have HO := hid9 ho;have HK := hid9 hk;clear h ho hk HT ht hs hdn;go_enter func122, ntmps122;go_wp2_with (first | (go_at_call 152; refine (within_c _ _ _ _).mono ?_; rintro e w' ⟨rfl, rfl⟩) | fail);refine (KD.out _ (HTT.out _ (Below.refl _ _))).mono ?_;rintro e w1 ⟨rfl, hb1⟩;have HB1 := hid9 hb1;have K := hid9 (lay_c p base v1 v2 v3 m key dn w1 (H.out.below hb1) HO.out HK.out (Nat.le_trans HS.out (by unfold maxLen; omega)));clear hb1;go_wp2_with fail;refine K.out.mono ?_;rintro e w2 ⟨u1, u2, u3, rfl, hm, hg, q1, q2, q3⟩;have HEND := hid9 (show MStep p base v1 v2 v3 (setM m key n) (.tuple #[]) w (.returned (.tuple #[])) w2 from by
   unfold setM; rw [HE.out];exact MStep.next (Grow3.of_below HB1.out) (.inl rfl) (.inl rfl) (.inl rfl) ⟨u1, u2, u3, rfl, hm, hg, q1, q2, q3⟩)
  clear hm hg q1 q2 q3 K;go_wp2;exact bodyPost_ret (v := .tuple #[]) (by simp [results, results122, go_sem]) rfl HEND.out
theorem MOk.mono {n n' : Nat} {m : Mch} (h : MOk n m) (hn : n ≤ n') : MOk n' m := ⟨Nat.le_trans h.l1 hn, Nat.le_trans h.l2 hn, Nat.le_trans h.l3 hn, h.sz⟩
noncomputable def nextN (m : Mch) (key : ByteArray) : Int := numOfV (getKeyS m.st key) + 1
noncomputable def bumpN (m : Mch) (key : ByteArray) : Int := if 999 < nextN m key then 0 else nextN m key
noncomputable def bumpM (m : Mch) (key : ByteArray) : Mch := if 999 < nextN m key then lookM m key else setM (lookM m key) key (nextN m key)
theorem MStep.back {p base : Nat} {v1 v2 v3 : Value} {m' : Mch} {r r2 : Value} {w w' : World} {e : Ending} (h : MStep p base v1 v2 v3 m' r w e w') : MStep p base v1 v2 v3 m' r2 w (.returned r2) w' := by
 obtain ⟨u1, u2, u3, _, h2⟩ := h;exact ⟨u1, u2, u3, rfl, h2⟩
theorem bump_c (p base : Nat) (v1 v2 v3 : Value) (m : Mch) (key : ByteArray) (w : World) (h : MAt w p base v1 v2 v3 m) (ho : MOk 1900000000000 m) (hk : key.size ≤ maxLen) (HT : ∀ W, Below base w W → NumTab W) :
 Calls prog 121 #[.pointer (some ⟨p, 0, none⟩), .string key] w (MStep p base v1 v2 v3 (bumpM m key) (.int .i64 (bumpN m key)) w) := by
 have H := hid9 h;have HTT := hid9 HT;have K := hid9 (num_c p base v1 v2 v3 m key w h (ho.mono (by omega)) HT);have hnb := numOf_bounds (getKeyS m.st key);have HOK := hid9 ((ho.look key).mono (show 1900000000000 + 1 ≤ 2000000000000 by omega));have HK := hid9 hk;have HBM := hid9 (show bumpM m key = if 999 < numOfV (getKeyS m.st key) + 1 then lookM m key else setM (lookM m key) key (numOfV (getKeyS m.st key) + 1) from rfl);have HBN := hid9 (show bumpN m key = if 999 < numOfV (getKeyS m.st key) + 1 then 0 else numOfV (getKeyS m.st key) + 1 from rfl);clear h HT ho hk;generalize bumpM m key = bm at *;generalize bumpN m key = bn at *;generalize numOfV (getKeyS m.st key) = n at *;have hw : IntKind.i64.wrap (n + 1) = n + 1 := by rw [IntKind.wrap_i64]; omega
 by_cases hp : 999 < n + 1
 ·have HBM2 := hid9 (HBM.out.trans (if_pos hp));have HBN2 := hid9 (HBN.out.trans (if_pos hp));clear HBM HBN;go_enter func121, ntmps121;go_wp2_with fail;refine K.out.mono ?_;rintro e w1 ⟨u1, u2, u3, rfl, hm, hg, q1, q2, q3⟩;have HEND := hid9 (show MStep p base v1 v2 v3 bm (.int .i64 bn) w (.returned (.int .i64 0)) w1 from by
   rw [HBM2.out, HBN2.out]; exact ⟨u1, u2, u3, rfl, hm, hg, q1, q2, q3⟩)
  clear hm hg q1 q2 q3 K;go_wp2;go_ret;exact HEND.out
 ·have HBM2 := hid9 (HBM.out.trans (if_neg hp));have HBN2 := hid9 (HBN.out.trans (if_neg hp));clear HBM HBN;go_enter func121, ntmps121;go_wp2_with fail;refine K.out.mono ?_;rintro e w1 ⟨u1, u2, u3, rfl, hm, hg, q1, q2, q3⟩;have HG := hid9 hg;have Q1 := hid9 q1;have Q2 := hid9 q2;have Q3 := hid9 q3;have HB := hid9 (H.out.grow hg);have K2 := hid9 (setNum_c p base u1 u2 u3 (lookM m key) key (n + 1) w1 hm HOK.out HK.out (fun W hW => HTT.out W (HB.out.trans hW)));clear hm hg q1 q2 q3 K;go_wp2_with fail;refine K2.out.mono ?_;rintro e w2 hst;have HST := hid9 hst;obtain ⟨x1, x2, x3, rfl, _, _, _, _, _⟩ := hst;have HEND := hid9 (show MStep p base v1 v2 v3 bm (.int .i64 bn) w (.returned (.int .i64 (n + 1))) w2 from by
   rw [HBM2.out, HBN2.out]; exact (MStep.next HG.out Q1.out Q2.out Q3.out HST.out).back)
  clear HST K2;go_wp2;go_ret;exact HEND.out
def procK (n : Int) (t : ByteArray) : ByteArray := keyNumS ⟨#[114, 47]⟩ n t
theorem procKey_c (n : Int) (t : ByteArray) (w : World) (h0 : -9223372036854775808 ≤ n) (h1 : n ≤ 9223372036854775807) (ht : t.size ≤ 100) (hT : NumTab w) :
 Calls prog 123 #[.int .i64 n, .string t] w fun e w' => e = .returned (.string (procK n t)) ∧ Below w.heap.size w w' := by
 have K := hid9 (implKeyNum_c ⟨#[114, 47]⟩ n t w h0 h1 (by decide) (by omega) hT.1);clear hT;go_enter func123, ntmps123;go_wp2_with fail;refine K.out.mono ?_;rintro e w1 ⟨rfl, hb⟩;go_wp2;go_ret;exact ⟨rfl, hb⟩
theorem procK_size (n : Int) (t : ByteArray) (h0 : -9223372036854775808 ≤ n) (h1 : n ≤ 9223372036854775807) (ht : t.size ≤ 100) : (procK n t).size ≤ 1000 := by
 have := keyNumS_size ⟨#[114, 47]⟩ n t h0 h1;have e : (⟨#[114, 47]⟩ : ByteArray).size = 2 := rfl;unfold procK; omega
theorem bumpN_bounds (m : Mch) (key : ByteArray) : 0 ≤ bumpN m key ∧ bumpN m key ≤ 999 := by
 have := numOf_bounds (getKeyS m.st key);unfold bumpN nextN;split <;> omega
def Rd0 {α : Type} (w : World) (K : Nat) (enc : α → List Value) (v : Value) (xs : List α) : Prop := ∃ a c, v = .slice a xs.length c ∧ Reads w a K enc xs ∧ xs.length ≤ c ∧ c ≤ maxLen
def Out {α : Type} (B : Nat) (W : World) (T K : Nat) (enc : α → List Value) (v0 : Value) (xs0 : List α) (v : Value) (xs : List α) : Prop :=
 (v = v0 ∧ xs = xs0) ∨ W.ownsRow B T K v xs.length (xs.flatMap enc)
theorem Out.kept {α : Type} {B T K : Nat} {W W' : World} {enc : α → List Value} {v0 v : Value} {xs0 xs : List α} (h : Out B W T K enc v0 xs0 v xs) {b : Nat} (hg : W.grownBy W' (some b)) (hb : b < B) : Out B W' T K enc v0 xs0 v xs := by
 rcases h with h | h
 ·exact .inl h
 ·refine .inr (h.kept hg ?_);cases hv : v.ownBlock with
  | none => exact .inl rfl
  | some k => exact .inr (fun e => by cases e; have := (h.lt b hv).1; omega)
theorem Out.below {α : Type} {B T K : Nat} {W W' : World} {enc : α → List Value} {v0 v : Value} {xs0 xs : List α} (h : Out B W T K enc v0 xs0 v xs) (hb : Below W.heap.size W W') : Out B W' T K enc v0 xs0 v xs := by
 rcases h with h | h
 ·exact .inl h
 ·exact .inr (ownsRow_below h hb)
theorem Out.trans {α : Type} {B B' T K : Nat} {W : World} {enc : α → List Value} {v0 v u : Value} {xs0 xs xs' : List α} (h : Out B W T K enc v0 xs0 v xs) (h2 : Out B' W T K enc v xs u xs') (hb : B ≤ B') : Out B W T K enc v0 xs0 u xs' := by
 rcases h2 with ⟨rfl, rfl⟩ | h2
 ·exact h
 ·exact .inr (ownsRow_base h2 hb)
theorem Out.rd {α : Type} {B T K : Nat} {w W : World} {enc : α → List Value} {v0 v : Value} {xs0 xs : List α} (hk : ∀ x, (enc x).length = K) (h0 : Rd0 w K enc v0 xs0) (hb : Below w.heap.size w W) (h : Out B W T K enc v0 xs0 v xs) : Rd0 W K enc v xs := by
 rcases h with ⟨rfl, rfl⟩ | h
 ·obtain ⟨a, c, e, r, l1, l2⟩ := h0;exact ⟨a, c, e, r.below hb, l1, l2⟩
 ·obtain ⟨a, c, e, r, l1, l2⟩ := reads_of_owns' hk h;exact ⟨a, c, e, r, l1, l2⟩
structure MRd (w : World) (v1 v2 v3 : Value) (m : Mch) : Prop where
 r1 : Rd0 w 2 encC v1 m.st
 r2 : Rd0 w 1 encS v2 m.rs
 r3 : Rd0 w 1 encS v3 m.ws
structure MOut (B : Nat) (W : World) (v1 v2 v3 : Value) (m : Mch) (u1 u2 u3 : Value) (m' : Mch) : Prop where
 o1 : Out B W 99 2 encC v1 m.st u1 m'.st
 o2 : Out B W 9 1 encS v2 m.rs u2 m'.rs
 o3 : Out B W 9 1 encS v3 m.ws u3 m'.ws
section
variable {B B' : Nat} {w W W' : World} {v1 v2 v3 u1 u2 u3 x1 x2 x3 : Value} {m m' m2 : Mch}
theorem MOut.refl : MOut B W v1 v2 v3 m v1 v2 v3 m := ⟨.inl ⟨rfl, rfl⟩, .inl ⟨rfl, rfl⟩, .inl ⟨rfl, rfl⟩⟩
theorem MOut.below (h : MOut B W v1 v2 v3 m u1 u2 u3 m') (hb : Below W.heap.size W W') : MOut B W' v1 v2 v3 m u1 u2 u3 m' := ⟨h.o1.below hb, h.o2.below hb, h.o3.below hb⟩
theorem MOut.set (h : MOut B W v1 v2 v3 m u1 u2 u3 m') {b : Nat} (hb : b < B) (i : Nat) (v : Value) : MOut B (W.setCell ⟨b, i, none⟩ v) v1 v2 v3 m u1 u2 u3 m' :=
 ⟨h.o1.kept (grownBy_setCell W b i v) hb, h.o2.kept (grownBy_setCell W b i v) hb, h.o3.kept (grownBy_setCell W b i v) hb⟩
theorem MOut.trans (h : MOut B W v1 v2 v3 m u1 u2 u3 m') (h2 : MOut B' W u1 u2 u3 m' x1 x2 x3 m2) (hb : B ≤ B') : MOut B W v1 v2 v3 m x1 x2 x3 m2 := ⟨h.o1.trans h2.o1 hb, h.o2.trans h2.o2 hb, h.o3.trans h2.o3 hb⟩
theorem MOut.rd (h0 : MRd w v1 v2 v3 m) (hb : Below w.heap.size w W) (h : MOut B W v1 v2 v3 m u1 u2 u3 m') : MRd W u1 u2 u3 m' := ⟨h.o1.rd encC_len h0.r1 hb, h.o2.rd encS_len h0.r2 hb, h.o3.rd encS_len h0.r3 hb⟩
theorem MOut.base (h : MOut B' W v1 v2 v3 m u1 u2 u3 m') (hb : B ≤ B') : MOut B W v1 v2 v3 m u1 u2 u3 m' := MOut.trans MOut.refl h hb
theorem MRd.below (h : MRd w v1 v2 v3 m) (hb : Below w.heap.size w W) : MRd W v1 v2 v3 m := MOut.rd (B := 0) h hb MOut.refl
structure SH (w : World) (bx B : Nat) (v1 v2 v3 : Value) (m : Mch) (u1 u2 u3 : Value) (m' : Mch) (W : World) : Prop where
 x : Box W bx [u1, u2, u3]
 bel : Below w.heap.size w W
 mo : MOut B W v1 v2 v3 m u1 u2 u3 m'
variable {bx : Nat}
theorem SH.below (h : SH w bx B v1 v2 v3 m u1 u2 u3 m' W) (hb : Below W.heap.size W W') : SH w bx B v1 v2 v3 m u1 u2 u3 m' W' := ⟨h.x.below hb, h.bel.trans (hb.mono h.bel.size), h.mo.below hb⟩
theorem SH.drew (h : SH w bx B v1 v2 v3 m u1 u2 u3 m' W) : SH w bx B v1 v2 v3 m u1 u2 u3 m' W.drew := h.below bel9
theorem SH.set (h : SH w bx B v1 v2 v3 m u1 u2 u3 m' W) {b : Nat} (hne : bx ≠ b) (hb : b < B) (hw : w.heap.size ≤ b) (i : Nat) (v : Value) : SH w bx B v1 v2 v3 m u1 u2 u3 m' (W.setCell ⟨b, i, none⟩ v) := by
 have hg := grownBy_setCell W b i v;refine ⟨⟨Nat.lt_of_lt_of_le h.x.1 hg.size, h.x.2.elim fun T hT => ⟨T, (hg.block bx h.x.1 (fun e => by cases e; exact hne rfl)).trans hT⟩⟩, h.bel.trans (below_of_grown hg hw h.bel.size), h.mo.set hb i v⟩
theorem SH.put3 (h : SH w bx B v1 v2 v3 m u1 u2 u3 m' W) (hw : w.heap.size ≤ bx) (hb : bx < B) (hB : B ≤ B') (h2 : MOut B' W u1 u2 u3 m' x1 x2 x3 m2) : SH w bx B v1 v2 v3 m x1 x2 x3 m2 (((W.setCell ⟨bx, 0, none⟩ x1).setCell ⟨bx, 1, none⟩ x2).setCell ⟨bx, 2, none⟩ x3) := by
 have hg := grownBy_trans (grownBy_trans (grownBy_setCell W bx 0 x1) (grownBy_setCell _ bx 1 x2)) (grownBy_setCell _ bx 2 x3);exact ⟨box_put (box_put (box_put h.x 0 x1) 1 x2) 2 x3, h.bel.trans (below_of_grown hg hw h.bel.size), (((h.mo.trans h2 hB).set hb 0 x1).set hb 1 x2).set hb 2 x3⟩
end
def SRet (v1 v2 v3 : Value) (m m' : Mch) (r : Value) (w : World) (e : Ending) (w' : World) : Prop :=
 ∃ u1 u2 u3, e = .returned (.tuple #[.agg #[u1, u2, u3], r]) ∧ MOut w.heap.size w' v1 v2 v3 m u1 u2 u3 m' ∧ Below w.heap.size w w'
def SRet1 (v1 v2 v3 : Value) (m m' : Mch) (w : World) (e : Ending) (w' : World) : Prop :=
 ∃ u1 u2 u3, e = .returned (.agg #[u1, u2, u3]) ∧ MOut w.heap.size w' v1 v2 v3 m u1 u2 u3 m' ∧ Below w.heap.size w w'
set_option maxRecDepth 100000 in
theorem sLook_c (v1 v2 v3 : Value) (m : Mch) (key : ByteArray) (w : World) (h : MRd w v1 v2 v3 m) (ho : MOk 2000000000000 m) :
 Calls prog 187 #[.agg #[v1, v2, v3], .string key] w (SRet v1 v2 v3 m (lookM m key) (.string (getKeyS m.st key)) w) := by
 obtain ⟨a1, c1, hv1, R1, l1, L1⟩ := h.r1;obtain ⟨a2, c2, hv2, R2, l2, L2⟩ := h.r2;obtain ⟨a3, c3, hv3, R3, l3, L3⟩ := h.r3;subst hv1 hv2 hv3;have HR := hid9 h;have HR1 := hid9 R1;have HR2 := hid9 R2;have HR3 := hid9 R3;have B0 := hid9 ((Box.new w [.slice a1 m.st.length c1, .slice a2 m.rs.length c2, .slice a3 m.ws.length c3] 87).alloc (.cells #[.slice none 0 0, .slice none 0 0, .slice none 0 0] 87));have P0 := hid9 (show Box ((w.alloc (.cells #[.slice a1 m.st.length c1, .slice a2 m.rs.length c2, .slice a3 m.ws.length c3] 87)).alloc (.cells #[.slice none 0 0, .slice none 0 0, .slice none 0 0] 87)) (w.heap.size + 1) [.slice none 0 0, .slice none 0 0, .slice none 0 0] from by
  have h := Box.new (w.alloc (.cells #[.slice a1 m.st.length c1, .slice a2 m.rs.length c2, .slice a3 m.ws.length c3] 87)) [.slice none 0 0, .slice none 0 0, .slice none 0 0] 87;rw [show (w.alloc (.cells #[.slice a1 m.st.length c1, .slice a2 m.rs.length c2, .slice a3 m.ws.length c3] 87)).heap.size = w.heap.size + 1 by simp] at h;exact h)
 have hsz : (((w.alloc (.cells #[.slice a1 m.st.length c1, .slice a2 m.rs.length c2, .slice a3 m.ws.length c3] 87)).alloc (.cells #[.slice none 0 0, .slice none 0 0, .slice none 0 0] 87))).heap.size = w.heap.size + 2 := by simp
 have HS0 := hid9 (show SH w w.heap.size (w.heap.size + 2) (.slice a1 m.st.length c1) (.slice a2 m.rs.length c2) (.slice a3 m.ws.length c3) m (.slice a1 m.st.length c1) (.slice a2 m.rs.length c2) (.slice a3 m.ws.length c3) m ((w.alloc (.cells #[.slice a1 m.st.length c1, .slice a2 m.rs.length c2, .slice a3 m.ws.length c3] 87)).alloc (.cells #[.slice none 0 0, .slice none 0 0, .slice none 0 0] 87)) from ⟨B0.out, bel9, MOut.refl⟩);have KA := hid9 (specAddSpan_c a2 c2 m.rs key ((w.alloc (.cells #[.slice a1 m.st.length c1, .slice a2 m.rs.length c2, .slice a3 m.ws.length c3] 87)).alloc (.cells #[.slice none 0 0, .slice none 0 0, .slice none 0 0] 87)) (by have := ho.l2; omega) (HR2.out.below bel9) l2 L2);have KG := hid9 (fun W (hb : Below w.heap.size w W) => specGetKey_c a1 c1 m.st key W (by have := ho.l1; unfold maxLen; omega) (HR1.out.below hb));obtain ⟨g, hg⟩ : ∃ g, getKeyS m.st key = g := ⟨_, rfl⟩;rw [hg] at KG;rw [hg];clear hg h R1 R2 R3 ho;go_enter func187, ntmps187;go_wp2_with fail;refine KA.out.mono ?_;rintro e w1 ⟨u, rfl, ho2, hb1⟩;rw [hsz] at ho2;obtain ⟨au, ku, hvu, _⟩ := reads_of_owns encS_len ho2;subst hvu;have S1 := HS0.out.below hb1;have P1 := hid9 (P0.out.below hb1);have c1' := S1.x.cell 1 _ rfl;have z1 := S1.x.free 1;have hgs := grownBy_setCell w1 w.heap.size 1 (.slice au (addS m.rs key).length ku);have hs1 : w.heap.size + 2 ≤ w1.heap.size := by rw [← hsz]; exact hb1.size
 have SX : SH w w.heap.size (w.heap.size + 2) (.slice a1 m.st.length c1) (.slice a2 m.rs.length c2) (.slice a3 m.ws.length c3) m (.slice a1 m.st.length c1) (.slice au (addS m.rs key).length ku) (.slice a3 m.ws.length c3) (lookM m key) (w1.setCell ⟨w.heap.size, 1, none⟩ (.slice au (addS m.rs key).length ku)) := ⟨box_put S1.x 1 _, S1.bel.trans (below_of_grown hgs (Nat.le_refl _) S1.bel.size), ⟨.inl ⟨rfl, rfl⟩, (show Out (w.heap.size + 2) w1 9 1 encS (.slice a2 m.rs.length c2) m.rs (.slice au (addS m.rs key).length ku) (addS m.rs key) from .inr ho2).kept hgs (by omega), .inl ⟨rfl, rfl⟩⟩⟩;have HX := hid9 SX;have PX : Box (w1.setCell ⟨w.heap.size, 1, none⟩ (.slice au (addS m.rs key).length ku)) (w.heap.size + 1) [.slice none 0 0, .slice none 0 0, .slice none 0 0] := ⟨Nat.lt_of_lt_of_le P1.out.1 hgs.size, P1.out.2.elim fun T hT => ⟨T, (hgs.block _ P1.out.1 (fun e => by have := Option.some.inj e; omega)).trans hT⟩⟩;have HPX := hid9 PX;clear ho2 hgs S1 KA HS0 B0 P0 PX hb1;have cr0 : ∀ W, SH w w.heap.size (w.heap.size + 2) (.slice a1 m.st.length c1) (.slice a2 m.rs.length c2) (.slice a3 m.ws.length c3) m (.slice a1 m.st.length c1) (.slice au (addS m.rs key).length ku) (.slice a3 m.ws.length c3) (lookM m key) W → W.cell? ⟨w.heap.size, 0, none⟩ = some (.slice a1 m.st.length c1) := fun W h => h.x.cell 0 _ rfl;have cr1 : ∀ W, SH w w.heap.size (w.heap.size + 2) (.slice a1 m.st.length c1) (.slice a2 m.rs.length c2) (.slice a3 m.ws.length c3) m (.slice a1 m.st.length c1) (.slice au (addS m.rs key).length ku) (.slice a3 m.ws.length c3) (lookM m key) W → W.cell? ⟨w.heap.size, 1, none⟩ = some (.slice au (addS m.rs key).length ku) := fun W h => h.x.cell 1 _ rfl;have cr2 : ∀ W, SH w w.heap.size (w.heap.size + 2) (.slice a1 m.st.length c1) (.slice a2 m.rs.length c2) (.slice a3 m.ws.length c3) m (.slice a1 m.st.length c1) (.slice au (addS m.rs key).length ku) (.slice a3 m.ws.length c3) (lookM m key) W → W.cell? ⟨w.heap.size, 2, none⟩ = some (.slice a3 m.ws.length c3) := fun W h => h.x.cell 2 _ rfl;have HEND := hid9 (fun W (h : SH w w.heap.size (w.heap.size + 2) (.slice a1 m.st.length c1) (.slice a2 m.rs.length c2) (.slice a3 m.ws.length c3) m (.slice a1 m.st.length c1) (.slice au (addS m.rs key).length ku) (.slice a3 m.ws.length c3) (lookM m key) W) => (show SRet (.slice a1 m.st.length c1) (.slice a2 m.rs.length c2) (.slice a3 m.ws.length c3) m (lookM m key) (.string g) w (.returned (.tuple #[.agg #[.slice a1 m.st.length c1, .slice au (addS m.rs key).length ku, .slice a3 m.ws.length c3], .string g])) W from ⟨_, _, _, rfl, h.mo.base (by omega), h.bel⟩));go_wp2_with fail;go_region_held3 (fun w' => SH w w.heap.size (w.heap.size + 2) (.slice a1 m.st.length c1) (.slice a2 m.rs.length c2) (.slice a3 m.ws.length c3) m (.slice a1 m.st.length c1) (.slice au (addS m.rs key).length ku) (.slice a3 m.ws.length c3) (lookM m key) w') (first | with_reducible assumption | with_reducible exact SH.below (by with_reducible assumption) (by with_reducible assumption) | ((repeat (first | with_reducible refine SH.drew ?_ | with_reducible refine SH.set ?_ (by omega) (by omega) (by omega) _ _)); with_reducible assumption)) (first | (go_at_call 219; refine (KG.out _ (SH.bel (by with_reducible assumption))).mono ?_; rintro e w3 ⟨rfl, hbk⟩; have BR := Box.below (Box.drew HPX.out) hbk; have pc0 := BR.cell 0 _ rfl; have pc1 := BR.cell 1 _ rfl; have pc2 := BR.cell 2 _ rfl; have pf0 := BR.free 0; have pf1 := BR.free 1; have pf2 := BR.free 2));go_wp2;exact bodyPost_ret (v := .tuple #[.agg #[.slice a1 m.st.length c1, .slice au (addS m.rs key).length ku, .slice a3 m.ws.length c3], .string g]) (by simp [results, results187, go_sem, *]) rfl (HEND.out _ (by with_reducible assumption))
set_option maxRecDepth 100000 in
theorem sLay_c (v1 v2 v3 : Value) (m : Mch) (key val : ByteArray) (w : World) (h : MRd w v1 v2 v3 m) (ho : MOk 2000000000000 m) (hk : key.size ≤ maxLen) (hv : val.size ≤ maxLen) :
 Calls prog 177 #[.agg #[v1, v2, v3], .string key, .string val] w (SRet1 v1 v2 v3 m (layM m key val) w) := by
 obtain ⟨a1, c1, hv1, R1, l1, L1⟩ := h.r1;obtain ⟨a2, c2, hv2, R2, l2, L2⟩ := h.r2;obtain ⟨a3, c3, hv3, R3, l3, L3⟩ := h.r3;subst hv1 hv2 hv3;have HR := hid9 h;have HR1 := hid9 R1;have HR2 := hid9 R2;have HR3 := hid9 R3;have B0 := hid9 ((Box.new w [.slice a1 m.st.length c1, .slice a2 m.rs.length c2, .slice a3 m.ws.length c3] 87).alloc (.cells #[.slice none 0 0, .slice none 0 0, .slice none 0 0] 87));have P0 := hid9 (show Box ((w.alloc (.cells #[.slice a1 m.st.length c1, .slice a2 m.rs.length c2, .slice a3 m.ws.length c3] 87)).alloc (.cells #[.slice none 0 0, .slice none 0 0, .slice none 0 0] 87)) (w.heap.size + 1) [.slice none 0 0, .slice none 0 0, .slice none 0 0] from by
  have h := Box.new (w.alloc (.cells #[.slice a1 m.st.length c1, .slice a2 m.rs.length c2, .slice a3 m.ws.length c3] 87)) [.slice none 0 0, .slice none 0 0, .slice none 0 0] 87;rw [show (w.alloc (.cells #[.slice a1 m.st.length c1, .slice a2 m.rs.length c2, .slice a3 m.ws.length c3] 87)).heap.size = w.heap.size + 1 by simp] at h;exact h)
 have hsz : (((w.alloc (.cells #[.slice a1 m.st.length c1, .slice a2 m.rs.length c2, .slice a3 m.ws.length c3] 87)).alloc (.cells #[.slice none 0 0, .slice none 0 0, .slice none 0 0] 87))).heap.size = w.heap.size + 2 := by simp
 have HS0 := hid9 (show SH w w.heap.size (w.heap.size + 2) (.slice a1 m.st.length c1) (.slice a2 m.rs.length c2) (.slice a3 m.ws.length c3) m (.slice a1 m.st.length c1) (.slice a2 m.rs.length c2) (.slice a3 m.ws.length c3) m ((w.alloc (.cells #[.slice a1 m.st.length c1, .slice a2 m.rs.length c2, .slice a3 m.ws.length c3] 87)).alloc (.cells #[.slice none 0 0, .slice none 0 0, .slice none 0 0] 87)) from ⟨B0.out, bel9, MOut.refl⟩);have KA := hid9 (specAddSpan_c a3 c3 m.ws key ((w.alloc (.cells #[.slice a1 m.st.length c1, .slice a2 m.rs.length c2, .slice a3 m.ws.length c3] 87)).alloc (.cells #[.slice none 0 0, .slice none 0 0, .slice none 0 0] 87)) (by have := ho.l3; omega) (HR3.out.below bel9) l3 L3);have KP := hid9 (fun W (hb : Below w.heap.size w W) => specPutKey_c a1 c1 m.st key val W (by have := ho.l1; omega) (HR1.out.below hb) (fun x hx => by have := ho.sz x hx; unfold maxLen; omega) hk hv);clear h R1 R2 R3 ho;go_enter func177, ntmps177;go_wp2_with fail;refine KA.out.mono ?_;rintro e w1 ⟨u, rfl, ho2, hb1⟩;rw [hsz] at ho2;obtain ⟨au, ku, hvu, _⟩ := reads_of_owns encS_len ho2;subst hvu;have S1 := HS0.out.below hb1;have P1 := hid9 (P0.out.below hb1);have c0' := S1.x.cell 0 _ rfl;have c2' := S1.x.cell 2 _ rfl;have z2 := S1.x.free 2;have hgs := grownBy_setCell w1 w.heap.size 2 (.slice au (addS m.ws key).length ku);have hs1 : w.heap.size + 2 ≤ w1.heap.size := by rw [← hsz]; exact hb1.size
 have SX : SH w w.heap.size (w.heap.size + 2) (.slice a1 m.st.length c1) (.slice a2 m.rs.length c2) (.slice a3 m.ws.length c3) m (.slice a1 m.st.length c1) (.slice a2 m.rs.length c2) (.slice au (addS m.ws key).length ku) ⟨m.st, m.rs, addS m.ws key⟩ (w1.setCell ⟨w.heap.size, 2, none⟩ (.slice au (addS m.ws key).length ku)) := ⟨box_put S1.x 2 _, S1.bel.trans (below_of_grown hgs (Nat.le_refl _) S1.bel.size), ⟨.inl ⟨rfl, rfl⟩, .inl ⟨rfl, rfl⟩, (show Out (w.heap.size + 2) w1 9 1 encS (.slice a3 m.ws.length c3) m.ws (.slice au (addS m.ws key).length ku) (addS m.ws key) from .inr ho2).kept hgs (by omega)⟩⟩;have HX := hid9 SX;have HPX := hid9 (show Box (w1.setCell ⟨w.heap.size, 2, none⟩ (.slice au (addS m.ws key).length ku)) (w.heap.size + 1) [.slice none 0 0, .slice none 0 0, .slice none 0 0] from ⟨Nat.lt_of_lt_of_le P1.out.1 hgs.size, P1.out.2.elim fun T hT => ⟨T, (hgs.block _ P1.out.1 (fun e => by have := Option.some.inj e; omega)).trans hT⟩⟩);have hs2 : w.heap.size + 2 ≤ (w1.setCell ⟨w.heap.size, 2, none⟩ (.slice au (addS m.ws key).length ku)).heap.size := Nat.le_trans hs1 hgs.size;have KP2 := hid9 (KP.out _ SX.bel);clear ho2 hgs S1 KA HS0 B0 P0 hb1 SX KP P1;go_wp2_with fail;refine KP2.out.mono ?_;rintro e w3 ⟨x, rfl, ho3, hb3⟩;have ho4 := ownsRow_base ho3 hs2;obtain ⟨ax, kx, hvx, _⟩ := reads_of_owns encC_len ho4;subst hvx;have S3 := HX.out.below hb3;have P3 := HPX.out.below hb3;have hg3 := grownBy_setCell w3 w.heap.size 0 (.slice ax (putKeyS m.st key val).length kx);have SE := hid9 (show SH w w.heap.size (w.heap.size + 2) (.slice a1 m.st.length c1) (.slice a2 m.rs.length c2) (.slice a3 m.ws.length c3) m (.slice ax (putKeyS m.st key val).length kx) (.slice a2 m.rs.length c2) (.slice au (addS m.ws key).length ku) (layM m key val) (w3.setCell ⟨w.heap.size, 0, none⟩ (.slice ax (putKeyS m.st key val).length kx)) from ⟨box_put S3.x 0 _, S3.bel.trans (below_of_grown hg3 (Nat.le_refl _) S3.bel.size), ⟨(show Out (w.heap.size + 2) w3 99 2 encC (.slice a1 m.st.length c1) m.st (.slice ax (putKeyS m.st key val).length kx) (putKeyS m.st key val) from .inr ho4).kept hg3 (by omega), S3.mo.o2.kept hg3 (by omega), S3.mo.o3.kept hg3 (by omega)⟩⟩);have d0 := S3.x.cell 0 _ rfl;have d1 := S3.x.cell 1 _ rfl;have d2 := S3.x.cell 2 _ rfl;have y0 := S3.x.free 0;have pc0 := P3.cell 0 _ rfl;have pf0 := P3.free 0;have pc1 := P3.cell 1 _ rfl;have pf1 := P3.free 1;have pc2 := P3.cell 2 _ rfl;have pf2 := P3.free 2;have HEND := hid9 (fun W (h : SH w w.heap.size (w.heap.size + 2) (.slice a1 m.st.length c1) (.slice a2 m.rs.length c2) (.slice a3 m.ws.length c3) m (.slice ax (putKeyS m.st key val).length kx) (.slice a2 m.rs.length c2) (.slice au (addS m.ws key).length ku) (layM m key val) W) => (show SRet1 (.slice a1 m.st.length c1) (.slice a2 m.rs.length c2) (.slice a3 m.ws.length c3) m (layM m key val) w (.returned (.agg #[.slice ax (putKeyS m.st key val).length kx, .slice a2 m.rs.length c2, .slice au (addS m.ws key).length ku])) W from ⟨_, _, _, rfl, h.mo.base (by omega), h.bel⟩));clear ho3 ho4 hb3 S3 P3 hg3 HX HPX hs2 c0' c2' z2 KP2;go_wp2;exact bodyPost_ret (v := .agg #[.slice ax (putKeyS m.st key val).length kx, .slice a2 m.rs.length c2, .slice au (addS m.ws key).length ku]) (by simp [results, results177, go_sem, *]) rfl (HEND.out _ (by (repeat (with_reducible refine SH.set ?_ (by omega) (by omega) (by omega) _ _)); with_reducible exact SE.out))
theorem box_far {w : World} {b b' : Nat} {xs : List Value} (h : Box w b xs) (hne : b ≠ b') (i : Nat) (v : Value) : Box (w.setCell ⟨b', i, none⟩ v) b xs := by
 obtain ⟨h1, T, h2⟩ := h;exact ⟨by simpa [World.setCell] using h1, T, (heap_setCell_other w ⟨b', i, none⟩ b v hne).trans h2⟩
set_option maxRecDepth 100000 in
theorem sNumAt_c (v1 v2 v3 : Value) (m : Mch) (key : ByteArray) (w : World) (h : MRd w v1 v2 v3 m) (ho : MOk 1900000000000 m) :
 Calls prog 147 #[.agg #[v1, v2, v3], .string key] w (SRet v1 v2 v3 m (lookM m key) (.int .i64 (numOfV (getKeyS m.st key))) w) := by
 obtain ⟨a1, c1, hv1, R1, l1, L1⟩ := h.r1;obtain ⟨a2, c2, hv2, R2, l2, L2⟩ := h.r2;obtain ⟨a3, c3, hv3, R3, l3, L3⟩ := h.r3;subst hv1 hv2 hv3;have HR := hid9 h;have HR1 := hid9 R1;have HR2 := hid9 R2;have HR3 := hid9 R3;have B0 := hid9 ((Box.new w [.slice a1 m.st.length c1, .slice a2 m.rs.length c2, .slice a3 m.ws.length c3] 87).alloc (.cells #[.slice none 0 0, .slice none 0 0, .slice none 0 0] 87));have P0 := hid9 (show Box ((w.alloc (.cells #[.slice a1 m.st.length c1, .slice a2 m.rs.length c2, .slice a3 m.ws.length c3] 87)).alloc (.cells #[.slice none 0 0, .slice none 0 0, .slice none 0 0] 87)) (w.heap.size + 1) [.slice none 0 0, .slice none 0 0, .slice none 0 0] from by
  have h := Box.new (w.alloc (.cells #[.slice a1 m.st.length c1, .slice a2 m.rs.length c2, .slice a3 m.ws.length c3] 87)) [.slice none 0 0, .slice none 0 0, .slice none 0 0] 87;rw [show (w.alloc (.cells #[.slice a1 m.st.length c1, .slice a2 m.rs.length c2, .slice a3 m.ws.length c3] 87)).heap.size = w.heap.size + 1 by simp] at h;exact h)
 have hsz : (((w.alloc (.cells #[.slice a1 m.st.length c1, .slice a2 m.rs.length c2, .slice a3 m.ws.length c3] 87)).alloc (.cells #[.slice none 0 0, .slice none 0 0, .slice none 0 0] 87))).heap.size = w.heap.size + 2 := by simp
 have HS0 := hid9 (show SH w w.heap.size (w.heap.size + 2) (.slice a1 m.st.length c1) (.slice a2 m.rs.length c2) (.slice a3 m.ws.length c3) m (.slice a1 m.st.length c1) (.slice a2 m.rs.length c2) (.slice a3 m.ws.length c3) m ((w.alloc (.cells #[.slice a1 m.st.length c1, .slice a2 m.rs.length c2, .slice a3 m.ws.length c3] 87)).alloc (.cells #[.slice none 0 0, .slice none 0 0, .slice none 0 0] 87)) from ⟨B0.out, bel9, MOut.refl⟩);have KL := hid9 (sLook_c (.slice a1 m.st.length c1) (.slice a2 m.rs.length c2) (.slice a3 m.ws.length c3) m key ((w.alloc (.cells #[.slice a1 m.st.length c1, .slice a2 m.rs.length c2, .slice a3 m.ws.length c3] 87)).alloc (.cells #[.slice none 0 0, .slice none 0 0, .slice none 0 0] 87)) (HR.out.below bel9) (ho.mono (by omega)));have HOK := hid9 (ho.look key);have hgs := get_sz ho.sz key;generalize getKeyS m.st key = s at *;clear h R1 R2 R3 ho;go_enter func147, ntmps147;go_wp2_with fail;refine KL.out.mono ?_;rintro e w1 ⟨u1, u2, u3, rfl, hmo, hb1⟩;rw [hsz] at hmo;have hrd := hmo.rd (HR.out.below (show Below w.heap.size w ((w.alloc (.cells #[.slice a1 m.st.length c1, .slice a2 m.rs.length c2, .slice a3 m.ws.length c3] 87)).alloc (.cells #[.slice none 0 0, .slice none 0 0, .slice none 0 0] 87)) from bel9)) hb1;obtain ⟨x1, k1, hx1, _, _, _⟩ := hrd.r1;obtain ⟨x2, k2, hx2, _, _, _⟩ := hrd.r2;obtain ⟨x3, k3, hx3, _, _, _⟩ := hrd.r3;subst hx1 hx2 hx3;have S1 := HS0.out.below hb1;have HX := hid9 (S1.put3 (Nat.le_refl _) (by omega) (Nat.le_refl _) hmo);have HPX := hid9 (box_far (box_far (box_far (P0.out.below hb1) (show w.heap.size + 1 ≠ w.heap.size by omega) 0 (.slice x1 (lookM m key).st.length k1)) (show w.heap.size + 1 ≠ w.heap.size by omega) 1 (.slice x2 (lookM m key).rs.length k2)) (show w.heap.size + 1 ≠ w.heap.size by omega) 2 (.slice x3 (lookM m key).ws.length k3));have e0 := S1.x.cell 0 _ rfl;have e1 := S1.x.cell 1 _ rfl;have e2 := S1.x.cell 2 _ rfl;have z0 := S1.x.free 0;have z1 := S1.x.free 1;have z2 := S1.x.free 2;clear hmo hb1 hrd S1 KL HS0 B0 P0;have KN := hid9 (fun W => specNumOf_c s W);generalize numOfV s = n at *;have cr0 : ∀ W, SH w w.heap.size (w.heap.size + 2) (.slice a1 m.st.length c1) (.slice a2 m.rs.length c2) (.slice a3 m.ws.length c3) m (.slice x1 (lookM m key).st.length k1) (.slice x2 (lookM m key).rs.length k2) (.slice x3 (lookM m key).ws.length k3) (lookM m key) W → W.cell? ⟨w.heap.size, 0, none⟩ = some (.slice x1 (lookM m key).st.length k1) := fun W h => h.x.cell 0 _ rfl;have cr1 : ∀ W, SH w w.heap.size (w.heap.size + 2) (.slice a1 m.st.length c1) (.slice a2 m.rs.length c2) (.slice a3 m.ws.length c3) m (.slice x1 (lookM m key).st.length k1) (.slice x2 (lookM m key).rs.length k2) (.slice x3 (lookM m key).ws.length k3) (lookM m key) W → W.cell? ⟨w.heap.size, 1, none⟩ = some (.slice x2 (lookM m key).rs.length k2) := fun W h => h.x.cell 1 _ rfl;have cr2 : ∀ W, SH w w.heap.size (w.heap.size + 2) (.slice a1 m.st.length c1) (.slice a2 m.rs.length c2) (.slice a3 m.ws.length c3) m (.slice x1 (lookM m key).st.length k1) (.slice x2 (lookM m key).rs.length k2) (.slice x3 (lookM m key).ws.length k3) (lookM m key) W → W.cell? ⟨w.heap.size, 2, none⟩ = some (.slice x3 (lookM m key).ws.length k3) := fun W h => h.x.cell 2 _ rfl
 have HEND := hid9 (fun W (h : SH w w.heap.size (w.heap.size + 2) (.slice a1 m.st.length c1) (.slice a2 m.rs.length c2) (.slice a3 m.ws.length c3) m (.slice x1 (lookM m key).st.length k1) (.slice x2 (lookM m key).rs.length k2) (.slice x3 (lookM m key).ws.length k3) (lookM m key) W) => (show SRet (.slice a1 m.st.length c1) (.slice a2 m.rs.length c2) (.slice a3 m.ws.length c3) m (lookM m key) (.int .i64 n) w (.returned (.tuple #[.agg #[.slice x1 (lookM m key).st.length k1, .slice x2 (lookM m key).rs.length k2, .slice x3 (lookM m key).ws.length k3], .int .i64 n])) W from ⟨_, _, _, rfl, h.mo.base (by omega), h.bel⟩));have SX : SH w w.heap.size (w.heap.size + 2) (.slice a1 m.st.length c1) (.slice a2 m.rs.length c2) (.slice a3 m.ws.length c3) m (.slice x1 (lookM m key).st.length k1) (.slice x2 (lookM m key).rs.length k2) (.slice x3 (lookM m key).ws.length k3) (lookM m key) (((w1.setCell ⟨w.heap.size, 0, none⟩ (.slice x1 (lookM m key).st.length k1)).setCell ⟨w.heap.size, 1, none⟩ (.slice x2 (lookM m key).rs.length k2)).setCell ⟨w.heap.size, 2, none⟩ (.slice x3 (lookM m key).ws.length k3)) := HX.out;go_wp2_with fail;go_region_held3 (fun w' => SH w w.heap.size (w.heap.size + 2) (.slice a1 m.st.length c1) (.slice a2 m.rs.length c2) (.slice a3 m.ws.length c3) m (.slice x1 (lookM m key).st.length k1) (.slice x2 (lookM m key).rs.length k2) (.slice x3 (lookM m key).ws.length k3) (lookM m key) w') (first | with_reducible assumption | with_reducible exact SH.below (by with_reducible assumption) (by with_reducible assumption) | ((repeat (first | with_reducible refine SH.drew ?_ | with_reducible refine SH.set ?_ (by omega) (by omega) (by omega) _ _)); with_reducible assumption)) (first | (go_at_call 192; refine (KN.out _).mono ?_; rintro e w3 ⟨rfl, hbk⟩; have BR := Box.below (Box.drew HPX.out) hbk; have pc0 := BR.cell 0 _ rfl; have pf0 := BR.free 0; have pc1 := BR.cell 1 _ rfl; have pf1 := BR.free 1; have pc2 := BR.cell 2 _ rfl; have pf2 := BR.free 2));go_wp2;exact bodyPost_ret (v := .tuple #[.agg #[.slice x1 (lookM m key).st.length k1, .slice x2 (lookM m key).rs.length k2, .slice x3 (lookM m key).ws.length k3], .int .i64 n]) (by simp [results, results147, go_sem, *]) rfl (HEND.out _ (by with_reducible assumption))
theorem SRet1.op {v1 v2 v3 : Value} {m m' : Mch} {w w' : World} {e : Ending} (h : MRd w v1 v2 v3 m) (hs : SRet1 v1 v2 v3 m m' w e w') : ∃ a1 k1 a2 k2 a3 k3, e = .returned (.agg #[.slice a1 m'.st.length k1, .slice a2 m'.rs.length k2, .slice a3 m'.ws.length k3]) ∧ MOut w.heap.size w' v1 v2 v3 m (.slice a1 m'.st.length k1) (.slice a2 m'.rs.length k2) (.slice a3 m'.ws.length k3) m' ∧ Below w.heap.size w w' := by
 obtain ⟨u1, u2, u3, rfl, hmo, hb⟩ := hs;have hrd := hmo.rd h hb;obtain ⟨x1, k1, hx1, _, _, _⟩ := hrd.r1;obtain ⟨x2, k2, hx2, _, _, _⟩ := hrd.r2;obtain ⟨x3, k3, hx3, _, _, _⟩ := hrd.r3;subst hx1 hx2 hx3;exact ⟨x1, k1, x2, k2, x3, k3, rfl, hmo, hb⟩
set_option maxRecDepth 100000 in
theorem sSetNum_c (v1 v2 v3 : Value) (m : Mch) (key : ByteArray) (n : Int) (w : World) (h : MRd w v1 v2 v3 m) (ho : MOk 1900000000000 m) (hk : key.size ≤ maxLen) :
 Calls prog 149 #[.agg #[v1, v2, v3], .string key, .int .i64 n] w (SRet1 v1 v2 v3 m (setM m key n) w) := by
 obtain ⟨a1, c1, hv1, R1, l1, L1⟩ := h.r1;obtain ⟨a2, c2, hv2, R2, l2, L2⟩ := h.r2;obtain ⟨a3, c3, hv3, R3, l3, L3⟩ := h.r3;subst hv1 hv2 hv3;have HR := hid9 h;have HR1 := hid9 R1;have HR2 := hid9 R2;have HR3 := hid9 R3;have B0 := hid9 ((Box.new w [.slice a1 m.st.length c1, .slice a2 m.rs.length c2, .slice a3 m.ws.length c3] 87).alloc (.cells #[.slice none 0 0, .slice none 0 0, .slice none 0 0] 87));have P0 := hid9 (show Box ((w.alloc (.cells #[.slice a1 m.st.length c1, .slice a2 m.rs.length c2, .slice a3 m.ws.length c3] 87)).alloc (.cells #[.slice none 0 0, .slice none 0 0, .slice none 0 0] 87)) (w.heap.size + 1) [.slice none 0 0, .slice none 0 0, .slice none 0 0] from by
  have h := Box.new (w.alloc (.cells #[.slice a1 m.st.length c1, .slice a2 m.rs.length c2, .slice a3 m.ws.length c3] 87)) [.slice none 0 0, .slice none 0 0, .slice none 0 0] 87;rw [show (w.alloc (.cells #[.slice a1 m.st.length c1, .slice a2 m.rs.length c2, .slice a3 m.ws.length c3] 87)).heap.size = w.heap.size + 1 by simp] at h;exact h)
 have hsz : (((w.alloc (.cells #[.slice a1 m.st.length c1, .slice a2 m.rs.length c2, .slice a3 m.ws.length c3] 87)).alloc (.cells #[.slice none 0 0, .slice none 0 0, .slice none 0 0] 87))).heap.size = w.heap.size + 2 := by simp
 have HS0 := hid9 (show SH w w.heap.size (w.heap.size + 2) (.slice a1 m.st.length c1) (.slice a2 m.rs.length c2) (.slice a3 m.ws.length c3) m (.slice a1 m.st.length c1) (.slice a2 m.rs.length c2) (.slice a3 m.ws.length c3) m ((w.alloc (.cells #[.slice a1 m.st.length c1, .slice a2 m.rs.length c2, .slice a3 m.ws.length c3] 87)).alloc (.cells #[.slice none 0 0, .slice none 0 0, .slice none 0 0] 87)) from ⟨B0.out, bel9, MOut.refl⟩);have HOK := hid9 (ho.mono (show 1900000000000 ≤ 2000000000000 by omega));have HK := hid9 hk;clear R1 R2 R3 ho hk;cases hb : inB n 1 999 with
 | false =>
  have hE : setM m key n = layM m key ⟨#[]⟩ := by unfold setM numText; rw [hb]; rfl
  rw [hE];have KLY := hid9 ((sLay_c (.slice a1 m.st.length c1) (.slice a2 m.rs.length c2) (.slice a3 m.ws.length c3) m key ⟨#[]⟩ ((w.alloc (.cells #[.slice a1 m.st.length c1, .slice a2 m.rs.length c2, .slice a3 m.ws.length c3] 87)).alloc (.cells #[.slice none 0 0, .slice none 0 0, .slice none 0 0] 87)) (HR.out.below bel9) HOK.out HK.out (Nat.zero_le _)).mono fun e w' hs => hs.op (HR.out.below (show Below w.heap.size w ((w.alloc (.cells #[.slice a1 m.st.length c1, .slice a2 m.rs.length c2, .slice a3 m.ws.length c3] 87)).alloc (.cells #[.slice none 0 0, .slice none 0 0, .slice none 0 0] 87)) from bel9)));clear hE h;go_enter func149, ntmps149;go_wp2_with (first | (go_at_call 70; refine (l01In_c _ _ _ _).mono ?_; rintro e w' ⟨rfl, rfl⟩) | fail);refine KLY.out.mono ?_;rintro e w8 ⟨y1, q1, y2, q2, y3, q3, rfl, hmo8, hbk8⟩;rw [hsz] at hmo8;have HMO := hid9 hmo8;have BR := P0.out.below hbk8;have HB := hid9 ((show Below w.heap.size w ((w.alloc (.cells #[.slice a1 m.st.length c1, .slice a2 m.rs.length c2, .slice a3 m.ws.length c3] 87)).alloc (.cells #[.slice none 0 0, .slice none 0 0, .slice none 0 0] 87)) from bel9).trans (hbk8.mono (by rw [hsz]; omega)));have pc0 := BR.cell 0 _ rfl;have pf0 := BR.free 0;have pc1 := BR.cell 1 _ rfl;have pf1 := BR.free 1;have pc2 := BR.cell 2 _ rfl;have pf2 := BR.free 2;clear BR hmo8 hbk8 HS0 B0 P0 KLY;go_wp2;exact bodyPost_ret (v := .agg #[.slice y1 (layM m key ⟨#[]⟩).st.length q1, .slice y2 (layM m key ⟨#[]⟩).rs.length q2, .slice y3 (layM m key ⟨#[]⟩).ws.length q3]) (by simp [results, results149, go_sem, *]) rfl ⟨_, _, _, rfl, MOut.base (B' := w.heap.size + 2) (by (repeat (with_reducible refine MOut.set ?_ (by omega) _ _)); with_reducible exact HMO.out) (by omega), (by (repeat (with_reducible refine Below.setCell ?_ (by simp) _)); with_reducible exact HB.out)⟩
 | true =>
  have hr := inB_iff.1 hb;obtain ⟨dn, hdn⟩ : ∃ dn, decS n = dn := ⟨_, rfl⟩;have hE : setM m key n = layM m key dn := by unfold setM numText; rw [hb, hdn]; rfl
  rw [hE];have hs := numText_size n;rw [show numText n = dn by unfold numText; rw [hb, hdn]; rfl] at hs;have KD := hid9 (fun W => specDecimal_c n W (by omega) (by omega));rw [hdn] at KD;have KLY := hid9 (fun W (hS : SH w w.heap.size (w.heap.size + 2) (.slice a1 m.st.length c1) (.slice a2 m.rs.length c2) (.slice a3 m.ws.length c3) m (.slice a1 m.st.length c1) (.slice a2 m.rs.length c2) (.slice a3 m.ws.length c3) m W) => (sLay_c (.slice a1 m.st.length c1) (.slice a2 m.rs.length c2) (.slice a3 m.ws.length c3) m key dn W (hS.mo.rd HR.out hS.bel) HOK.out HK.out (Nat.le_trans hs (by decide))).mono fun e w' hx => hx.op (hS.mo.rd HR.out hS.bel));clear hE h hdn hs;have cr0 : ∀ W, SH w w.heap.size (w.heap.size + 2) (.slice a1 m.st.length c1) (.slice a2 m.rs.length c2) (.slice a3 m.ws.length c3) m (.slice a1 m.st.length c1) (.slice a2 m.rs.length c2) (.slice a3 m.ws.length c3) m W → W.cell? ⟨w.heap.size, 0, none⟩ = some (.slice a1 m.st.length c1) := fun W h => h.x.cell 0 _ rfl;have cr1 : ∀ W, SH w w.heap.size (w.heap.size + 2) (.slice a1 m.st.length c1) (.slice a2 m.rs.length c2) (.slice a3 m.ws.length c3) m (.slice a1 m.st.length c1) (.slice a2 m.rs.length c2) (.slice a3 m.ws.length c3) m W → W.cell? ⟨w.heap.size, 1, none⟩ = some (.slice a2 m.rs.length c2) := fun W h => h.x.cell 1 _ rfl;have cr2 : ∀ W, SH w w.heap.size (w.heap.size + 2) (.slice a1 m.st.length c1) (.slice a2 m.rs.length c2) (.slice a3 m.ws.length c3) m (.slice a1 m.st.length c1) (.slice a2 m.rs.length c2) (.slice a3 m.ws.length c3) m W → W.cell? ⟨w.heap.size, 2, none⟩ = some (.slice a3 m.ws.length c3) := fun W h => h.x.cell 2 _ rfl;have SX : SH w w.heap.size (w.heap.size + 2) (.slice a1 m.st.length c1) (.slice a2 m.rs.length c2) (.slice a3 m.ws.length c3) m (.slice a1 m.st.length c1) (.slice a2 m.rs.length c2) (.slice a3 m.ws.length c3) m ((w.alloc (.cells #[.slice a1 m.st.length c1, .slice a2 m.rs.length c2, .slice a3 m.ws.length c3] 87)).alloc (.cells #[.slice none 0 0, .slice none 0 0, .slice none 0 0] 87)) := HS0.out;go_enter func149, ntmps149;go_wp2_with (first | (go_at_call 70; refine (l01In_c _ _ _ _).mono ?_; rintro e w' ⟨rfl, rfl⟩) | fail);go_wp2_with fail;go_region_held3 (fun w' => SH w w.heap.size (w.heap.size + 2) (.slice a1 m.st.length c1) (.slice a2 m.rs.length c2) (.slice a3 m.ws.length c3) m (.slice a1 m.st.length c1) (.slice a2 m.rs.length c2) (.slice a3 m.ws.length c3) m w') (first | with_reducible assumption | with_reducible exact SH.below (by with_reducible assumption) (by with_reducible assumption) | ((repeat (first | with_reducible refine SH.drew ?_ | with_reducible refine SH.set ?_ (by omega) (by omega) (by omega) _ _)); with_reducible assumption)) (first | (go_at_call 199; refine (KD.out _).mono ?_; rintro e w7 ⟨rfl, hbk⟩; have BR1 := Box.below (Box.drew P0.out) hbk) | (go_at_call 177; refine (KLY.out _ (by with_reducible assumption)).mono ?_; rintro e w8 ⟨y1, q1, y2, q2, y3, q3, rfl, hmo8, hbk8⟩; have BR := Box.below BR1 hbk8; have pc0 := BR.cell 0 _ rfl; have pf0 := BR.free 0; have pc1 := BR.cell 1 _ rfl; have pf1 := BR.free 1; have pc2 := BR.cell 2 _ rfl; have pf2 := BR.free 2; have HMO := MOut.base hmo8 (B := w.heap.size + 2) (by have := BR1.1; omega)));go_wp2
  exact bodyPost_ret (v := .agg #[.slice y1 (layM m key dn).st.length q1, .slice y2 (layM m key dn).rs.length q2, .slice y3 (layM m key dn).ws.length q3]) (by simp [results, results149, go_sem, *]) rfl ⟨_, _, _, rfl, ((show SH w w.heap.size (w.heap.size + 2) (.slice a1 m.st.length c1) (.slice a2 m.rs.length c2) (.slice a3 m.ws.length c3) m (.slice a1 m.st.length c1) (.slice a2 m.rs.length c2) (.slice a3 m.ws.length c3) m _ from by with_reducible assumption).mo.trans (by (repeat (with_reducible refine MOut.set ?_ (by omega) _ _)); with_reducible exact HMO) (Nat.le_refl _)).base (by omega), (show SH w w.heap.size (w.heap.size + 2) (.slice a1 m.st.length c1) (.slice a2 m.rs.length c2) (.slice a3 m.ws.length c3) m (.slice a1 m.st.length c1) (.slice a2 m.rs.length c2) (.slice a3 m.ws.length c3) m _ from by with_reducible assumption).bel⟩
set_option maxRecDepth 100000 in
theorem sBumped_c (v1 v2 v3 : Value) (m : Mch) (key : ByteArray) (w : World) (h : MRd w v1 v2 v3 m) (ho : MOk 1900000000000 m) (hk : key.size ≤ maxLen) :
 Calls prog 148 #[.agg #[v1, v2, v3], .string key] w (SRet v1 v2 v3 m (bumpM m key) (.int .i64 (bumpN m key)) w) := by
 have hnb := numOf_bounds (getKeyS m.st key);have HBM := hid9 (show bumpM m key = if 999 < numOfV (getKeyS m.st key) + 1 then lookM m key else setM (lookM m key) key (numOfV (getKeyS m.st key) + 1) from rfl);have HBN := hid9 (show bumpN m key = if 999 < numOfV (getKeyS m.st key) + 1 then 0 else numOfV (getKeyS m.st key) + 1 from rfl);generalize bumpM m key = bm at *;generalize bumpN m key = bn at *;have HK := hid9 hk;clear hk;obtain ⟨a1, c1, hv1, R1, l1, L1⟩ := h.r1;obtain ⟨a2, c2, hv2, R2, l2, L2⟩ := h.r2;obtain ⟨a3, c3, hv3, R3, l3, L3⟩ := h.r3;subst hv1 hv2 hv3;have HR := hid9 h;have HR1 := hid9 R1;have HR2 := hid9 R2;have HR3 := hid9 R3;have B0 := hid9 ((Box.new w [.slice a1 m.st.length c1, .slice a2 m.rs.length c2, .slice a3 m.ws.length c3] 87).alloc (.cells #[.slice none 0 0, .slice none 0 0, .slice none 0 0] 87));have P0 := hid9 (show Box ((w.alloc (.cells #[.slice a1 m.st.length c1, .slice a2 m.rs.length c2, .slice a3 m.ws.length c3] 87)).alloc (.cells #[.slice none 0 0, .slice none 0 0, .slice none 0 0] 87)) (w.heap.size + 1) [.slice none 0 0, .slice none 0 0, .slice none 0 0] from by
  have h := Box.new (w.alloc (.cells #[.slice a1 m.st.length c1, .slice a2 m.rs.length c2, .slice a3 m.ws.length c3] 87)) [.slice none 0 0, .slice none 0 0, .slice none 0 0] 87;rw [show (w.alloc (.cells #[.slice a1 m.st.length c1, .slice a2 m.rs.length c2, .slice a3 m.ws.length c3] 87)).heap.size = w.heap.size + 1 by simp] at h;exact h)
 have hsz : (((w.alloc (.cells #[.slice a1 m.st.length c1, .slice a2 m.rs.length c2, .slice a3 m.ws.length c3] 87)).alloc (.cells #[.slice none 0 0, .slice none 0 0, .slice none 0 0] 87))).heap.size = w.heap.size + 2 := by simp
 have HS0 := hid9 (show SH w w.heap.size (w.heap.size + 2) (.slice a1 m.st.length c1) (.slice a2 m.rs.length c2) (.slice a3 m.ws.length c3) m (.slice a1 m.st.length c1) (.slice a2 m.rs.length c2) (.slice a3 m.ws.length c3) m ((w.alloc (.cells #[.slice a1 m.st.length c1, .slice a2 m.rs.length c2, .slice a3 m.ws.length c3] 87)).alloc (.cells #[.slice none 0 0, .slice none 0 0, .slice none 0 0] 87)) from ⟨B0.out, bel9, MOut.refl⟩);have KL := hid9 (sLook_c (.slice a1 m.st.length c1) (.slice a2 m.rs.length c2) (.slice a3 m.ws.length c3) m key ((w.alloc (.cells #[.slice a1 m.st.length c1, .slice a2 m.rs.length c2, .slice a3 m.ws.length c3] 87)).alloc (.cells #[.slice none 0 0, .slice none 0 0, .slice none 0 0] 87)) (HR.out.below bel9) (ho.mono (by omega)));have HOK := hid9 (ho.look key);have hgs := get_sz ho.sz key;generalize getKeyS m.st key = s at *;clear h R1 R2 R3 ho;go_enter func148, ntmps148;go_wp2_with fail;refine KL.out.mono ?_;rintro e w1 ⟨u1, u2, u3, rfl, hmo, hb1⟩;rw [hsz] at hmo;have hrd := hmo.rd (HR.out.below (show Below w.heap.size w ((w.alloc (.cells #[.slice a1 m.st.length c1, .slice a2 m.rs.length c2, .slice a3 m.ws.length c3] 87)).alloc (.cells #[.slice none 0 0, .slice none 0 0, .slice none 0 0] 87)) from bel9)) hb1;obtain ⟨x1, k1, hx1, _, _, _⟩ := hrd.r1;obtain ⟨x2, k2, hx2, _, _, _⟩ := hrd.r2;obtain ⟨x3, k3, hx3, _, _, _⟩ := hrd.r3;subst hx1 hx2 hx3;have S1 := HS0.out.below hb1;have HX := hid9 (S1.put3 (Nat.le_refl _) (by omega) (Nat.le_refl _) hmo);have HPX := hid9 (box_far (box_far (box_far (P0.out.below hb1) (show w.heap.size + 1 ≠ w.heap.size by omega) 0 (.slice x1 (lookM m key).st.length k1)) (show w.heap.size + 1 ≠ w.heap.size by omega) 1 (.slice x2 (lookM m key).rs.length k2)) (show w.heap.size + 1 ≠ w.heap.size by omega) 2 (.slice x3 (lookM m key).ws.length k3));have e0 := S1.x.cell 0 _ rfl;have e1 := S1.x.cell 1 _ rfl;have e2 := S1.x.cell 2 _ rfl;have z0 := S1.x.free 0;have z1 := S1.x.free 1;have z2 := S1.x.free 2;clear hmo hb1 hrd S1 KL HS0 B0 P0;have KN := hid9 (fun W => specNumOf_c s W);generalize numOfV s = n at *;have hw : IntKind.i64.wrap (n + 1) = n + 1 := by rw [IntKind.wrap_i64]; omega
 go_wp2_with fail;refine (KN.out _).mono ?_;rintro e w2 ⟨rfl, hb2⟩;have S2 := HX.out.below hb2;have P2 := HPX.out.below hb2;have HP2 := hid9 P2;have HS2 := hid9 S2;clear e0 e1 e2 z0 z1 z2 hb2 HX HPX KN;by_cases hp : 999 < n + 1
 ·have e1 : bm = lookM m key := HBM.out.trans (if_pos hp);have e2 : bn = 0 := HBN.out.trans (if_pos hp);subst e1 e2;have d0 := S2.x.cell 0 _ rfl;have d1 := S2.x.cell 1 _ rfl;have d2 := S2.x.cell 2 _ rfl;have pc0 := P2.cell 0 _ rfl;have pf0 := P2.free 0;have pc1 := P2.cell 1 _ rfl;have pf1 := P2.free 1;have pc2 := P2.cell 2 _ rfl;have pf2 := P2.free 2;clear S2 P2 HBM HBN;go_wp2;exact bodyPost_ret (v := .tuple #[.agg #[.slice x1 (lookM m key).st.length k1, .slice x2 (lookM m key).rs.length k2, .slice x3 (lookM m key).ws.length k3], .int .i64 0]) (by simp [results, results148, go_sem, *]) rfl ⟨_, _, _, rfl, MOut.base (B' := w.heap.size + 2) (by (repeat (with_reducible refine MOut.set ?_ (by omega) _ _)); with_reducible exact HS2.out.mo) (by omega), (by (repeat (with_reducible refine Below.setCell ?_ (by simp) _)); with_reducible exact HS2.out.bel)⟩
 ·obtain ⟨dn, hdn⟩ : ∃ dn, decS (n + 1) = dn := ⟨_, rfl⟩;have hin : inB (n + 1) 1 999 = true := inB_iff.2 ⟨by omega, by omega⟩;have hs := numText_size (n + 1);have hnt : numText (n + 1) = dn := by unfold numText; rw [hin, hdn]; rfl
  rw [hnt] at hs;have e1 : bm = layM (lookM m key) key dn := (HBM.out.trans (if_neg hp)).trans (by unfold setM; rw [hnt]);have e2 : bn = n + 1 := HBN.out.trans (if_neg hp);subst e1 e2;have KD := hid9 (fun W => specDecimal_c (n + 1) W (by omega) (by omega));rw [hdn] at KD;have KLY := hid9 (fun W (hS : SH w w.heap.size (w.heap.size + 2) (.slice a1 m.st.length c1) (.slice a2 m.rs.length c2) (.slice a3 m.ws.length c3) m (.slice x1 (lookM m key).st.length k1) (.slice x2 (lookM m key).rs.length k2) (.slice x3 (lookM m key).ws.length k3) (lookM m key) W) => (sLay_c (.slice x1 (lookM m key).st.length k1) (.slice x2 (lookM m key).rs.length k2) (.slice x3 (lookM m key).ws.length k3) (lookM m key) key dn W (hS.mo.rd HR.out hS.bel) (HOK.out.mono (by omega)) HK.out (Nat.le_trans hs (by decide))).mono fun e w' hx => hx.op (hS.mo.rd HR.out hS.bel));clear hdn hin hs hnt HBM HBN P2;have cr0 : ∀ W, SH w w.heap.size (w.heap.size + 2) (.slice a1 m.st.length c1) (.slice a2 m.rs.length c2) (.slice a3 m.ws.length c3) m (.slice x1 (lookM m key).st.length k1) (.slice x2 (lookM m key).rs.length k2) (.slice x3 (lookM m key).ws.length k3) (lookM m key) W → W.cell? ⟨w.heap.size, 0, none⟩ = some (.slice x1 (lookM m key).st.length k1) := fun W h => h.x.cell 0 _ rfl;have cr1 : ∀ W, SH w w.heap.size (w.heap.size + 2) (.slice a1 m.st.length c1) (.slice a2 m.rs.length c2) (.slice a3 m.ws.length c3) m (.slice x1 (lookM m key).st.length k1) (.slice x2 (lookM m key).rs.length k2) (.slice x3 (lookM m key).ws.length k3) (lookM m key) W → W.cell? ⟨w.heap.size, 1, none⟩ = some (.slice x2 (lookM m key).rs.length k2) := fun W h => h.x.cell 1 _ rfl;have cr2 : ∀ W, SH w w.heap.size (w.heap.size + 2) (.slice a1 m.st.length c1) (.slice a2 m.rs.length c2) (.slice a3 m.ws.length c3) m (.slice x1 (lookM m key).st.length k1) (.slice x2 (lookM m key).rs.length k2) (.slice x3 (lookM m key).ws.length k3) (lookM m key) W → W.cell? ⟨w.heap.size, 2, none⟩ = some (.slice x3 (lookM m key).ws.length k3) := fun W h => h.x.cell 2 _ rfl;go_wp2_with fail;go_region_held3 (fun w' => SH w w.heap.size (w.heap.size + 2) (.slice a1 m.st.length c1) (.slice a2 m.rs.length c2) (.slice a3 m.ws.length c3) m (.slice x1 (lookM m key).st.length k1) (.slice x2 (lookM m key).rs.length k2) (.slice x3 (lookM m key).ws.length k3) (lookM m key) w') (first | with_reducible assumption | with_reducible exact SH.below (by with_reducible assumption) (by with_reducible assumption) | ((repeat (first | with_reducible refine SH.drew ?_ | with_reducible refine SH.set ?_ (by omega) (by omega) (by omega) _ _)); with_reducible assumption)) (first | (go_at_call 199; refine (KD.out _).mono ?_; rintro e w7 ⟨rfl, hbk⟩; have BR1 := Box.below (Box.drew HP2.out) hbk) | (go_at_call 177; refine (KLY.out _ (by with_reducible assumption)).mono ?_; rintro e w8 ⟨y1, q1, y2, q2, y3, q3, rfl, hmo8, hbk8⟩; have BR := Box.below BR1 hbk8; have pc0 := BR.cell 0 _ rfl; have pf0 := BR.free 0; have pc1 := BR.cell 1 _ rfl; have pf1 := BR.free 1; have pc2 := BR.cell 2 _ rfl; have pf2 := BR.free 2; have HMO := MOut.base hmo8 (B := w.heap.size + 2) (by have := BR1.1; omega)));go_wp2
  exact bodyPost_ret (v := .tuple #[.agg #[.slice y1 (layM (lookM m key) key dn).st.length q1, .slice y2 (layM (lookM m key) key dn).rs.length q2, .slice y3 (layM (lookM m key) key dn).ws.length q3], .int .i64 (n + 1)]) (by simp [results, results148, go_sem, *]) rfl ⟨_, _, _, rfl, ((show SH w w.heap.size (w.heap.size + 2) (.slice a1 m.st.length c1) (.slice a2 m.rs.length c2) (.slice a3 m.ws.length c3) m (.slice x1 (lookM m key).st.length k1) (.slice x2 (lookM m key).rs.length k2) (.slice x3 (lookM m key).ws.length k3) (lookM m key) _ from by with_reducible assumption).mo.trans (by (repeat (with_reducible refine MOut.set ?_ (by omega) _ _)); with_reducible exact HMO) (Nat.le_refl _)).base (by omega), (show SH w w.heap.size (w.heap.size + 2) (.slice a1 m.st.length c1) (.slice a2 m.rs.length c2) (.slice a3 m.ws.length c3) m (.slice x1 (lookM m key).st.length k1) (.slice x2 (lookM m key).rs.length k2) (.slice x3 (lookM m key).ws.length k3) (lookM m key) _ from by with_reducible assumption).bel⟩
end
section
open Go.RowKit
attribute [local go_sem ↓] Go.wp_at_zero Go.wp_at_succ
def keysU (xs : List (ByteArray × ByteArray)) (p : ByteArray) : List ByteArray := (xs.filter (fun c => beginsB c.1 p)).map (·.1)
theorem keysU_len (xs : List (ByteArray × ByteArray)) (p : ByteArray) : (keysU xs p).length ≤ xs.length := by
 unfold keysU; rw [List.length_map]; exact List.length_filter_le _ _
theorem keysU_hit {xs : List (ByteArray × ByteArray)} {p : ByteArray} {k : Nat} {x : ByteArray × ByteArray} (hx : xs[k]? = some x) (h : beginsB x.1 p = true) : keysU (xs.take (k + 1)) p = keysU (xs.take k) p ++ [x.1] := by
 unfold keysU; rw [take_snoc_of hx, List.filter_append]; simp [h]
theorem keysU_miss {xs : List (ByteArray × ByteArray)} {p : ByteArray} {k : Nat} {x : ByteArray × ByteArray} (hx : xs[k]? = some x) (h : beginsB x.1 p = false) : keysU (xs.take (k + 1)) p = keysU (xs.take k) p := by
 unfold keysU; rw [take_snoc_of hx, List.filter_append]; simp [h]
theorem keysU_own {w' : World} {base T : Nat} {v' : Value} {xs : List (ByteArray × ByteArray)} {p x0 : ByteArray} {k : Nat} (hs : keysU (xs.take (k + 1)) p = keysU (xs.take k) p ++ [x0])
 (h : w'.ownsRow base T 1 v' ((keysU (xs.take k) p).length + 1) ((keysU (xs.take k) p).flatMap encS ++ [.string x0])) : w'.ownsRow base T 1 v' (keysU (xs.take (k + 1)) p).length ((keysU (xs.take (k + 1)) p).flatMap encS) := by
 rw [hs, List.length_append, List.flatMap_append];exact h
set_option maxRecDepth 100000 in
theorem specKeysUnder_c (a : Option Addr) (cap : Nat) (xs : List (ByteArray × ByteArray)) (p : ByteArray) (w : World) (hlen : xs.length ≤ 2100000000000) (hr : Reads w a 2 encC xs) (ho : ∀ x ∈ xs, x.1.size ≤ maxLen ∧ x.2.size ≤ maxLen) (hp : p.size ≤ maxLen) :
 Calls prog 221 #[.slice a xs.length cap, .string p] w (Fresh 9 1 ((keysU xs p).flatMap encS) (keysU xs p).length w) := by
 obtain ⟨i0, hi, hzz⟩ := Option.map_eq_some_iff.1 infoString;simp only [Prod.mk.injEq] at hzz;have HI := hid9 hi;have HZ := hid9 hzz;have HR := hid9 hr;have HO := hid9 ho;have HP := hid9 hp;clear hr ho hp hi hzz;go_enter func221, ntmps221;go_wp2;go_loopw [5, 6] (fun v i wr => ∃ k : Nat, k ≤ xs.length ∧ i = .int .i64 k ∧ Hid (wr.ownsRow w.heap.size 9 1 v (keysU (xs.take k) p).length ((keysU (xs.take k) p).flatMap encS)) ∧ Below w.heap.size w wr) (fun _ i _ => xs.length - (intOf i).toNat)
 case atStart =>
  refine ⟨0, Nat.zero_le _, rfl, ?_, bel9⟩;simp only [List.take_zero, show keysU [] p = [] from rfl, List.length_nil, List.flatMap_nil];exact hid9 ⟨rfl, .inr ⟨w.heap.size, 0, #[], rfl, Nat.le_refl _, heap_alloc_new w _, Nat.le_refl _, Nat.zero_le _, rfl, rfl⟩⟩
 case round =>
  obtain ⟨k, hk, rfl, HW, hb⟩ := hrel;by_cases hlt : k < xs.length
  ·obtain ⟨x, hx⟩ := some_of_lt hlt;obtain ⟨b, off, hab, c0, c1⟩ := readFC HR.out hb hx;subst hab;have p1 : (0 : Int) ≤ (k : Int) := by omega
   have p2 : (k : Int) < (xs.length : Int) := by omega
   have HX1 := hid9 (HO.out x (List.mem_of_getElem? hx)).1;have HX := hid9 hx;clear hx;obtain ⟨x0, x1⟩ := x;dsimp only at c0 c1 HX1;have HC := hid9 (fun W => begins_c x0 p W HX1.out HP.out);cases hq : beginsB x0 p with
   | false =>
    have hs := hid9 (keysU_miss (p := p) HX.out hq);rw [hq] at HC;clear hq;go_wp2_with fail;refine (HC.out _).mono ?_;rintro e w' ⟨rfl, rfl⟩;go_wp2;go_roundw
    case rel => exact ⟨k + 1, by omega, by go_num, by rw [hs.out]; exact HW, bel9⟩
    case measure => simp [intOf]; omega
   | true =>
    have hs := hid9 (keysU_hit (p := p) HX.out hq);rw [hq] at HC;clear hq;have hkl := hid9 (Nat.le_trans (keysU_len (xs.take k) p) (List.length_take_le _ _));go_wp2_with fail;refine (HC.out _).mono ?_;rintro e w' ⟨rfl, rfl⟩;go_wp2_with (at_builtin; refine wpList_append_own _ rfl _ _ 29 rfl w.heap.size 9 i0 (.string ⟨#[]⟩) 1 16 underlying29 HI.out HZ.out.1 HZ.out.2.1 HZ.out.2.2 rfl (by decide) _ _ _ rfl (HW.out.alloc _) ⟨wr.heap.size, 0, none⟩ 1 1 [.string x0] rfl rfl ?c1 ?c2 ?c3 ?c4 ?c5 ?_)
    case c1 =>
     intro j u hj
     match j, hj with
     | 0, hj => simp at hj; subst hj; simp [Addr.add]
    case c2 => intro u hu; simp at hu; subst hu; rfl
    case c3 => have := hkl.out; unfold maxLen; omega
    case c4 => have := hkl.out; omega
    case c5 => have := hb.size; simp; omega
    intro v' w' hown' hgrow _;have HW2 := hid9 (keysU_own hs.out hown');have HB2 := hid9 (below_of_own (show Below w.heap.size w _ from bel9) (HW.out.alloc _) hgrow);clear hown' hgrow HW;go_wp2;go_roundw
    case rel => exact ⟨k + 1, by omega, by go_num, HW2, HB2.out⟩
    case measure => simp [intOf]; omega
  ·obtain rfl : k = xs.length := by omega
   rw [List.take_of_length_le (Nat.le_refl _)] at HW;have p2 : ¬ (xs.length : Int) < (xs.length : Int) := by omega
   go_wp2;go_ret;exact ⟨_, rfl, HW.out, hb⟩
set_option maxRecDepth 100000 in
theorem implKeysUnder_c (a : Option Addr) (cap : Nat) (xs : List (ByteArray × ByteArray)) (p : ByteArray) (w : World) (hlen : xs.length ≤ 2100000000000) (hr : Reads w a 2 encC xs) (ho : ∀ x ∈ xs, x.1.size ≤ maxLen ∧ x.2.size ≤ maxLen) (hp : p.size ≤ maxLen) :
 Calls prog 203 #[.slice a xs.length cap, .string p] w (Fresh 9 1 ((keysU xs p).flatMap encS) (keysU xs p).length w) := by
 obtain ⟨i0, hi, hzz⟩ := Option.map_eq_some_iff.1 infoString;simp only [Prod.mk.injEq] at hzz;have HI := hid9 hi;have HZ := hid9 hzz;have HR := hid9 hr;have HO := hid9 ho;have HP := hid9 hp;clear hr ho hp hi hzz;go_enter func203, ntmps203;go_wp2;go_loopw [5, 10] (fun v i wr => ∃ k : Nat, k ≤ xs.length ∧ i = .int .i64 k ∧ Hid (wr.ownsRow w.heap.size 9 1 v (keysU (xs.take k) p).length ((keysU (xs.take k) p).flatMap encS)) ∧ Below w.heap.size w wr) (fun _ i _ => xs.length - (intOf i).toNat)
 case atStart =>
  refine ⟨0, Nat.zero_le _, rfl, ?_, bel9⟩;simp only [List.take_zero, show keysU [] p = [] from rfl, List.length_nil, List.flatMap_nil];exact hid9 (World.ownsRow_nil _ _ _ _)
 case round =>
  obtain ⟨k, hk, rfl, HW, hb⟩ := hrel;by_cases hlt : k < xs.length
  ·obtain ⟨x, hx⟩ := some_of_lt hlt;obtain ⟨b, off, hab, c0, c1⟩ := readFC HR.out hb hx;subst hab;have p1 : (0 : Int) ≤ (k : Int) := by omega
   have p2 : (k : Int) < (xs.length : Int) := by omega
   have HX1 := hid9 (HO.out x (List.mem_of_getElem? hx)).1;have HX := hid9 hx;clear hx;obtain ⟨x0, x1⟩ := x;dsimp only at c0 c1 HX1;have HC := hid9 (fun W => hasPrefix_c x0 p W HX1.out HP.out);cases hq : beginsB x0 p with
   | false =>
    have hs := hid9 (keysU_miss (p := p) HX.out hq);rw [hq] at HC;clear hq;go_wp2_with fail;refine (HC.out _).mono ?_;rintro e w' ⟨rfl, rfl⟩;go_wp2;go_roundw
    case rel => exact ⟨k + 1, by omega, by go_num, by rw [hs.out]; exact hid9 (HW.out.alloc _), bel9⟩
    case measure => simp [intOf]; omega
   | true =>
    have hs := hid9 (keysU_hit (p := p) HX.out hq);rw [hq] at HC;clear hq;have hkl := hid9 (Nat.le_trans (keysU_len (xs.take k) p) (List.length_take_le _ _));go_wp2_with fail;refine (HC.out _).mono ?_;rintro e w' ⟨rfl, rfl⟩;go_wp2_with (at_builtin; refine wpList_append_own _ rfl _ _ 29 rfl w.heap.size 9 i0 (.string ⟨#[]⟩) 1 16 underlying29 HI.out HZ.out.1 HZ.out.2.1 HZ.out.2.2 rfl (by decide) _ _ _ rfl ((HW.out.alloc _).alloc _) ⟨wr.heap.size + 1, 0, none⟩ 1 1 [.string x0] rfl rfl ?c1 ?c2 ?c3 ?c4 ?c5 ?_)
    case c1 =>
     intro j u hj
     match j, hj with
     | 0, hj => simp at hj; subst hj; simp [Addr.add]
    case c2 => intro u hu; simp at hu; subst hu; rfl
    case c3 => have := hkl.out; unfold maxLen; omega
    case c4 => have := hkl.out; omega
    case c5 => have := hb.size; simp; omega
    intro v' w' hown' hgrow _;have HW2 := hid9 (keysU_own hs.out hown');have HB2 := hid9 (below_of_own (show Below w.heap.size w _ from bel9) ((HW.out.alloc _).alloc _) hgrow);clear hown' hgrow HW;go_wp2;go_roundw
    case rel => exact ⟨k + 1, by omega, by go_num, HW2, HB2.out⟩
    case measure => simp [intOf]; omega
  ·obtain rfl : k = xs.length := by omega
   rw [List.take_of_length_le (Nat.le_refl _)] at HW;have p2 : ¬ (xs.length : Int) < (xs.length : Int) := by omega
   go_wp2;go_ret;exact ⟨_, rfl, HW.out, hb⟩
end
section
open Go.RowKit
attribute [local go_sem ↓] Go.wp_at_zero Go.wp_at_succ
open Classical in
noncomputable def unhexOk (s : ByteArray) : Bool := decide ((Lib.Hx.decode s.data.toList).1.length ≤ 20000 ∧ Lib.Hx.encode (Lib.Hx.decode s.data.toList).1 = s.data.toList)
noncomputable def unhexV (s : ByteArray) : ByteArray := if unhexOk s = true then ⟨(Lib.Hx.decode s.data.toList).1.toArray⟩ else ByteArray.empty
theorem unhex_yes {s : ByteArray} {r : List UInt8} (h : Lib.Hx.encode r = s.data.toList) (hl : r.length ≤ 20000) : unhexOk s = true ∧ unhexV s = ⟨r.toArray⟩ := by
 have hd : Lib.Hx.decode s.data.toList = (r, .ok) := by rw [← h]; exact Lib.Hx.decode_encode r
 have ho : unhexOk s = true := by unfold unhexOk; rw [hd]; simp [hl, h]
 exact ⟨ho, by unfold unhexV; rw [if_pos ho, hd]⟩
theorem unhex_no {s : ByteArray} (h : ∀ r : List UInt8, r.length ≤ 20000 → Lib.Hx.encode r ≠ s.data.toList) : unhexOk s = false ∧ unhexV s = ByteArray.empty := by
 have ho : unhexOk s = false := by
  rw [← Bool.not_eq_true];intro e;unfold unhexOk at e;have := of_decide_eq_true e;exact h _ this.1 this.2
 exact ⟨ho, by unfold unhexV; rw [ho]; rfl⟩
theorem unhex_ok {s : ByteArray} (h : unhexOk s = true) : ∃ r : List UInt8, r.length ≤ 20000 ∧ Lib.Hx.encode r = s.data.toList ∧ unhexV s = ⟨r.toArray⟩ := by
 have e := h;unfold unhexOk at e;have := of_decide_eq_true e;exact ⟨_, this.1, this.2, by unfold unhexV; rw [if_pos h]⟩
theorem unhexV_size (s : ByteArray) : (unhexV s).size ≤ s.size := by
 cases h : unhexOk s with
 | false => unfold unhexV; rw [h]; exact Nat.zero_le _
 | true =>
  obtain ⟨r, _, h2, h3⟩ := unhex_ok h;rw [h3];have := congrArg List.length h2;rw [Lib.Hx.encode_length] at this;show r.toArray.size ≤ _;simp at this ⊢;omega
def lowV (b : UInt8) : Int := if 48 ≤ b.toNat ∧ b.toNat ≤ 57 then (b.toNat : Int) - 48 else if 97 ≤ b.toNat ∧ b.toNat ≤ 102 then (b.toNat : Int) - 87 else -1
theorem lowV_digit (d : Nat) (h : d < 16) : lowV (Lib.Hx.digit d) = d := by
 by_cases h1 : d < 10
 ·have := digit_lo h1;unfold lowV;rw [if_pos (by omega)]; omega
 ·have := digit_hi (Nat.not_lt.1 h1) h;unfold lowV;rw [if_neg (by omega), if_pos (by omega)]; omega
theorem digit_lowV {b : UInt8} (h : 0 ≤ lowV b) : ∃ d : Nat, d < 16 ∧ lowV b = d ∧ Lib.Hx.digit d = b := by
 unfold lowV at h ⊢;split
 ·refine ⟨b.toNat - 48, by omega, by omega, UInt8.toNat_inj.1 ?_⟩;have := digit_lo (d := b.toNat - 48) (by omega);omega
 ·split
  ·refine ⟨b.toNat - 87, by omega, by omega, UInt8.toNat_inj.1 ?_⟩;have := digit_hi (d := b.toNat - 87) (by omega) (by omega);omega
  ·rename_i h1 h2;rw [if_neg h1, if_neg h2] at h;omega
theorem value_c (b : UInt8) (w : World) : Calls prog 220 #[.int .u8 (b.toNat : Int)] w fun e w' => e = .returned (.int .i64 (lowV b)) ∧ w = w' := by
 have hlt := b.toNat_lt;have q0 : (0 : Int) ≤ (b.toNat : Int) := by omega
 have q1 : (b.toNat : Int) ≤ 255 := by omega
 by_cases h1 : (48 : Int) ≤ (b.toNat : Int)
 ·by_cases h2 : (b.toNat : Int) ≤ 57
  ·have HL := hid9 (show lowV b = (b.toNat : Int) - 48 by unfold lowV; rw [if_pos (by omega)]);go_enter func220, ntmps220;go_wp2;go_ret;exact ⟨by rw [HL.out]; rfl, rfl⟩
  ·by_cases h3 : (97 : Int) ≤ (b.toNat : Int)
   ·by_cases h4 : (b.toNat : Int) ≤ 102
    ·have HL := hid9 (show lowV b = (b.toNat : Int) - 97 + 10 by unfold lowV; rw [if_neg (by omega), if_pos (by omega)]; omega);go_enter func220, ntmps220;go_wp2;go_ret;exact ⟨by rw [HL.out]; rfl, rfl⟩
    ·have HL := hid9 (show lowV b = -1 by unfold lowV; rw [if_neg (by omega), if_neg (by omega)]);go_enter func220, ntmps220;go_wp2;go_ret;exact ⟨by rw [HL.out]; rfl, rfl⟩
   ·have HL := hid9 (show lowV b = -1 by unfold lowV; rw [if_neg (by omega), if_neg (by omega)]);go_enter func220, ntmps220;go_wp2;go_ret;exact ⟨by rw [HL.out]; rfl, rfl⟩
 ·have HL := hid9 (show lowV b = -1 by unfold lowV; rw [if_neg (by omega), if_neg (by omega)]);go_enter func220, ntmps220;go_wp2;go_ret;exact ⟨by rw [HL.out]; rfl, rfl⟩
theorem value_e (b : UInt8) (x : Int) (w : World) (hx : lowV b = x) : Calls prog 220 #[.int .u8 (b.toNat : Int)] w fun e w' => e = .returned (.int .i64 x) ∧ w = w' := by
 rw [← hx]; exact value_c b w
theorem pair_not {l : List UInt8} {k : Nat} {p q : UInt8} (hp : l[2 * k]? = some p) (hq : l[2 * k + 1]? = some q) (h : lowV p < 0 ∨ lowV q < 0) (r : List UInt8) : Lib.Hx.encode r ≠ l := by
 intro e;subst e;have hl := (List.getElem?_eq_some_iff.1 hp).1;rw [Lib.Hx.encode_length] at hl;have hb : r[k]? = some r[k] := List.getElem?_eq_getElem (by omega);obtain ⟨e1, e2⟩ := Lib.Hx.encode_at r k _ hb;rw [hp] at e1;rw [hq] at e2;cases e1;cases e2;have hlt := r[k].toNat_lt;rw [lowV_digit _ (by omega), lowV_digit _ (by omega)] at h;omega
theorem pair_step {l r : List UInt8} {k a b : Nat} {p q : UInt8} (hr : l.take (2 * k) = Lib.Hx.encode r) (hp : l[2 * k]? = some p) (hq : l[2 * k + 1]? = some q) (ha : a < 16) (hb : b < 16) (h1 : Lib.Hx.digit a = p) (h2 : Lib.Hx.digit b = q) :
 l.take (2 * (k + 1)) = Lib.Hx.encode (r ++ [UInt8.ofNat (16 * a + b)]) := by
 rw [show 2 * (k + 1) = 2 * k + 1 + 1 by omega, List.take_add_one, List.take_add_one, hq, hp, hr, encode_snoc];have e : (UInt8.ofNat (16 * a + b)).toNat = 16 * a + b := by rw [UInt8.toNat_ofNat', Nat.mod_eq_of_lt (by omega)]
 rw [e, show (16 * a + b) / 16 = a by omega, show (16 * a + b) % 16 = b by omega, h1, h2];simp
set_option maxRecDepth 100000 in
theorem specUnhex_c (s : ByteArray) (w : World) (hs : s.size ≤ maxLen) :
 Calls prog 188 #[.string s] w fun e w' => e = .returned (.tuple #[.string (unhexV s), .bool (unhexOk s)]) ∧ Below w.heap.size w w' := by
 unfold maxLen at hs;by_cases h : (40000 : Int) < (s.size : Int)
 ·have HV := hid9 (unhex_no (s := s) (fun r hr e => by
   have := congrArg List.length e;rw [Lib.Hx.encode_length] at this;simp at this;omega))
  go_enter func188, ntmps188;go_wp2;go_ret2;exact ⟨by rw [HV.out.1, HV.out.2]; rfl, bel9⟩
 ·by_cases ho : (s.size : Int) % 2 = 0
  ·obtain ⟨n, hn⟩ : ∃ n, s.size = 2 * n := ⟨s.size / 2, by omega⟩;have hd : ((s.size : Int) % 2 == 0) = true := by simp [ho]
   have hd2 : ((s.size : Int) % 2 != 0) = false := by simp [ho]
   obtain ⟨i0, hi, hzz⟩ := Option.map_eq_some_iff.1 infoByte;simp only [Prod.mk.injEq] at hzz;have HI := hid9 hi;have HZ := hid9 hzz;have HN := hid9 hn;have hn1 : n ≤ 20000 := by omega
   clear hi hzz hn;go_enter func188, ntmps188;go_wp2;go_loopw [4, 5] (fun v i wr => ∃ (k m : Nat) (r : List UInt8), k ≤ n ∧ r.length = k ∧ i = .int .i64 m ∧ m = 2 * k ∧ Hid (s.data.toList.take m = Lib.Hx.encode r) ∧ Hid (wr.ownsRow w.heap.size 5 1 v k (r.flatMap encB)) ∧ Below w.heap.size w wr) (fun _ i _ => s.size - (intOf i).toNat)
   case atStart => exact ⟨0, 0, [], Nat.zero_le _, rfl, rfl, rfl, hid9 rfl, hid9 ⟨rfl, .inr ⟨w.heap.size, 0, #[], rfl, Nat.le_refl _, heap_alloc_new w _, Nat.le_refl _, Nat.zero_le _, rfl, rfl⟩⟩, bel9⟩
   case round =>
    obtain ⟨k, m, r, hk, hrl, rfl, hm, HT, HW, hb⟩ := hrel;have HM := hid9 hm;have HRL := hid9 hrl;have hsz := HN.out;by_cases hlt : k < n
    ·have p0 : (0 : Int) ≤ (m : Int) := by omega
     have p1 : (m : Int) < (s.size : Int) := by omega
     have p2 : (m : Int) + 1 < (s.size : Int) := by omega
     have p3 : m < s.size := by omega
     have p4 : m + 1 < s.size := by omega
     have hp : s.data.toList[2 * k]? = some s[m] := by rw [← hm, List.getElem?_eq_getElem (by simpa using p3)]; rfl
     have hq : s.data.toList[2 * k + 1]? = some s[m + 1] := by rw [← hm, List.getElem?_eq_getElem (by simpa using p4)]; rfl
     have HP := hid9 hp;have HQ := hid9 hq;have hmb : m ≤ 40000 := by omega
     have hkb : k ≤ 20000 := by omega
     have HC1 := hid9 (value_c s[m]);have HC2 := hid9 (value_c s[m + 1]);have HP3 := hid9 p3;have HP4 := hid9 p4;clear hp hq hsz hrl hm;by_cases hv1 : lowV s[m] < 0
     ·have HV := hid9 (unhex_no (s := s) (fun r _ => pair_not HP.out HQ.out (.inl hv1) r));generalize lowV s[m] = vp at *;generalize lowV s[m + 1] = vq at *;go_wp2_with fail;refine (HC1.out _).mono ?_;rintro e w1 ⟨rfl, rfl⟩;go_wp2_with fail;refine (HC2.out _).mono ?_;rintro e w1 ⟨rfl, rfl⟩;go_wp2;go_ret2;exact ⟨by rw [HV.out.1, HV.out.2]; rfl, hb⟩
     ·by_cases hv2 : lowV s[m + 1] < 0
      ·have HV := hid9 (unhex_no (s := s) (fun r _ => pair_not HP.out HQ.out (.inr hv2) r));generalize lowV s[m] = vp at *;generalize lowV s[m + 1] = vq at *;go_wp2_with fail;refine (HC1.out _).mono ?_;rintro e w1 ⟨rfl, rfl⟩;go_wp2_with fail;refine (HC2.out _).mono ?_;rintro e w1 ⟨rfl, rfl⟩;go_wp2;go_ret2;exact ⟨by rw [HV.out.1, HV.out.2]; rfl, hb⟩
      ·obtain ⟨a, ha, ea, da⟩ := digit_lowV (b := s[m]) (by omega);obtain ⟨b, hb2, eb, db⟩ := digit_lowV (b := s[m + 1]) (by omega);have HS := hid9 (pair_step (by rw [← HM.out]; exact HT.out) HP.out HQ.out ha hb2 da db);have HE := hid9 (show (encB (UInt8.ofNat (16 * a + b))) = [.int .u8 (16 * (a : Int) + (b : Int))] from by
        unfold encB; rw [UInt8.toNat_ofNat', Nat.mod_eq_of_lt (by omega)]; congr 2 <;> omega)
       have HC1 := hid9 (fun W => value_e s[m] (a : Int) W ea);have HC2 := hid9 (fun W => value_e s[m + 1] (b : Int) W eb);clear ea eb da db hv1 hv2 HP HQ;go_wp2_with fail;refine (HC1.out _).mono ?_;rintro e w1 ⟨rfl, rfl⟩;go_wp2_with fail;refine (HC2.out _).mono ?_;rintro e w1 ⟨rfl, rfl⟩;go_wp2_with (at_builtin; refine wpList_append_own2 _ rfl _ _ 22 rfl w.heap.size 5 i0 _ 1 1 underlying22 HI.out HZ.out.1 HZ.out.2.1 HZ.out.2.2 rfl (by decide) _ _ _ rfl (HW.out.alloc _) ⟨wr.heap.size, 0, none⟩ 1 1 [.int .u8 (16 * (a : Int) + (b : Int))] rfl rfl (box_news (Box.new _ _ _)) (by intro u hu; simp at hu; subst hu; rfl) (by unfold maxLen; omega) (by omega) (by have := hb.size; simp; omega) ?_);intro v' w' o2 g2 or2;have h := OwnStep.fresh (w := w) (W := wr.alloc (.cells #[.int .u8 (16 * (a : Int) + (b : Int))] 5)) (e := .returned v') (w' := w') (bel9) (HW.out.alloc _) ⟨v', rfl, o2, g2, or2⟩;have B2 := hid9 (show Below w.heap.size w w' by obtain ⟨_, _, _, h⟩ := h; exact h);have HW2 := hid9 (show w'.ownsRow w.heap.size 5 1 v' (k + 1) ((r ++ [UInt8.ofNat (16 * a + b)]).flatMap encB) from by
        rw [List.flatMap_append, List.flatMap_cons, List.flatMap_nil, List.append_nil, HE.out]; exact o2)
       have HL2 := hid9 (show (r ++ [UInt8.ofNat (16 * a + b)]).length = k + 1 from by rw [List.length_append, HRL.out]; rfl);have HS2 := hid9 (show s.data.toList.take (m + 2) = Lib.Hx.encode (r ++ [UInt8.ofNat (16 * a + b)]) from by rw [HM.out]; exact HS.out);clear o2 g2 or2 h HW;go_wp2;go_roundw
       case rel => exact ⟨k + 1, m + 2, _, by omega, HL2.out, by go_num, by have := HM.out; omega, HS2, HW2, B2.out⟩
       case measure => simp [intOf]; have := HP4.out; omega
    ·obtain rfl : k = n := by omega
     have hms : m = s.size := by omega
     subst hms;have HV := hid9 (unhex_yes (s := s) (r := r) (by rw [← HT.out, List.take_of_length_le (by simp)]) (by omega));have p2 : ¬ (s.size : Int) < (s.size : Int) := by omega
     have hcv : (convert 22 9 u4).run prog wr = .ok (.string ⟨r.toArray⟩) wr := convB wr w.heap.size 5 u4 r k HRL.out.symm HW.out;clear hm hsz hrl HT HM;go_wp2;go_ret2;exact ⟨by rw [HV.out.1, HV.out.2]; rfl, hb⟩
  ·have hd : ((s.size : Int) % 2 == 0) = false := by simp [ho]
   have hd2 : ((s.size : Int) % 2 != 0) = true := by simp [ho]
   have HV := hid9 (unhex_no (s := s) (fun r hr e => by
    have := congrArg List.length e;rw [Lib.Hx.encode_length] at this;simp at this;omega))
   go_enter func188, ntmps188;go_wp2;go_ret2;exact ⟨by rw [HV.out.1, HV.out.2]; rfl, bel9⟩
theorem decode_le : ∀ l : List UInt8, 2 * (Lib.Hx.decode l).1.length ≤ l.length
 | [] => by rw [Lib.Hx.decode_nil]; simp
 | [c] => by rw [Lib.Hx.decode_one]; split <;> simp
 | p :: q :: t => by
  rw [Lib.Hx.decode_two];have := decode_le t;split
  ·simp
  ·split
   ·simp
   ·simp; omega
def OddErr (w : World) : Prop := ∃ T v, w.cell? ⟨1, 0, none⟩ = some (.iface T v)
theorem OddErr.below {w w' : World} (h : OddErr w) (hb : Below w.heap.size w w') : OddErr w' := by
 obtain ⟨T, a, h⟩ := h;exact ⟨T, a, keepS hb h⟩
set_option maxRecDepth 100000 in
theorem implUnhex_c (s : ByteArray) (w : World) (hs : s.size ≤ 281474976710656) (hE : OddErr w) :
 Calls prog 234 #[.string s] w fun e w' => e = .returned (.tuple #[.string (unhexV s), .bool (unhexOk s)]) ∧ Below w.heap.size w w' := by
 obtain ⟨ET, EA, hev⟩ := hE;have K := hid9 (Tryz.hex_DecodeString s w _ hev hs);clear hev;cases ho : (Lib.Hx.decode s.data.toList).2 with
 | bad c =>
  have HV := hid9 (unhex_no (s := s) (fun r _ e => by rw [← e, Lib.Hx.decode_encode] at ho; cases ho));rw [ho] at K;clear ho;go_enter func234, ntmps234;go_wp2_with fail;refine K.out.mono ?_;rintro e w1 ⟨rfl, _, hb1⟩;simp only [Lib.Hx.errVal];go_wp2;go_ret2;exact ⟨by rw [HV.out.1, HV.out.2]; rfl, hb1⟩
 | odd =>
  have HV := hid9 (unhex_no (s := s) (fun r _ e => by rw [← e, Lib.Hx.decode_encode] at ho; cases ho));rw [ho] at K;clear ho;go_enter func234, ntmps234;go_wp2_with fail;refine K.out.mono ?_;rintro e w1 ⟨rfl, _, hb1⟩;simp only [Lib.Hx.errVal];go_wp2;go_ret2;exact ⟨by rw [HV.out.1, HV.out.2]; rfl, hb1⟩
 | ok =>
  rw [ho] at K;obtain ⟨r, hr⟩ : ∃ r, (Lib.Hx.decode s.data.toList).1 = r := ⟨_, rfl⟩;have HD := hid9 (show Lib.Hx.decode s.data.toList = (r, .ok) by rw [← hr, ← ho]);rw [hr] at K;clear hr ho;have hne : ∀ r', Lib.Hx.encode r' = s.data.toList → r' = r := fun r' e => by
   have := HD.out;rw [← e, Lib.Hx.decode_encode] at this;exact congrArg Prod.fst this
  have hle : r.length ≤ s.size / 2 := by
   have := decode_le s.data.toList;rw [HD.out] at this;simp at this;omega
  have HCell := hid9 (show ∀ (W : World), W.rowIs w.heap.size 5 (s.size / 2) (Lib.Hx.rowP (fun _ => .int .u8 0) 0 r) → ∀ i (h : i < r.length), W.cell? ⟨w.heap.size, 0 + i, none⟩ = some (.int .u8 ((r[i]'h).toNat : Int)) from fun W hW i hi => by
   rw [Nat.zero_add, World.rowIs.cell hW (by omega)];unfold Lib.Hx.rowP;rw [if_pos (by omega)];simp [hi])
  by_cases hl : r.length ≤ 20000
  ·have p : ¬ (20000 : Int) < (r.length : Int) := by omega
   have KE := hid9 (fun (W : World) (hW : W.rowIs w.heap.size 5 (s.size / 2) (Lib.Hx.rowP (fun _ => .int .u8 0) 0 r)) => Tryz.hex_EncodeToString_bytes w.heap.size 0 (s.size / 2) r W (HCell.out W hW) (World.rowIs.lt hW) (by omega));by_cases he : Lib.Hx.encode r = s.data.toList
   ·have HV := hid9 (unhex_yes he hl);have hx : ((⟨(Lib.Hx.encode r).toArray⟩ : ByteArray)) = s := by rw [he]
    rw [hx] at KE;clear hx he hne;go_enter func234, ntmps234;go_wp2_with fail;refine K.out.mono ?_;rintro e w1 ⟨rfl, hrow, hb1⟩;have HROW := hid9 hrow;clear hrow;simp only [Lib.Hx.errVal];go_wp2_with fail;refine (KE.out w1 HROW.out).mono ?_;rintro e w2 ⟨rfl, hb2⟩;have B2 : Below w.heap.size w w2 := hb1.trans (hb2.mono hb1.size);have hcv : (convert 22 9 (.slice (some ⟨w.heap.size, 0, none⟩) r.length (s.size / 2))).run prog w2 = .ok (.string ⟨r.toArray⟩) w2 :=
     run_convert_bytes_back w2 _ _ 5 ⟨w.heap.size, 0, none⟩ (s.size / 2) r underlying22 underlying5 underlying9 (fun j hj => by
      have := HCell.out w1 HROW.out j hj;rw [Nat.zero_add] at this;rw [add_none, Nat.zero_add];exact keepS hb2 this)
    go_wp2;go_ret2;exact ⟨by rw [HV.out.1, HV.out.2]; rfl, B2⟩
   ·have HV := hid9 (unhex_no (s := s) (fun r' h' e => he (by rw [← hne r' e]; exact e)));obtain ⟨t, ht⟩ : ∃ t : ByteArray, (⟨(Lib.Hx.encode r).toArray⟩ : ByteArray) = t := ⟨_, rfl⟩;have htn : t ≠ s := fun e => he (by rw [← e, ← ht]);have f1 := beq_toList_false htn;have f2 := bne_toList_true htn;have f3 := toList_ne htn;rw [ht] at KE;clear ht htn he hne;go_enter func234, ntmps234;go_wp2_with fail;refine K.out.mono ?_;rintro e w1 ⟨rfl, hrow, hb1⟩;have HROW := hid9 hrow;clear hrow;simp only [Lib.Hx.errVal];go_wp2_with fail;refine (KE.out w1 HROW.out).mono ?_;rintro e w2 ⟨rfl, hb2⟩;have B2 : Below w.heap.size w w2 := hb1.trans (hb2.mono hb1.size);go_wp2;go_ret2;exact ⟨by rw [HV.out.1, HV.out.2]; rfl, B2⟩
  ·have p : (20000 : Int) < (r.length : Int) := by omega
   have HV := hid9 (unhex_no (s := s) (fun r' h' e => hl (by rw [← hne r' e]; exact h')));clear hne hl;go_enter func234, ntmps234;go_wp2_with fail;refine K.out.mono ?_;rintro e w1 ⟨rfl, _, hb1⟩;simp only [Lib.Hx.errVal];go_wp2;go_ret2;exact ⟨by rw [HV.out.1, HV.out.2]; rfl, hb1⟩
end
section
open Go.RowKit
attribute [local go_sem ↓] Go.wp_at_zero Go.wp_at_succ
def Tabs (w : World) : Prop := DecTab w ∧ NumErr w ∧ OddErr w
theorem Tabs.below {w W : World} (h : Tabs w) (hb : Below w.heap.size w W) : Tabs W := ⟨h.1.below hb, h.2.1.below hb, h.2.2.below hb⟩
noncomputable def msgV (v : ByteArray) : ByteArray := if Lib.hasPrefix v.data.toList [45] = true then unhexV (v.extract 1 v.size) else ByteArray.empty
theorem extract1_size (v : ByteArray) : (v.extract 1 v.size).size ≤ v.size := by
 rw [ByteArray.size_extract]; omega
theorem hyphen_size {v : ByteArray} (h : Lib.hasPrefix v.data.toList [45] = true) : ∃ h0 : 0 < v.size, v[0] = 45 := by
 unfold Lib.hasPrefix at h;obtain ⟨t, ht⟩ := List.isPrefixOf_iff_prefix.1 h;have hs : 0 < v.size := by
  have h1 := congrArg List.length ht;have h2 : v.data.toList.length = v.size := Array.length_toList;rw [h2, List.length_append] at h1;have h3 : [(45 : UInt8)].length = 1 := rfl;omega
 refine ⟨hs, ?_⟩;have : v.data.toList[0]? = some 45 := by rw [← ht]; rfl
 rw [List.getElem?_eq_getElem (by simpa using hs)] at this;exact Option.some.inj this
theorem no_hyphen {v : ByteArray} (h : Lib.hasPrefix v.data.toList [45] = false) (h0 : 0 < v.size) : v[0] ≠ 45 := by
 intro e;have hl : v.data.toList ≠ [] := by
  intro e;have h1 := congrArg List.length e;have h2 : v.data.toList.length = v.size := Array.length_toList;rw [h2] at h1;have h3 : ([] : List UInt8).length = 0 := rfl;omega
 obtain ⟨c, t, ht⟩ := List.exists_cons_of_ne_nil hl;have : v.data.toList[0]? = some 45 := by
  rw [List.getElem?_eq_getElem (by simpa using h0)];exact congrArg some e
 rw [ht] at this;cases this;rw [ht] at h;unfold Lib.hasPrefix at h;simp at h
def dnK : ByteArray := ⟨#[100, 47, 110]⟩
def dK : ByteArray := ⟨#[100, 47]⟩
def broughtV (n l m : Int) : Int := max l (min n m)
theorem specBrought_c (n l m : Int) (w : World) : Calls prog 216 #[.int .i64 n, .int .i64 l, .int .i64 m] w fun e w' => e = .returned (.int .i64 (broughtV n l m)) ∧ w = w' := by
 by_cases h1 : m < l
 ·have H := hid9 (show broughtV n l m = l by unfold broughtV; omega);go_enter func216, ntmps216;go_wp2;go_ret;exact ⟨by rw [H.out]; rfl, rfl⟩
 ·by_cases h2 : n < l
  ·have H := hid9 (show broughtV n l m = l by unfold broughtV; omega);go_enter func216, ntmps216;go_wp2;go_ret;exact ⟨by rw [H.out]; rfl, rfl⟩
  ·by_cases h3 : m < n
   ·have H := hid9 (show broughtV n l m = m by unfold broughtV; omega);go_enter func216, ntmps216;go_wp2;go_ret;exact ⟨by rw [H.out]; rfl, rfl⟩
   ·have H := hid9 (show broughtV n l m = n by unfold broughtV; omega);go_enter func216, ntmps216;go_wp2;go_ret;exact ⟨by rw [H.out]; rfl, rfl⟩
theorem slHas_c (v p : ByteArray) (w : World) (hs : v.size ≤ maxLen) (hp : p.size ≤ maxLen) :
 Calls prog 246 #[.string v, .string p] w fun e w' => e = .returned (.bool (Lib.hasPrefix v.data.toList p.data.toList)) ∧ w = w' := by
 unfold maxLen at hs hp;have hr := Lib.hasPrefix_raw v p;by_cases h : p.size ≤ v.size
 ·have h' : (p.size : Int) ≤ (v.size : Int) := by omega
  rw [decide_eq_true h, Bool.true_and] at hr;have HR := hid9 hr.symm;clear hr;generalize hx : ((v.extract 0 p.size).toList == p.toList) = r at *;cases r
  ·go_enter func246, ntmps246;go_wp2;go_ret;exact ⟨by rw [HR.out]; rfl, rfl⟩
  ·go_enter func246, ntmps246;go_wp2;go_ret;exact ⟨by rw [HR.out]; rfl, rfl⟩
 ·have h' : ¬ (p.size : Int) ≤ (v.size : Int) := by omega
  rw [decide_eq_false h, Bool.false_and] at hr;have HR := hid9 hr.symm;clear hr;go_enter func246, ntmps246;go_wp2;go_ret;exact ⟨by rw [HR.out]; rfl, rfl⟩
theorem cutHyphen_c (v : ByteArray) (w : World) (hs : v.size ≤ maxLen) :
 Calls prog 236 #[.string v, .string ⟨#[45]⟩] w fun e w' => e = .returned (.tuple #[.string (if Lib.hasPrefix v.data.toList [45] = true then v.extract 1 v.size else v), .bool (Lib.hasPrefix v.data.toList [45])]) ∧ w = w' := by
 have K : Calls prog 250 #[.string v, .string ⟨#[45]⟩] w fun e w' => e = .returned (.tuple #[.string (if Lib.hasPrefix v.data.toList [45] = true then v.extract 1 v.size else v), .bool (Lib.hasPrefix v.data.toList [45])]) ∧ w = w' := by
  have KH := hid9 (slHas_c v ⟨#[45]⟩ w hs (by decide));rw [show Lib.hasPrefix v.data.toList (ByteArray.mk #[45]).data.toList = Lib.hasPrefix v.data.toList [45] from rfl] at KH;unfold maxLen at hs;cases hp : Lib.hasPrefix v.data.toList [45] with
  | false =>
   rw [hp] at KH;clear hp;go_enter func250, ntmps250;go_wp2_with fail;refine KH.out.mono ?_;rintro e w1 ⟨rfl, rfl⟩;go_wp2;go_ret2;exact ⟨rfl, rfl⟩
  | true =>
   obtain ⟨h0, _⟩ := hyphen_size hp;rw [hp] at KH;have h1 : (1 : Int) ≤ (v.size : Int) := by omega
   clear hp;go_enter func250, ntmps250;go_wp2_with fail;refine KH.out.mono ?_;rintro e w1 ⟨rfl, rfl⟩;go_wp2;go_ret2;exact ⟨rfl, rfl⟩
 have KH := hid9 K;clear K;generalize (if Lib.hasPrefix v.data.toList [45] = true then v.extract 1 v.size else v) = t at *;generalize Lib.hasPrefix v.data.toList [45] = b at *;go_enter func236, ntmps236;go_wp2_with fail;refine KH.out.mono ?_;rintro e w1 ⟨rfl, rfl⟩;go_wp2;go_ret2;exact ⟨rfl, rfl⟩
theorem messageOf_c (v : ByteArray) (w : World) (hs : v.size ≤ 281474976710656) (hE : OddErr w) :
 Calls prog 208 #[.string v] w fun e w' => e = .returned (.string (msgV v)) ∧ Below w.heap.size w w' := by
 have K := hid9 (cutHyphen_c v w (by unfold maxLen; omega));cases hp : Lib.hasPrefix v.data.toList [45] with
 | false =>
  have HV := hid9 (show msgV v = ByteArray.empty by unfold msgV; rw [hp]; rfl);rw [hp] at K;clear hp hE;go_enter func208, ntmps208;go_wp2_with fail;refine K.out.mono ?_;rintro e w1 ⟨rfl, rfl⟩;go_wp2;go_ret;exact ⟨by rw [HV.out]; rfl, Below.refl _ _⟩
 | true =>
  have HV := hid9 (show msgV v = unhexV (v.extract 1 v.size) by unfold msgV; rw [hp]; rfl);rw [hp, if_pos rfl] at K;have KU := hid9 (implUnhex_c (v.extract 1 v.size) w (Nat.le_trans (extract1_size v) hs) hE);generalize v.extract 1 v.size = t at *;clear hp hE;generalize unhexV t = r at *;generalize unhexOk t = b at *;go_enter func208, ntmps208;go_wp2_with fail;refine K.out.mono ?_;rintro e w1 ⟨rfl, rfl⟩;go_wp2_with fail;refine KU.out.mono ?_;rintro e w1 ⟨rfl, hb1⟩;go_wp2;go_ret;exact ⟨by rw [HV.out]; rfl, hb1⟩
theorem empty_iff0 {s : ByteArray} : s.toList = [] ↔ s.size = 0 := by
 rw [Lib.toList_data];constructor
 ·intro h;have := congrArg List.length h;simpa using this
 ·intro h;apply List.eq_nil_of_length_eq_zero;simpa using h
theorem neq_empty {v : ByteArray} {t : TypeId} (h : 0 < v.size) : binOp .neq t (.string v) (.string ⟨#[]⟩) = pure (.bool true) := by
 rw [binOp_string_neq];refine congrArg (fun b => pure (Value.bool (!b))) (beq_eq_false_iff_ne.2 (fun e => ?_));have := empty_iff0.1 (e.trans (show (ByteArray.mk #[]).toList = [] from by kernel_rfl));omega
theorem eq_empty {v : ByteArray} {t : TypeId} (h : v.size = 0) : binOp .neq t (.string v) (.string ⟨#[]⟩) = pure (.bool false) := by
 rw [binOp_string_neq, empty_iff0.2 h, show (ByteArray.mk #[]).toList = [] from by kernel_rfl];rfl
theorem own_empty0 (W : World) (T K : Nat) : (W.alloc (.cells #[] T)).ownsRow W.heap.size T K (.slice (some ⟨W.heap.size, 0, none⟩) 0 0) 0 [] :=
 ⟨by simp, .inr ⟨W.heap.size, 0, #[], rfl, Nat.le_refl _, heap_alloc_new W _, Nat.le_refl _, Nat.zero_le _, by simp, by simp⟩⟩
end
end Go.Proofs.YtihghflppegnmaaGreatDoor
