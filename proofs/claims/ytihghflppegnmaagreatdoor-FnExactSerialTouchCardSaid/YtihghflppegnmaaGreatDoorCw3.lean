/- Lemmas and contracts that the last text leans on, joined: Hex, Mark, MarkS, OwnKeepS, Dec, ReadDec, NumOf, NMach, NMachS. Conditions: as each theorem says. -/
import Derived.Test.YtihghflppegnmaaGreatDoorCw1
import Derived.Test.YtihghflppegnmaaGreatDoorShelf
import Derived.Laws.IdiomStrings
import Derived.Shelf.Hex.Encode
import Derived.Shelf.Hex.More
import Derived.Test.YtihghflppegnmaaGreatDoorProg
import Derived.WalkKit
import Derived.WalkSpells
import Derived.WalkLawsBesides
import Derived.Lib.Hide
import Derived.Deep.RegionHeld3
import Derived.Deep.DrawnRows
import Derived.Lib.LaidTab
import Derived.Lib.ItoaNum
import Derived.Test.YtihghflppegnmaaGreatDoorCw2
import Derived.Lib.AtoiAll
set_option linter.unusedSimpArgs false
set_option linter.unusedVariables false
namespace Go.Proofs.YtihghflppegnmaaGreatDoor
open Go.RowKit
attribute [local go_sem ↓] Go.wp_at_zero Go.wp_at_succ
def hexS (s : ByteArray) : ByteArray := ⟨(Lib.Hx.encode s.data.toList).toArray⟩
theorem hexS_size (s : ByteArray) : (hexS s).size = 2 * s.size := by
 show (Lib.Hx.encode s.data.toList).toArray.size = _;rw [List.size_toArray, Lib.Hx.encode_length]; simp
def hexOk (s : ByteArray) : Bool := decide (s.size ≤ 20000)
def hexV (s : ByteArray) : ByteArray := if s.size ≤ 20000 then hexS s else ByteArray.empty
theorem hex_yes {s : ByteArray} (h : s.size ≤ 20000) : hexOk s = true ∧ hexV s = hexS s := by simp [hexOk, hexV, h]
theorem hex_no {s : ByteArray} (h : 20000 < s.size) : hexOk s = false ∧ hexV s = ByteArray.empty := by
 simp [hexOk, hexV, Nat.not_le.2 h]
set_option maxRecDepth 100000 in
set_option maxHeartbeats 1000000 in
theorem implHex_c (s : ByteArray) (w : World) :
 Calls Tryz.prog 207 #[.string s] w fun e w' => e = .returned (.tuple #[.string (hexV s), .bool (hexOk s)]) ∧ Below w.heap.size w w' := by
 by_cases h : s.size ≤ 20000
 ·have p : ¬ (20000 : Int) < (s.size : Int) := by omega
  have HV := Lib.hid (hex_yes h);obtain ⟨C, hC⟩ : ∃ C, C = grownCap w s.size 0 5 := ⟨_, rfl⟩;obtain ⟨W1, hW1⟩ : ∃ W1, W1 = w.drew.alloc (.cells (bytesRow s C) 5 ((bytesRow s C).size, (bytesRow s C).size + 1)) := ⟨_, rfl⟩;have hcv : (convert 9 22 (.string s)).run Tryz.prog w = .ok (.slice (some ⟨w.heap.size, 0, none⟩) s.size C) W1 := by
   rw [hW1, hC];exact run_bytes_of_string w 9 22 5 s Tryz.underlying9 Tryz.underlying22 Tryz.underlying5
  have HB := Lib.hid (show Below w.heap.size w W1 by rw [hW1]; exact ((Below.refl _ _).drew).alloc (Nat.le_refl _) _);have K := Lib.hid (Tryz.hex_EncodeToString_bytes w.heap.size 0 C s.data.toList W1 (fun i hi => by
   have hi' : i < s.data.size := by simpa using hi
   rw [hW1, Nat.zero_add];simp only [World.cell?, World.alloc, World.drew];have := bytesRow_at s C i hi';simp [this]) (by rw [hW1]; simp) (by simp; omega))
  have hln : s.data.toList.length = s.size := by simp
  rw [hln] at K;clear hC hW1 hln;go_enter Tryz.func207, Tryz.ntmps207;go_wp2_with fail;refine K.out.mono ?_;rintro e w2 ⟨rfl, hb2⟩;go_wp2;go_ret2;exact ⟨by rw [HV.out.1, HV.out.2]; rfl, HB.out.trans (hb2.mono HB.out.size)⟩
 ·have p : (20000 : Int) < (s.size : Int) := by omega
  have HV := Lib.hid (hex_no (Nat.not_le.1 h));clear h;go_enter Tryz.func207, Tryz.ntmps207;go_wp2;go_ret2;exact ⟨by rw [HV.out.1, HV.out.2]; rfl, (by repeat (first | exact Below.refl _ _ | refine Below.drew ?_ | refine below_drewN ?_ _ | refine Below.allocC ?_ _ | refine Below.setCell ?_ (by first | (simp; done) | (simp; omega)) _ | refine Below.chain ?_ (by assumption)))⟩
theorem digit_lo {d : Nat} (h : d < 10) : ((Lib.Hx.digit d).toNat : Int) = 48 + d := by
 match d, h with
 | 0, _ | 1, _ | 2, _ | 3, _ | 4, _ | 5, _ | 6, _ | 7, _ | 8, _ | 9, _ => rfl
theorem digit_hi {d : Nat} (h : 10 ≤ d) (h2 : d < 16) : ((Lib.Hx.digit d).toNat : Int) = 87 + d := by
 have : d = 10 ∨ d = 11 ∨ d = 12 ∨ d = 13 ∨ d = 14 ∨ d = 15 := by omega
 rcases this with rfl | rfl | rfl | rfl | rfl | rfl <;> rfl
theorem figure_c (d : Nat) (w : World) (h : d < 16) : Calls Tryz.prog 218 #[.int .i64 (d : Int)] w fun e w' => e = .returned (.int .u8 ((Lib.Hx.digit d).toNat : Int)) ∧ w = w' := by
 have p0 : (0 : Int) ≤ (d : Int) := by omega
 have p1 : (d : Int) < 16 := by omega
 by_cases hl : d < 10
 ·have HD := Lib.hid (digit_lo hl);have pl : (d : Int) < 10 := by omega
  go_enter Tryz.func218, Tryz.ntmps218;go_wp2;go_ret;exact ⟨by rw [HD.out]; rfl, rfl⟩
 ·have HD := Lib.hid (digit_hi (Nat.not_lt.1 hl) h);have pl : ¬ (d : Int) < 10 := by omega
  clear hl;go_enter Tryz.func218, Tryz.ntmps218;go_wp2;go_ret;exact ⟨by rw [HD.out]; simp; omega, rfl⟩
theorem infoByte : (Tryz.prog.info? 5).map (fun i => (i.zero, i.size, i.bytes)) = some (some (.int .u8 0), 1, 1) := by kernel_rfl
def encB (b : UInt8) : List Value := [.int .u8 (b.toNat : Int)]
theorem encB_len (b : UInt8) : (encB b).length = 1 := rfl
theorem encode_snoc (l : List UInt8) (b : UInt8) : Lib.Hx.encode (l ++ [b]) = Lib.Hx.encode l ++ [Lib.Hx.digit (b.toNat / 16), Lib.Hx.digit (b.toNat % 16)] := by
 simp [Lib.Hx.encode, List.flatMap_append]
set_option maxRecDepth 100000 in
set_option maxHeartbeats 4000000 in
theorem specHex_c (s : ByteArray) (w : World) (hs : s.size ≤ maxLen) :
 Calls Tryz.prog 185 #[.string s] w fun e w' => e = .returned (.tuple #[.string (hexV s), .bool (hexOk s)]) ∧ Below w.heap.size w w' := by
 unfold maxLen at hs;by_cases h : s.size ≤ 20000
 ·have p : ¬ (20000 : Int) < (s.size : Int) := by omega
  have HV := Lib.hid (hex_yes h);obtain ⟨i0, hi, hzz⟩ := Option.map_eq_some_iff.1 infoByte;simp only [Prod.mk.injEq] at hzz;have HI := Lib.hid hi;have HZ := Lib.hid hzz;clear hi hzz;go_enter Tryz.func185, Tryz.ntmps185;go_wp2;go_loopw [4, 5] (fun v i wr => ∃ k : Nat, k ≤ s.size ∧ i = .int .i64 k ∧ Hid (wr.ownsRow w.heap.size 5 1 v (2 * k) ((Lib.Hx.encode (s.data.toList.take k)).flatMap encB)) ∧ Below w.heap.size w wr) (fun _ i _ => s.size - (intOf i).toNat)
  case atStart => exact ⟨0, Nat.zero_le _, rfl, Lib.hid ⟨rfl, .inr ⟨w.heap.size, 0, #[], rfl, Nat.le_refl _, heap_alloc_new w _, Nat.le_refl _, Nat.zero_le _, rfl, rfl⟩⟩, (by repeat (first | exact Below.refl _ _ | refine Below.drew ?_ | refine below_drewN ?_ _ | refine Below.allocC ?_ _ | refine Below.setCell ?_ (by first | (simp; done) | (simp; omega)) _ | refine Below.chain ?_ (by assumption)))⟩
  case round =>
   obtain ⟨k, hk, rfl, HW, hb⟩ := hrel;by_cases hlt : k < s.size
   ·have p1 : (0 : Int) ≤ (k : Int) := by omega
    have p2 : (k : Int) < (s.size : Int) := by omega
    have hn : s[k].toNat < 256 := s[k].toNat_lt;have HS := Lib.hid (show Lib.Hx.encode (s.data.toList.take (k + 1)) = Lib.Hx.encode (s.data.toList.take k) ++ [Lib.Hx.digit (s[k].toNat / 16), Lib.Hx.digit (s[k].toNat % 16)] from by
     rw [List.take_succ_eq_append_getElem (by simpa using hlt), encode_snoc]; rfl)
    have hw0 : IntKind.i64.wrap (s[k].toNat : Int) = (s[k].toNat : Int) := by rw [IntKind.wrap_i64]; omega
    have HF1 := Lib.hid (show ∀ W, Calls Tryz.prog 218 #[.int .i64 (IntKind.i64.wrap ((IntKind.i64.wrap (s[k].toNat : Int)).tdiv 16))] W fun e w' => e = .returned (.int .u8 ((Lib.Hx.digit (s[k].toNat / 16)).toNat : Int)) ∧ W = w' from fun W => by
     have e : IntKind.i64.wrap ((IntKind.i64.wrap (s[k].toNat : Int)).tdiv 16) = ((s[k].toNat / 16 : Nat) : Int) := by
      rw [hw0, Int.tdiv_eq_ediv_of_nonneg (by omega), IntKind.wrap_i64]; omega
     rw [e]; exact figure_c (s[k].toNat / 16) W (by omega))
    have HF2 := Lib.hid (show ∀ W, Calls Tryz.prog 218 #[.int .i64 (((IntKind.i64.wrap (s[k].toNat : Int)).tmod 16))] W fun e w' => e = .returned (.int .u8 ((Lib.Hx.digit (s[k].toNat % 16)).toNat : Int)) ∧ W = w' from fun W => by
     have e : ((IntKind.i64.wrap (s[k].toNat : Int)).tmod 16) = ((s[k].toNat % 16 : Nat) : Int) := by
      rw [hw0, Int.tmod_eq_emod_of_nonneg (by omega)]; omega
     rw [e]; exact figure_c (s[k].toNat % 16) W (by omega))
    clear hw0;have q0 : (0 : Int) ≤ (s[k].toNat : Int) := by omega
    have q1 : (s[k].toNat : Int) ≤ 255 := by omega
    generalize Lib.Hx.digit (s[k].toNat / 16) = d1 at *;generalize Lib.Hx.digit (s[k].toNat % 16) = d2 at *;go_wp2_with fail;go_region_held3 (fun w' => True) (trivial) (first
     | (go_at_call 218; (with_reducible refine (HF1.out _).mono ?_); rintro e w1 ⟨rfl, rfl⟩)
     | (go_at_call 218; (with_reducible refine (HF2.out _).mono ?_); rintro e w1 ⟨rfl, rfl⟩)
     | (refine step_append_own2 _ (by rfl) _ _ _ (by rfl) w.heap.size 5 i0 _ 1 1 Tryz.underlying22 HI.out HZ.out.1 HZ.out.2.1 HZ.out.2.2 rfl (by decide) _ _ _ (by rfl) (show World.ownsRow _ _ _ _ _ _ _ from HW.out.alloc _) ⟨wr.heap.size, 0, none⟩ 2 2 [.int .u8 (d1.toNat : Int), .int .u8 (d2.toNat : Int)] (by rfl) (by rfl) (box_news (Box.new _ _ _)) (by intro u hu; simp at hu; rcases hu with rfl | rfl <;> rfl) (by unfold maxLen; omega) (by omega) (by have := hb.size; simp; omega) ?_; intro v' w' o2 g2 or2))
    all_goals
     have h := OwnStep.fresh (w := w) (W := (wr.alloc (.cells #[.int .u8 (d1.toNat : Int), .int .u8 (d2.toNat : Int)] 5)).drew) (e := .returned v') (w' := w') ((by repeat (first | exact Below.refl _ _ | refine Below.drew ?_ | refine below_drewN ?_ _ | refine Below.allocC ?_ _ | refine Below.setCell ?_ (by first | (simp; done) | (simp; omega)) _ | refine Below.chain ?_ (by assumption)))) (show World.ownsRow _ _ _ _ _ _ _ from HW.out.alloc _) ⟨v', rfl, o2, g2, or2⟩;have B2 := Lib.hid (show Below w.heap.size w w' by obtain ⟨_, _, _, h⟩ := h; exact h);have HW2 := Lib.hid (show w'.ownsRow w.heap.size 5 1 v' (2 * (k + 1)) ((Lib.Hx.encode (s.data.toList.take (k + 1))).flatMap encB) from by
      rw [HS.out, List.flatMap_append]; exact o2)
     clear o2 g2 or2 h HW;go_wp2;go_roundw
     case rel => exact ⟨k + 1, by omega, by go_num, HW2, B2.out⟩
     case measure => simp [intOf]; omega
   ·obtain rfl : k = s.size := by omega
    have p2 : ¬ (s.size : Int) < (s.size : Int) := by omega
    rw [List.take_of_length_le (by simp)] at HW;have hl : (Lib.Hx.encode s.data.toList).length = 2 * s.size := by rw [Lib.Hx.encode_length]; simp
    obtain ⟨E, hE⟩ : ∃ E, E = Lib.Hx.encode s.data.toList := ⟨_, rfl⟩;rw [← hE] at HW hl;have hcv : (convert 22 9 u4).run Tryz.prog wr = .ok (.string (hexS s)) wr := by
     have hx : hexS s = ⟨E.toArray⟩ := by rw [hE]; rfl
     rw [hx];rcases HW.out.2 with ⟨rfl, h0⟩ | ⟨g, cap, cur, rfl, _, hg, _⟩
     ·have : E = [] := List.eq_nil_of_length_eq_zero (by omega);subst this;rfl
     ·rw [← hl];refine run_convert_bytes_back wr _ _ 5 ⟨g, 0, none⟩ cap E Tryz.underlying22 Tryz.underlying5 Tryz.underlying9 (fun j hj => ?_);have hx := getElem_flatMap encB_len E j 0 E[j] (List.getElem?_eq_getElem hj) (by decide);rw [Nat.mul_one, Nat.add_zero] at hx;exact HW.out.cells (g := g) rfl j _ hx
    clear hE hl HW;go_wp2;go_ret2;exact ⟨by rw [HV.out.1, HV.out.2]; rfl, hb⟩
 ·have p : (20000 : Int) < (s.size : Int) := by omega
  have HV := Lib.hid (hex_no (Nat.not_le.1 h));clear h;go_enter Tryz.func185, Tryz.ntmps185;go_wp2;go_ret2;exact ⟨by rw [HV.out.1, HV.out.2]; rfl, (by repeat (first | exact Below.refl _ _ | refine Below.drew ?_ | refine below_drewN ?_ _ | refine Below.allocC ?_ _ | refine Below.setCell ?_ (by first | (simp; done) | (simp; omega)) _ | refine Below.chain ?_ (by assumption)))⟩
set_option maxRecDepth 100000 in
theorem convB (wr : World) (base _T : Nat) (v : Value) (E : List UInt8) (n : Nat) (hn : n = E.length) (HW : wr.ownsRow base 5 1 v n (E.flatMap encB)) :
 (convert 22 9 v).run Tryz.prog wr = .ok (.string ⟨E.toArray⟩) wr := by
 rcases HW.2 with ⟨rfl, h0⟩ | ⟨g, cap, cur, rfl, _, hg, _⟩
 ·have : E = [] := List.eq_nil_of_length_eq_zero (by omega);subst this;rfl
 ·subst hn;refine run_convert_bytes_back wr _ _ 5 ⟨g, 0, none⟩ cap E Tryz.underlying22 Tryz.underlying5 Tryz.underlying9 (fun j hj => ?_);have hx := getElem_flatMap encB_len E j 0 E[j] (List.getElem?_eq_getElem hj) (by decide);rw [Nat.mul_one, Nat.add_zero] at hx;exact HW.cells (g := g) rfl j _ hx
def markLoop (n : Nat) (s : ByteArray) : ByteArray := if n = 0 then s else markLoop (n / 10) (⟨#[UInt8.ofNat (48 + n % 10)]⟩ ++ s)
termination_by n
decreasing_by omega
theorem markLoop_zero (s : ByteArray) : markLoop 0 s = s := by unfold markLoop; simp
theorem markLoop_step {n : Nat} (h : 0 < n) (s : ByteArray) : markLoop n s = markLoop (n / 10) (⟨#[UInt8.ofNat (48 + n % 10)]⟩ ++ s) := by
 rw [markLoop, if_neg (by omega)]
def markT (k : Nat) : ByteArray := ⟨#[109]⟩ ++ markLoop k ByteArray.empty
set_option maxHeartbeats 2000000 in
theorem markText_c (k : Nat) (w : World) (h0 : 0 < k) (h1 : k ≤ 1000000000000) :
 Calls Tryz.prog 78 #[.int .i64 k] w fun e w' => e = .returned (.string (markT k)) ∧ Below w.heap.size w w' := by
 have p0 : ¬ (k : Int) ≤ 0 := by omega
 go_enter Tryz.func78, Tryz.ntmps78;go_wp2;go_loopw [0, 3] (fun i s wr => ∃ (n : Nat) (t : ByteArray), i = .int .i64 n ∧ s = .string t ∧ t.size + n ≤ k ∧ Hid (markLoop n t = markLoop k ByteArray.empty) ∧ Below w.heap.size w wr) (fun i _ _ => (intOf i).toNat)
 case atStart => exact ⟨k, ByteArray.empty, rfl, rfl, by simp, Lib.hid rfl, (by repeat (first | exact Below.refl _ _ | refine Below.drew ?_ | refine below_drewN ?_ _ | refine Below.allocC ?_ _ | refine Below.setCell ?_ (by first | (simp; done) | (simp; omega)) _ | refine Below.chain ?_ (by assumption)))⟩
 case round =>
  obtain ⟨n, t, rfl, rfl, hn, HE, hb⟩ := hrel;by_cases hpos : 0 < n
  ·have p1 : (0 : Int) < (n : Int) := by omega
   have HS := Lib.hid (markLoop_step hpos t);have hd : n % 10 < 10 := Nat.mod_lt _ (by omega);have hcv := run_convert_bytes_back (P := Tryz.prog) (wr.alloc (.cells #[.int .u8 (48 + (n : Int) % 10)] 5)) 22 9 5 ⟨wr.heap.size, 0, none⟩ 1 [UInt8.ofNat (48 + n % 10)] Tryz.underlying22 Tryz.underlying5 Tryz.underlying9 (by
    intro j hj;have hj1 : j < 1 := hj;obtain rfl : j = 0 := by omega
    have e1 : ((UInt8.ofNat (48 + n % 10)).toNat : Int) = 48 + (n : Int) % 10 := by
     rw [UInt8.toNat_ofNat', Nat.mod_eq_of_lt (by omega)]; omega
    show _ = some (Value.int .u8 ((UInt8.ofNat (48 + n % 10)).toNat : Int));rw [e1, add_none];exact (Box.new wr [.int .u8 (48 + (n : Int) % 10)] 5).cell 0 _ rfl)
   simp only [List.length_singleton] at hcv;generalize hch : UInt8.ofNat (48 + n % 10) = ch at hcv HS;have hsz : ([ch].toArray.size : Nat) = 1 := rfl;have q1 : (⟨#[ch]⟩ : ByteArray).size = 1 := rfl;have q2 : t.size ≤ 1000000000000 := by omega
   have q3 : ((⟨#[ch]⟩ ++ t : ByteArray).size : Nat) = 1 + t.size := by rw [ByteArray.size_append]; rfl
   clear hch hd;go_wp2;go_roundw
   case rel => exact ⟨n / 10, ⟨#[ch]⟩ ++ t, by go_num, rfl, by rw [q3]; omega, Lib.hid (HS.out.symm.trans HE.out), (by repeat (first | exact Below.refl _ _ | refine Below.drew ?_ | refine below_drewN ?_ _ | refine Below.allocC ?_ _ | refine Below.setCell ?_ (by first | (simp; done) | (simp; omega)) _ | refine Below.chain ?_ (by assumption)))⟩
   case measure => simp [intOf]; omega
  ·have hz : n = 0 := by omega
   subst hz;have p1 : ¬ (0 : Int) < ((0 : Nat) : Int) := by omega
   have HM : Hid (markT k = ⟨#[109]⟩ ++ t) := Lib.hid (by unfold markT; rw [← HE.out, markLoop_zero]);have q2 : t.size ≤ 1000000000000 := by omega
   go_wp2;go_ret;exact ⟨by rw [HM.out]; rfl, (by repeat (first | exact Below.refl _ _ | refine Below.drew ?_ | refine below_drewN ?_ _ | refine Below.allocC ?_ _ | refine Below.setCell ?_ (by first | (simp; done) | (simp; omega)) _ | refine Below.chain ?_ (by assumption)))⟩
def marks (k n : Nat) : List ByteArray := (List.range n).map (fun j => markT (k + j))
theorem marks_len (k n : Nat) : (marks k n).length = n := by simp [marks]
theorem marks_succ (k n : Nat) : marks k (n + 1) = marks k n ++ [markT (k + n)] := by simp [marks, List.range_succ]
theorem marks_get {k n j : Nat} (h : j < n) : (marks k n)[j]? = some (markT (k + j)) := by simp [marks, h]
theorem marks_flat (k n : Nat) : ((marks k n).flatMap encS).length = n := by rw [length_flatMap_const encS_len, marks_len, Nat.mul_one]
theorem Filling.owned {w : World} {b e K n cap base : Nat} {done : List Value} (h : Filling w b e K cap done) (hd : done.length = n * K) (hb : base ≤ b) (hn : n ≤ cap) (hc : cap ≤ maxLen) : w.ownsRow base e K (.slice (some ⟨b, 0, none⟩) n cap) n done := by
 obtain ⟨cur, h1, h2, h3⟩ := h;exact ⟨hd, .inr ⟨b, cap, cur, rfl, hb, h1, hn, hc, h2, by rw [← hd]; exact h3⟩⟩
def MarkedS (T k n : Nat) (v : Value) (base : Nat) (w : World) (e : Ending) (w' : World) : Prop :=
 e = .returned (.int .i64 ((k + n : Nat) : Int)) ∧ w'.ownsRow base T 1 v n ((marks k n).flatMap encS) ∧ w.grownBy w' v.ownBlock
set_option maxRecDepth 100000 in
set_option maxHeartbeats 3200000 in
theorem markStringS_c (v : Value) (base n k : Nat) (cells : List Value) (w : World) (hk : 0 < k) (hn : k + n ≤ 1000000000000) (ho : w.ownsRow base 9 1 v n cells) :
 Calls Tryz.prog 79 #[v, .int .i64 k] w (MarkedS 9 k n v base w) := by
 rcases ho.2 with ⟨rfl, rfl⟩ | ⟨g, cap, cur, rfl, hb, h1, h2, h3, h4, h5⟩
 ·have HO := Lib.hid (show w.ownsRow base 9 1 (.slice none 0 0) 0 ((marks k 0).flatMap encS) from ⟨by simp [marks], .inl ⟨rfl, rfl⟩⟩);clear ho;go_enter Tryz.func79, Tryz.ntmps79;go_wp2;go_loopw [1, 5] (fun q i wr => q = .int .i64 k ∧ i = .int .i64 0 ∧ wr = w) (fun _ _ _ => 0)
  case atStart => exact ⟨rfl, rfl, rfl⟩
  case round =>
   obtain ⟨rfl, rfl, rfl⟩ := hrel;go_wp2;go_ret;exact ⟨rfl, HO.out, grownBy_refl _ _⟩
 ·have F0 : Filling w g 9 1 cap ((marks k 0).flatMap encS) := ⟨cur, h1, h4, by simp [marks]⟩;have HF0 := Lib.hid F0;have HB := Lib.hid hb;have H2 := Lib.hid h2;have H3 := Lib.hid h3;have hcap : n ≤ cap := h2;have hnm : n ≤ 1000000000000 := by omega
  clear h1 h2 h3 h4 h5 ho F0 hb;go_enter Tryz.func79, Tryz.ntmps79;go_wp2;go_loopw [1, 5] (fun q i wr => ∃ m : Nat, m ≤ n ∧ q = .int .i64 ((k + m : Nat) : Int) ∧ i = .int .i64 m ∧ Hid (Filling wr g 9 1 cap ((marks k m).flatMap encS)) ∧ Hid (w.grownBy wr (some g))) (fun _ i _ => n - (intOf i).toNat)
  case atStart => exact ⟨0, Nat.zero_le _, rfl, rfl, HF0, Lib.hid (grownBy_refl _ _)⟩
  case round =>
   obtain ⟨m, hm, rfl, rfl, HF, HG⟩ := hrel;by_cases hlt : m < n
   ·have p1 : (0 : Int) ≤ (m : Int) := by omega
    have p2 : (m : Int) < (n : Int) := by omega
    have hK := Lib.hid (markText_c (k + m) wr (by omega) (by omega));go_wp2_with fail;refine hK.out.mono ?_;rintro e w1 ⟨rfl, hb1⟩;have F1 := HF.out.below hb1;have F2 := F1.stores [.string (markT (k + m))] m (marks_flat k m).symm (by rw [marks_flat]; simp; omega);have H3' := Lib.hid (show Filling (sets w1 g m [.string (markT (k + m))]) g 9 1 cap ((marks k (m + 1)).flatMap encS) by rw [marks_succ, List.flatMap_append]; exact F2);have HG2 := Lib.hid (grownBy_trans (grownBy_trans HG.out (grownBy_of_below hb1 (some g))) (sets_grown [.string (markT (k + m))] w1 g m));have f0 := F1.free m;obtain ⟨o0, z0⟩ := F1.cell m (by omega);clear F1 F2;go_wp2;go_roundw
    case rel => exact ⟨m + 1, by omega, by go_num, by go_num, H3', HG2⟩
    case measure => simp [intOf]; omega
   ·obtain rfl : m = n := by omega
    have HO := Lib.hid (HF.out.owned (n := m) (base := base) (by rw [marks_flat, Nat.mul_one]) HB.out H2.out H3.out);have p2 : ¬ (m : Int) < (m : Int) := by omega
    go_wp2;go_ret;exact ⟨rfl, HO.out, HG.out⟩
set_option maxRecDepth 100000 in
set_option maxHeartbeats 3200000 in
theorem heldStringS_c (a : Option Addr) (cap n k : Nat) (w : World) (hk : 0 < k) (hn : k + n ≤ 1000000000000) (hr : Reads w a 1 encS (marks k n)) :
 Calls Tryz.prog 80 #[.slice a n cap, .int .i64 k] w fun e w' => e = .returned (.int .i64 ((k + n : Nat) : Int)) ∧ Below w.heap.size w w' := by
 have HR := Lib.hid hr;clear hr;go_enter Tryz.func80, Tryz.ntmps80;go_wp2;go_loopw [1, 5] (fun q i wr => ∃ m : Nat, m ≤ n ∧ q = .int .i64 ((k + m : Nat) : Int) ∧ i = .int .i64 m ∧ Below w.heap.size w wr) (fun _ i _ => n - (intOf i).toNat)
 case atStart => exact ⟨0, Nat.zero_le _, rfl, rfl, (by repeat (first | exact Below.refl _ _ | refine Below.drew ?_ | refine below_drewN ?_ _ | refine Below.allocC ?_ _ | refine Below.setCell ?_ (by first | (simp; done) | (simp; omega)) _ | refine Below.chain ?_ (by assumption)))⟩
 case round =>
  obtain ⟨m, hm, rfl, rfl, hb⟩ := hrel;by_cases hlt : m < n
  ·have p1 : (0 : Int) ≤ (m : Int) := by omega
   have p2 : (m : Int) < (n : Int) := by omega
   obtain ⟨b, off, hab, c0⟩ := readFS HR.out hb (marks_get (k := k) hlt);subst hab;have hK := Lib.hid (fun W => markText_c (k + m) W (by omega) (by omega));generalize markT (k + m) = x at *;go_wp2_with fail;go_region_held3 (fun w' => w'.cell? ⟨b, off + m, none⟩ = some (.string x)) ((go_split_ands; (repeat' apply And.intro) <;> first | assumption | exact keepS (by assumption) (by assumption))) (first | (go_at_call 78; refine (hK.out _).mono ?_; rintro e w1 ⟨rfl, hb1⟩));go_wp2;go_roundw
   case rel => exact ⟨m + 1, by omega, by go_num, by go_num, (by repeat (first | exact Below.refl _ _ | refine Below.drew ?_ | refine below_drewN ?_ _ | refine Below.allocC ?_ _ | refine Below.setCell ?_ (by first | (simp; done) | (simp; omega)) _ | refine Below.chain ?_ (by assumption)))⟩
   case measure => simp [intOf]; omega
  ·obtain rfl : m = n := by omega
   have p2 : ¬ (m : Int) < (m : Int) := by omega
   go_wp2;go_ret;exact ⟨rfl, hb⟩
end Go.Proofs.YtihghflppegnmaaGreatDoor
namespace Go.Proofs.YtihghflppegnmaaGreatDoor
open Go.RowKit
theorem own_keep {W w' : World} {base T K n : Nat} {v u : Value} {cells : List Value} (h : W.ownsRow base T K v n cells) (hg : W.grownBy w' u.ownBlock) (hne : ∀ b, v.ownBlock = some b → u.ownBlock = some b → False) : w'.ownsRow base T K v n cells :=
 h.kept hg (by
  cases hv : v.ownBlock with
  | none => simp
  | some b => simp; intro hu; exact hne b hv hu.symm)
theorem reads_marks {w : World} {base T n k cap : Nat} {a : Option Addr} (h : w.ownsRow base T 1 (.slice a n cap) n ((marks k n).flatMap encS)) : Reads w a 1 encS (marks k n) := by
 have h' : w.ownsRow base T 1 (.slice a n cap) (marks k n).length ((marks k n).flatMap encS) := by rw [marks_len]; exact h
 obtain ⟨_, _, e, r⟩ := reads_of_owns encS_len h';simp only [Value.slice.injEq] at e;obtain ⟨rfl, _, rfl⟩ := e;exact r
theorem below_of_own {w W w' : World} {T K n : Nat} {v : Value} {cells : List Value} (hb : Below w.heap.size w W) (ho : W.ownsRow w.heap.size T K v n cells) (hg : W.grownBy w' v.ownBlock) : Below w.heap.size w w' := by
 rcases ho.2 with ⟨rfl, _⟩ | ⟨g, cap, cur, rfl, hge, _⟩
 ·exact hb.trans ⟨hg.os, hg.tape, hg.output, hg.size, fun k hk => hg.block k (Nat.lt_of_lt_of_le hk hb.size) (by simp [Value.ownBlock])⟩
 ·exact hb.trans (below_of_grown hg hge hb.size)
theorem tab_below {P : Program} {w W : World} {name : String} {k : IntKind} {zs : List Int} (h : Lib.TabIs P w name k zs) (hb : Below w.heap.size w W) : Lib.TabIs P W name k zs := by
 unfold Lib.TabIs World.var? at *;cases hg : P.globalNamed name with
 | none => simp [hg] at h
 | some g =>
  simp only [hg, Option.bind_some] at h ⊢;have hlt : g < w.heap.size := by
   rcases Nat.lt_or_ge g w.heap.size with h' | h'
   ·exact h'
   ·simp [Array.getElem?_eq_none h'] at h
  rw [hb.block g hlt];exact h
end Go.Proofs.YtihghflppegnmaaGreatDoor
namespace Go.Proofs.YtihghflppegnmaaGreatDoor
open Go.RowKit
attribute [local go_sem ↓] Go.wp_at_zero Go.wp_at_succ
def decS (n : Int) : ByteArray := ⟨(Lib.itoa n).toArray⟩
theorem dec_len : ∀ (k u : Nat), 0 < k → u < 10 ^ k → (Lib.decDigits u).length ≤ k
 | 0, _, h, _ => absurd h (Nat.lt_irrefl _)
 | k + 1, u, _, h => by
  rw [Lib.decDigits];split
  ·simp
  ·rename_i hu;have hk : 0 < k := by
    rcases Nat.eq_zero_or_pos k with rfl | h'
    ·simp at h; omega
    ·exact h'
   have := dec_len k (u / 10) hk (by rw [Nat.pow_succ] at h; omega);simp; omega
theorem dec_one {u : Nat} (h : u < 10) : Lib.decDigits u = [UInt8.ofNat (48 + u)] := by rw [Lib.decDigits, dif_pos h]
theorem dec_more {u : Nat} (h : ¬ u < 10) : Lib.decDigits u = Lib.decDigits (u / 10) ++ [UInt8.ofNat (48 + u % 10)] := by rw [Lib.decDigits, dif_neg h]
def decHead (m : Nat) : List UInt8 := if m = 0 then [] else Lib.decDigits m
theorem decHead_step {m : Nat} (h : 0 < m) : decHead m = decHead (m / 10) ++ [UInt8.ofNat (48 + m % 10)] := by
 unfold decHead;rw [if_neg (by omega)];by_cases h1 : m < 10
 ·rw [dec_one h1, if_pos (by omega)];simp [Nat.mod_eq_of_lt h1]
 ·rw [dec_more h1, if_neg (by omega)]
theorem decS_size (n : Int) (h0 : -9223372036854775808 ≤ n) (h1 : n ≤ 9223372036854775807) : (decS n).size ≤ 20 := by
 show (Lib.itoa n).toArray.size ≤ 20;rw [List.size_toArray];unfold Lib.itoa;split
 ·have := dec_len 19 n.natAbs (by decide) (by omega);simp; omega
 ·have := dec_len 19 n.toNat (by decide) (by omega);omega
theorem figD_c (d : Nat) (w : World) (h : d < 10) : Calls Tryz.prog 218 #[.int .i64 (d : Int)] w fun e w' => e = .returned (.int .u8 (48 + (d : Int))) ∧ w = w' := by
 have p0 : (0 : Int) ≤ (d : Int) := by omega
 have p1 : (d : Int) < 10 := by omega
 go_enter Tryz.func218, Tryz.ntmps218;go_wp2;go_ret;exact ⟨rfl, rfl⟩
theorem pow_bound {t m u : Nat} (h : m * 10 ^ t ≤ u) (hm : 0 < m) (hu : u < 10 ^ 19) : t ≤ 18 := by
 rcases Nat.lt_or_ge t 19 with h1 | h1
 ·omega
 ·have h2 : 10 ^ 19 ≤ 10 ^ t := Nat.pow_le_pow_right (by decide) h1;have h3 : 1 * 10 ^ t ≤ m * 10 ^ t := Nat.mul_le_mul_right _ hm;omega
theorem pow_step {t m u : Nat} (h : m * 10 ^ t ≤ u) : m / 10 * 10 ^ (t + 1) ≤ u := by
 rw [Nat.pow_succ];have : m / 10 * 10 ≤ m := Nat.div_mul_le_self m 10
 calc m / 10 * (10 ^ t * 10) = (m / 10 * 10) * 10 ^ t := by rw [Nat.mul_comm (10 ^ t) 10, Nat.mul_assoc]
  _ ≤ m * 10 ^ t := Nat.mul_le_mul_right _ this
  _ ≤ u := h
theorem conv1 (wr : World) (ch : UInt8) (x : Int) (hx : (ch.toNat : Int) = x) : (convert 22 9 (.slice (some ⟨wr.heap.size, 0, none⟩) 1 1)).run Tryz.prog (wr.alloc (.cells #[.int .u8 x] 5)) = .ok (.string ⟨#[ch]⟩) (wr.alloc (.cells #[.int .u8 x] 5)) := by
 have := run_convert_bytes_back (P := Tryz.prog) (wr.alloc (.cells #[.int .u8 x] 5)) 22 9 5 ⟨wr.heap.size, 0, none⟩ 1 [ch] Tryz.underlying22 Tryz.underlying5 Tryz.underlying9 (by
  intro j hj;have hj1 : j < 1 := hj;obtain rfl : j = 0 := by omega
  show _ = some (Value.int .u8 (ch.toNat : Int));rw [hx, add_none];exact (Box.new wr [.int .u8 x] 5).cell 0 _ rfl)
 simpa using this
theorem ofNat_dig (d : Nat) (h : d < 10) : ((UInt8.ofNat (48 + d)).toNat : Int) = 48 + (d : Int) := by
 rw [UInt8.toNat_ofNat', Nat.mod_eq_of_lt (by omega)]; omega
set_option maxHeartbeats 4000000 in
theorem specDecimal_pos (u : Nat) (w : World) (h0 : 0 < u) (h1 : u ≤ 9223372036854775807) :
 Calls Tryz.prog 199 #[.int .i64 (u : Int)] w fun e w' => e = .returned (.string (decS (u : Int))) ∧ Below w.heap.size w w' := by
 have pz : ((u : Int) == 0) = false := beq_eq_false_iff_ne.2 (by omega);have pz2 : ((u : Int) != 0) = true := by simp; omega
 have pn : ¬ (u : Int) < 0 := by omega
 have HF := Lib.hid (show decS (u : Int) = ⟨(decHead u).toArray⟩ by
  unfold decS decHead Lib.itoa;rw [if_neg (by omega), if_neg (by omega)]; simp)
 clear pz2;go_enter Tryz.func199, Tryz.ntmps199;go_wp2;go_loopw [0, 4] (fun i s wr => ∃ (m : Nat) (t : ByteArray), i = .int .i64 m ∧ s = .string t ∧ m ≤ u ∧ t.size ≤ 19 ∧ Hid (m * 10 ^ t.size ≤ u) ∧ Hid (decHead u = decHead m ++ t.data.toList) ∧ Below w.heap.size w wr) (fun i _ _ => (intOf i).toNat)
 case atStart => exact ⟨u, ByteArray.empty, rfl, rfl, Nat.le_refl _, by simp, Lib.hid (by simp), Lib.hid (by simp), (by repeat (first | exact Below.refl _ _ | refine Below.drew ?_ | refine below_drewN ?_ _ | refine Below.allocC ?_ _ | refine Below.setCell ?_ (by first | (simp; done) | (simp; omega)) _ | refine Below.chain ?_ (by assumption)))⟩
 case round =>
  obtain ⟨m, t, rfl, rfl, hm, ht, HP, HE, hb⟩ := hrel;by_cases hpos : 0 < m
  ·have q1 : ((m : Int) == 0) = false := beq_eq_false_iff_ne.2 (by omega);have q2 : ((m : Int) != 0) = true := by simp; omega
   have q0 : (0 : Int) ≤ (m : Int) := by omega
   have q3 : (m : Int) ≤ 9223372036854775807 := by omega
   have hd : m % 10 < 10 := Nat.mod_lt _ (by omega);have hd0 : (0 : Int) ≤ (m : Int) % 10 := by omega
   have hd1 : ¬ (m : Int) % 10 < 0 := by omega
   have ht18 := pow_bound HP.out hpos (by omega);have K := Lib.hid (show ∀ W, Calls Tryz.prog 218 #[.int .i64 ((m : Int) % 10)] W fun e w' => e = .returned (.int .u8 (48 + (m : Int) % 10)) ∧ W = w' from fun W => by
    have := figD_c (m % 10) W hd
    rwa [show ((m % 10 : Nat) : Int) = (m : Int) % 10 by omega] at this)
   obtain ⟨ch, hch⟩ : ∃ ch, UInt8.ofNat (48 + m % 10) = ch := ⟨_, rfl⟩;have hcv := conv1 wr ch (48 + (m : Int) % 10) (by rw [← hch, ofNat_dig _ hd]; omega);have HS := Lib.hid (show decHead u = decHead (m / 10) ++ (⟨#[ch]⟩ ++ t : ByteArray).data.toList from by
    rw [HE.out, decHead_step hpos, hch, ByteArray.data_append, Array.toList_append, List.append_assoc])
   have HP2 := Lib.hid (pow_step HP.out);have hsz : ((⟨#[ch]⟩ ++ t : ByteArray).size : Nat) = t.size + 1 := by rw [ByteArray.size_append, Nat.add_comm]; rfl
   have HSZ := Lib.hid hsz;have q4 : (⟨#[ch]⟩ : ByteArray).size = 1 := rfl;clear hch hd hsz;go_wp2_with fail;refine (K.out _).mono ?_;rintro e w1 ⟨rfl, rfl⟩;go_wp2;go_roundw
   case rel => exact ⟨m / 10, ⟨#[ch]⟩ ++ t, by go_num, rfl, by omega, by rw [HSZ.out]; omega, by rw [HSZ.out]; exact HP2, HS, (by repeat (first | exact Below.refl _ _ | refine Below.drew ?_ | refine below_drewN ?_ _ | refine Below.allocC ?_ _ | refine Below.setCell ?_ (by first | (simp; done) | (simp; omega)) _ | refine Below.chain ?_ (by assumption)))⟩
   case measure => simp [intOf]; omega
  ·have hz : m = 0 := by omega
   subst hz;have HX := Lib.hid (show decS (u : Int) = t from by rw [HF.out, HE.out]; simp [decHead]);have q1 : (((0 : Nat) : Int) == 0) = true := rfl;go_wp2;go_ret;exact ⟨by rw [HX.out]; rfl, hb⟩
set_option maxHeartbeats 4000000 in
theorem specDecimal_neg (u : Nat) (w : World) (h0 : 0 < u) (h1 : u ≤ 9223372036854775808) :
 Calls Tryz.prog 199 #[.int .i64 (-(u : Int))] w fun e w' => e = .returned (.string (decS (-(u : Int)))) ∧ Below w.heap.size w w' := by
 have pz : (-(u : Int) == 0) = false := beq_eq_false_iff_ne.2 (by omega);have HF := Lib.hid (show decS (-(u : Int)) = ⟨#[45]⟩ ++ ⟨(decHead u).toArray⟩ by
  unfold decS decHead Lib.itoa;rw [if_pos (by omega), if_neg (by omega), show (-(u : Int)).natAbs = u by omega];apply ByteArray.ext;rw [ByteArray.data_append];simp)
 obtain ⟨n, hn⟩ : ∃ n : Int, -(u : Int) = n := ⟨_, rfl⟩;have HN := Lib.hid hn;have pn : n < 0 := by omega
 rw [hn] at pz HF ⊢;clear hn;go_enter Tryz.func199, Tryz.ntmps199;go_wp2;go_loopw [0, 4] (fun i s wr => ∃ (m : Nat) (x : Int) (t : ByteArray), i = .int .i64 x ∧ x = -(m : Int) ∧ s = .string t ∧ m ≤ u ∧ t.size ≤ 19 ∧ Hid (m * 10 ^ t.size ≤ u) ∧ Hid (decHead u = decHead m ++ t.data.toList) ∧ Below w.heap.size w wr) (fun i _ _ => (-(intOf i)).toNat)
 case atStart => exact ⟨u, n, ByteArray.empty, rfl, HN.out.symm, rfl, Nat.le_refl _, by simp, Lib.hid (by simp), Lib.hid (by simp), (by repeat (first | exact Below.refl _ _ | refine Below.drew ?_ | refine below_drewN ?_ _ | refine Below.allocC ?_ _ | refine Below.setCell ?_ (by first | (simp; done) | (simp; omega)) _ | refine Below.chain ?_ (by assumption)))⟩
 case round =>
  obtain ⟨m, x, t, rfl, hx, rfl, hm, ht, HP, HE, hb⟩ := hrel;by_cases hpos : 0 < m
  ·have q1 : (x == 0) = false := beq_eq_false_iff_ne.2 (by omega);have q2 : (x != 0) = true := by simp; omega
   have hd : m % 10 < 10 := Nat.mod_lt _ (by omega);obtain ⟨y, hy⟩ : ∃ y : Int, x.tmod 10 = y := ⟨_, rfl⟩;obtain ⟨z, hz⟩ : ∃ z : Int, x.tdiv 10 = z := ⟨_, rfl⟩;have hyd : y = -((m % 10 : Nat) : Int) := by rw [← hy, hx, Int.neg_tmod, Int.tmod_eq_emod_of_nonneg (by omega)]; omega
   have hzd : z = -((m / 10 : Nat) : Int) := by rw [← hz, hx, Int.neg_tdiv, Int.tdiv_eq_ediv_of_nonneg (by omega)]; omega
   have hzw : IntKind.i64.wrap z = z := by rw [IntKind.wrap_i64]; omega
   have HX := Lib.hid hx;have HZ := Lib.hid hzd;have ht18 := pow_bound HP.out hpos (by omega);obtain ⟨d, hdd⟩ : ∃ d : Nat, m % 10 = d := ⟨_, rfl⟩;rw [hdd] at hd hyd;have K := Lib.hid (fun W => figD_c d W hd);obtain ⟨ch, hch⟩ : ∃ ch, UInt8.ofNat (48 + d) = ch := ⟨_, rfl⟩;have hcv := conv1 wr ch (48 + (d : Int)) (by rw [← hch, ofNat_dig _ hd]);have HCH := Lib.hid hch;have HS := Lib.hid (show decHead u = decHead (m / 10) ++ (⟨#[ch]⟩ ++ t : ByteArray).data.toList from by
    rw [HE.out, decHead_step hpos, hdd, hch, ByteArray.data_append, Array.toList_append, List.append_assoc])
   have HP2 := Lib.hid (pow_step HP.out);have hsz : ((⟨#[ch]⟩ ++ t : ByteArray).size : Nat) = t.size + 1 := by rw [ByteArray.size_append, Nat.add_comm]; rfl
   have HSZ := Lib.hid hsz;have q4 : (⟨#[ch]⟩ : ByteArray).size = 1 := rfl;have hmd : m / 10 ≤ u := by omega
   have hml : m / 10 < m := by omega
   clear hch hsz hdd hzd hm;have pd0 : (0 : Int) ≤ (d : Int) := by omega
   have pd1 : (d : Int) ≤ 9 := by omega
   by_cases hd0 : d = 0
   ·subst hd0;have hy0 : y = 0 := by omega
    subst hy0;have K0 := Lib.hid (show ∀ W, Calls Tryz.prog 218 #[.int .i64 0] W fun e w' => e = .returned (.int .u8 48) ∧ W = w' from fun W => by simpa using figD_c 0 W (by omega));have hcv0 := conv1 wr ch 48 (by rw [← HCH.out]; exact ofNat_dig 0 (by omega));clear hyd hx K hcv;go_wp2_with fail;refine (K0.out _).mono ?_;rintro e w1 ⟨rfl, rfl⟩;go_wp2;go_roundw
    case rel => exact ⟨m / 10, z, ⟨#[ch]⟩ ++ t, rfl, HZ.out, rfl, hmd, by rw [HSZ.out]; omega, by rw [HSZ.out]; exact HP2, HS, (by repeat (first | exact Below.refl _ _ | refine Below.drew ?_ | refine below_drewN ?_ _ | refine Below.allocC ?_ _ | refine Below.setCell ?_ (by first | (simp; done) | (simp; omega)) _ | refine Below.chain ?_ (by assumption)))⟩
    case measure => simp [intOf]; have := HX.out; have := HZ.out; omega
   ·have hyn : y < 0 := by omega
    have hyneg : -y = (d : Int) := by omega
    have hyw : IntKind.i64.wrap (-y) = (d : Int) := by rw [IntKind.wrap_i64]; omega
    clear hyd hx hd0;go_wp2_with fail;refine (K.out _).mono ?_;rintro e w1 ⟨rfl, rfl⟩;go_wp2;go_roundw
    case rel => exact ⟨m / 10, z, ⟨#[ch]⟩ ++ t, rfl, HZ.out, rfl, hmd, by rw [HSZ.out]; omega, by rw [HSZ.out]; exact HP2, HS, (by repeat (first | exact Below.refl _ _ | refine Below.drew ?_ | refine below_drewN ?_ _ | refine Below.allocC ?_ _ | refine Below.setCell ?_ (by first | (simp; done) | (simp; omega)) _ | refine Below.chain ?_ (by assumption)))⟩
    case measure => simp [intOf]; have := HX.out; have := HZ.out; omega
  ·have hz : m = 0 := by omega
   subst hz;have hx0 : x = 0 := by omega
   subst hx0;have hth : t.size ≤ 20 := by omega
   have HXX := Lib.hid (show decS n = ⟨#[45]⟩ ++ t from by rw [HF.out, HE.out]; simp [decHead]);have q4 : (⟨#[45]⟩ : ByteArray).size = 1 := rfl;clear hx;go_wp2;go_ret;exact ⟨by rw [HXX.out]; rfl, hb⟩
theorem specDecimal_c (n : Int) (w : World) (h0 : -9223372036854775808 ≤ n) (h1 : n ≤ 9223372036854775807) :
 Calls Tryz.prog 199 #[.int .i64 n] w fun e w' => e = .returned (.string (decS n)) ∧ Below w.heap.size w w' := by
 rcases Int.lt_trichotomy n 0 with h | h | h
 ·obtain ⟨u, rfl⟩ : ∃ u : Nat, n = -(u : Int) := ⟨n.natAbs, by omega⟩;exact specDecimal_neg u w (by omega) (by omega)
 ·subst h;have HX := Lib.hid (show decS 0 = ⟨#[48]⟩ from by unfold decS Lib.itoa; rw [if_neg (by omega)]; rw [show (0 : Int).toNat = 0 from rfl, dec_one (by omega)]; rfl);go_enter Tryz.func199, Tryz.ntmps199;go_wp2;go_ret;exact ⟨by rw [HX.out]; rfl, Below.refl _ _⟩
 ·obtain ⟨u, rfl⟩ : ∃ u : Nat, n = (u : Int) := ⟨n.toNat, by omega⟩;exact specDecimal_pos u w (by omega) (by omega)
def DecTab (w : World) : Prop := Lib.TabIs Tryz.prog w "internal/strconv.uint64pow10" .u64 Lib.pow10Tab
theorem DecTab.below {w W : World} (h : DecTab w) (hb : Below w.heap.size w W) : DecTab W := tab_below h hb
theorem below_growN (w : World) (k : Nat) (os : Array Obj) : Below w.heap.size w (Sort.grow (w.drewN k) os) := by
 refine Below.trans (below_drewN (Below.refl _ _) k) ?_;refine ⟨rfl, rfl, rfl, ?_, fun b hb => ?_⟩
 ·simp [Sort.grow]
 ·have hb' : b < (w.drewN k).heap.size := Nat.lt_of_lt_of_le hb (below_drewN (Below.refl w.heap.size w) k).size;show ((w.drewN k).heap ++ os)[b]? = _;rw [Array.getElem?_append_left hb']
theorem implDecimal_c (n : Int) (w : World) (h0 : -9223372036854775808 ≤ n) (h1 : n ≤ 9223372036854775807) (ht : DecTab w) :
 Calls Tryz.prog 112 #[.int .i64 n] w fun e w' => e = .returned (.string (decS n)) ∧ Below w.heap.size w w' := by
 have K := Lib.hid (Tryz.strconv_Itoa n h0 h1 w ht);clear ht;go_enter Tryz.func112, Tryz.ntmps112;go_wp2_with fail;refine K.out.mono ?_;rintro e w1 ⟨rfl, k, os, hw⟩;have HB := Lib.hid (show Below w.heap.size w w1 by rw [hw]; exact below_growN w k os);clear hw;go_wp2;go_ret;exact ⟨rfl, HB.out⟩
def keyNumS (h : ByteArray) (n : Int) (t : ByteArray) : ByteArray := h ++ decS n ++ t
theorem keyNumS_size (h : ByteArray) (n : Int) (t : ByteArray) (h0 : -9223372036854775808 ≤ n) (h1 : n ≤ 9223372036854775807) : (keyNumS h n t).size ≤ h.size + 20 + t.size := by
 unfold keyNumS;rw [ByteArray.size_append, ByteArray.size_append];have := decS_size n h0 h1;omega
set_option maxHeartbeats 1000000 in
theorem implKeyNum_c (h : ByteArray) (n : Int) (t : ByteArray) (w : World) (h0 : -9223372036854775808 ≤ n) (h1 : n ≤ 9223372036854775807) (hh : h.size ≤ 4611686018427387904) (htl : t.size ≤ 4611686018427387000) (ht : DecTab w) :
 Calls Tryz.prog 159 #[.string h, .int .i64 n, .string t] w fun e w' => e = .returned (.string (keyNumS h n t)) ∧ Below w.heap.size w w' := by
 have K := Lib.hid (implDecimal_c n w h0 h1 ht);have hs := decS_size n h0 h1;have HX := Lib.hid (show keyNumS h n t = h ++ decS n ++ t from rfl);generalize decS n = d at *;have hz : (h ++ d).size = h.size + d.size := ByteArray.size_append;clear ht;go_enter Tryz.func159, Tryz.ntmps159;go_wp2_with fail;refine K.out.mono ?_;rintro e w1 ⟨rfl, hb1⟩;go_wp2;go_ret;exact ⟨by rw [HX.out]; rfl, hb1⟩
set_option maxHeartbeats 1000000 in
theorem specKeyNum_c (h : ByteArray) (n : Int) (t : ByteArray) (w : World) (h0 : -9223372036854775808 ≤ n) (h1 : n ≤ 9223372036854775807) (hh : h.size ≤ 4611686018427387904) (htl : t.size ≤ 4611686018427387000) :
 Calls Tryz.prog 176 #[.string h, .int .i64 n, .string t] w fun e w' => e = .returned (.string (keyNumS h n t)) ∧ Below w.heap.size w w' := by
 have K := Lib.hid (specDecimal_c n w h0 h1);have hs := decS_size n h0 h1;have HX := Lib.hid (show keyNumS h n t = h ++ decS n ++ t from rfl);generalize decS n = d at *;have hz : (h ++ d).size = h.size + d.size := ByteArray.size_append;go_enter Tryz.func176, Tryz.ntmps176;go_wp2_with fail;refine K.out.mono ?_;rintro e w1 ⟨rfl, hb1⟩;go_wp2;go_ret;exact ⟨by rw [HX.out]; rfl, hb1⟩
def numIs (s : ByteArray) (n : Nat) : Prop := n ≤ 1000000000 ∧ Lib.decDigits n = s.data.toList
def decVal (l : List UInt8) : Nat := l.foldl (fun a c => 10 * a + (c.toNat - 48)) 0
theorem decVal_snoc (l : List UInt8) (c : UInt8) : decVal (l ++ [c]) = 10 * decVal l + (c.toNat - 48) := by simp [decVal, List.foldl_append]
theorem dig_nat (d : Nat) (h : d < 10) : (UInt8.ofNat (48 + d)).toNat = 48 + d := by rw [UInt8.toNat_ofNat', Nat.mod_eq_of_lt (by omega)]
theorem decVal_dec : ∀ (k u : Nat), u ≤ k → decVal (Lib.decDigits u) = u
 | 0, u, h => by
  obtain rfl : u = 0 := by omega
  rw [dec_one (by omega)]; rfl
 | k + 1, u, h => by
  by_cases h1 : u < 10
  ·rw [dec_one h1];simp only [decVal, List.foldl_cons, List.foldl_nil];rw [dig_nat u h1]; omega
  ·rw [dec_more h1, decVal_snoc, decVal_dec k (u / 10) (by omega), dig_nat _ (Nat.mod_lt _ (by omega))];omega
theorem dec_digits : ∀ (k u : Nat), u ≤ k → ∀ c ∈ Lib.decDigits u, 48 ≤ c.toNat ∧ c.toNat ≤ 57
 | k, u, h, c, hc => by
  by_cases h1 : u < 10
  ·rw [dec_one h1] at hc;have hc := List.mem_singleton.1 hc;rw [hc, dig_nat u h1]; omega
  ·rw [dec_more h1] at hc;rcases List.mem_append.1 hc with hc | hc
   ·match k, h with
    | 0, h => omega
    | k + 1, h => exact dec_digits k (u / 10) (by omega) c hc
   ·have hc := List.mem_singleton.1 hc;rw [hc, dig_nat _ (Nat.mod_lt _ (by omega))]; omega
theorem numIs_val {s : ByteArray} {n : Nat} (h : numIs s n) : decVal s.data.toList = n := by rw [← h.2]; exact decVal_dec n n (Nat.le_refl _)
open Classical in
noncomputable def readOk (s : ByteArray) : Bool := decide (∃ n, numIs s n)
open Classical in
noncomputable def readV (s : ByteArray) : Int := if ∃ n, numIs s n then (decVal s.data.toList : Int) else 0
open Classical in
theorem read_yes {s : ByteArray} {n : Nat} (h : numIs s n) : readOk s = true ∧ readV s = (n : Int) := by
 refine ⟨by unfold readOk; exact decide_eq_true ⟨n, h⟩, ?_⟩;unfold readV;rw [if_pos ⟨n, h⟩, numIs_val h]
open Classical in
theorem read_no {s : ByteArray} (h : ∀ n, ¬ numIs s n) : readOk s = false ∧ readV s = 0 := by
 have h' : ¬ ∃ n, numIs s n := fun ⟨n, hn⟩ => h n hn;exact ⟨by unfold readOk; exact decide_eq_false h', by unfold readV; rw [if_neg h']⟩
open Classical in
theorem read_ok {s : ByteArray} (h : readOk s = true) : ∃ n, numIs s n := by unfold readOk at h; exact of_decide_eq_true h
theorem readV_bounds (s : ByteArray) : 0 ≤ readV s ∧ readV s ≤ 1000000000 := by
 cases h : readOk s with
 | true =>
  obtain ⟨n, hn⟩ := read_ok h;rw [(read_yes hn).2];have := hn.1;omega
 | false =>
  have : readV s = 0 := (read_no (fun n hn => by rw [(read_yes hn).1] at h; cases h)).2;omega
theorem decS_nat (n : Nat) : decS (n : Int) = ⟨(Lib.decDigits n).toArray⟩ := by
 unfold decS Lib.itoa; rw [if_neg (by omega)]; simp
theorem numIs_of {s : ByteArray} {n : Nat} (hn : n ≤ 1000000000) (h : decS (n : Int) = s) : numIs s n := ⟨hn, by rw [← h, decS_nat]⟩
theorem numIs_dec {s : ByteArray} {n : Nat} (h : numIs s n) : decS (n : Int) = s := by
 rw [decS_nat, h.2]
theorem parse_snoc (l : List UInt8) (c : UInt8) : ∀ acc, Lib.parseUint10 acc (l ++ [c]) = match Lib.parseUint10 acc l with | .ok a => Lib.parseUint10 a [c] | r => r := by
 induction l with
 | nil => intro acc; simp [Lib.parseUint10]
 | cons d l ih =>
  intro acc;rw [List.cons_append];simp only [Lib.parseUint10];split
  ·split
   ·rfl
   ·split
    ·rfl
    ·rw [ih]; simp only [Lib.parseUint10]
  ·rfl
theorem parse_dec : ∀ (k u : Nat), u ≤ k → u ≤ 1000000000 → Lib.parseUint10 0 (Lib.decDigits u) = .ok u
 | k, u, h, hu => by
  have one : ∀ a d : Nat, d < 10 → a ≤ 1000000000 → Lib.parseUint10 a [UInt8.ofNat (48 + d)] = .ok (10 * a + d) := fun a d hd ha => by
   simp only [Lib.parseUint10];rw [dig_nat d hd, if_pos (by omega), if_neg (by omega), if_neg (by omega)];congr 1;omega
  by_cases h1 : u < 10
  ·rw [dec_one h1, one 0 u h1 (by omega)]; simp
  ·match k, h with
   | 0, h => omega
   | k + 1, h =>
    rw [dec_more h1, parse_snoc, parse_dec k (u / 10) (by omega) (by omega)];show Lib.parseUint10 (u / 10) [UInt8.ofNat (48 + u % 10)] = _;rw [one (u / 10) (u % 10) (Nat.mod_lt _ (by omega)) (by omega)];congr 1;omega
theorem atoi_dec {s : ByteArray} {n : Nat} (h : numIs s n) : Lib.atoiAll s.data.toList = .ok (n : Int) := by
 rw [← h.2];have hp := parse_dec n n (Nat.le_refl _) h.1;have hne : Lib.decDigits n ≠ [] := by
  rw [Lib.decDigits]; split <;> simp
 have hd := dec_digits n n (Nat.le_refl _);cases hl : Lib.decDigits n with
 | nil => exact absurd hl hne
 | cons c r =>
  rw [hl] at hp hd;have hc := hd c (by simp);unfold Lib.atoiAll;simp only;rw [if_neg (by omega)];unfold Lib.parseMag;rw [if_neg (by simp), hp];simp only;have hn := h.1;rw [if_neg (by omega), if_neg (by omega), if_neg (by omega)]
def NumErr (w : World) : Prop := (∃ tp p, w.var? Tryz.prog "strconv.ErrSyntax" = some #[.iface tp p]) ∧ (∃ tp p, w.var? Tryz.prog "strconv.ErrRange" = some #[.iface tp p])
theorem var_below {P : Program} {w W : World} {name : String} {cs : Array Value} (h : w.var? P name = some cs) (hb : Below w.heap.size w W) : W.var? P name = some cs := by
 unfold World.var? at *;cases hg : P.globalNamed name with
 | none => simp [hg] at h
 | some g =>
  simp only [hg, Option.bind_some] at h ⊢;have hlt : g < w.heap.size := by
   rcases Nat.lt_or_ge g w.heap.size with h' | h'
   ·exact h'
   ·simp [Array.getElem?_eq_none h'] at h
  rw [hb.block g hlt];exact h
theorem NumErr.below {w W : World} (h : NumErr w) (hb : Below w.heap.size w W) : NumErr W := by
 obtain ⟨⟨t, p, h1⟩, ⟨t2, p2, h2⟩⟩ := h;exact ⟨⟨t, p, var_below h1 hb⟩, ⟨t2, p2, var_below h2 hb⟩⟩
set_option maxHeartbeats 4000000 in
theorem implReadDec_c (s : ByteArray) (w : World) (hs : s.size ≤ 281474976710656) (ht : DecTab w) (hE : NumErr w) :
 Calls Tryz.prog 211 #[.string s] w fun e w' => e = .returned (.tuple #[.int .i64 (readV s), .bool (readOk s)]) ∧ Below w.heap.size w w' := by
 obtain ⟨⟨t1, p1, hv1⟩, ⟨t2, p2, hv2⟩⟩ := hE;have HT := Lib.hid ht;cases ho : Lib.atoiAll s.data.toList
 rotate_left
 ·have HV := Lib.hid (read_no (s := s) (fun n hn => by rw [atoi_dec hn] at ho; cases ho));have K := Lib.hid (Tryz.strconv_Atoi_syntax_var s hs ho t1 p1 w hv1);clear ht ho hv1 hv2;go_enter Tryz.func211, Tryz.ntmps211;go_wp2_with fail;refine K.out.mono ?_;rintro e w1 ⟨N, rfl, _, _, hb1⟩;go_wp2;go_ret2;exact ⟨by rw [HV.out.1, HV.out.2]; rfl, hb1⟩
 ·have HV := Lib.hid (read_no (s := s) (fun n hn => by rw [atoi_dec hn] at ho; cases ho));have K := Lib.hid (Tryz.strconv_Atoi_range_var s hs ho t2 p2 w hv2);clear ht ho hv1 hv2;go_enter Tryz.func211, Tryz.ntmps211;go_wp2_with fail;refine K.out.mono ?_;rintro e w1 ⟨N, rfl, _, _, hb1⟩;go_wp2;go_ret2;exact ⟨by rw [HV.out.1, HV.out.2]; rfl, hb1⟩
 ·rename_i v;have K := Lib.hid (Tryz.strconv_Atoi_ok s (by omega) v ho w);have HW : Hid (∀ w', (w' = w ∨ ∃ t, w' = Lib.bytesWorld w 5 t) → Below w.heap.size w w') := Lib.hid (fun w' h => by
   rcases h with rfl | ⟨t, rfl⟩
   ·exact Below.refl _ _
   ·exact Lib.bytesWorld_below w _ t)
  have hv : ∀ n, numIs s n → v = (n : Int) := fun n hn => by rw [atoi_dec hn] at ho; cases ho; rfl
  clear ht ho hv1 hv2;cases hi : inB v 0 1000000000 with
  | false =>
   have HV := Lib.hid (read_no (s := s) (fun n hn => by
    have := hv n hn;have := hn.1;have := inB_false hi;omega))
   have HI := Lib.hid (fun W => within_c v 0 1000000000 W);rw [hi] at HI;clear hv hi;go_enter Tryz.func211, Tryz.ntmps211;go_wp2_with fail;refine K.out.mono ?_;rintro e w1 ⟨rfl, hw1⟩;have hb1 := HW.out w1 hw1;clear hw1;go_wp2_with fail;refine (HI.out _).mono ?_;rintro e w2 ⟨rfl, rfl⟩;go_wp2;go_ret2;exact ⟨by rw [HV.out.1, HV.out.2]; rfl, hb1⟩
  | true =>
   have hin := inB_iff.1 hi;obtain ⟨n, rfl⟩ : ∃ n : Nat, v = (n : Int) := ⟨v.toNat, by omega⟩;have HI := Lib.hid (fun W => within_c (n : Int) 0 1000000000 W);rw [hi] at HI;have HD := Lib.hid (fun (W : World) (hW : Below w.heap.size w W) => implDecimal_c (n : Int) W (by omega) (by omega) (DecTab.below HT.out hW));by_cases he : decS (n : Int) = s
   ·have HV := Lib.hid (read_yes (numIs_of (by omega) he));rw [he] at HD;clear hv hi hin he;go_enter Tryz.func211, Tryz.ntmps211;go_wp2_with fail;refine K.out.mono ?_;rintro e w1 ⟨rfl, hw1⟩;have hb1 := HW.out w1 hw1;clear hw1;go_wp2_with fail;refine (HI.out _).mono ?_;rintro e w2 ⟨rfl, rfl⟩;go_wp2_with fail;refine (HD.out _ hb1).mono ?_;rintro e w2 ⟨rfl, hb2⟩;have B2 : Below w.heap.size w w2 := hb1.trans (hb2.mono hb1.size);go_wp2;go_ret2;exact ⟨by rw [HV.out.1, HV.out.2]; rfl, B2⟩
   ·have HV := Lib.hid (read_no (s := s) (fun m hm => he (by rw [hv m hm]; exact numIs_dec hm)));have f1 := beq_toList_false he;have f2 := bne_toList_true he;have f3 := toList_ne he;generalize decS (n : Int) = t at *;clear hv hi hin he;go_enter Tryz.func211, Tryz.ntmps211;go_wp2_with fail;refine K.out.mono ?_;rintro e w1 ⟨rfl, hw1⟩;have hb1 := HW.out w1 hw1;clear hw1;go_wp2_with fail;refine (HI.out _).mono ?_;rintro e w2 ⟨rfl, rfl⟩;go_wp2_with fail;refine (HD.out _ hb1).mono ?_;rintro e w2 ⟨rfl, hb2⟩;have B2 : Below w.heap.size w w2 := hb1.trans (hb2.mono hb1.size);go_wp2;go_ret2;exact ⟨by rw [HV.out.1, HV.out.2]; rfl, B2⟩
set_option maxHeartbeats 4000000 in
theorem specReadDec_c (s : ByteArray) (w : World) :
 Calls Tryz.prog 222 #[.string s] w fun e w' => e = .returned (.tuple #[.int .i64 (readV s), .bool (readOk s)]) ∧ Below w.heap.size w w' := by
 by_cases h10 : (10 : Int) < (s.size : Int)
 ·have HV := Lib.hid (read_no (s := s) (fun n hn => by
   have := dec_len 10 n (by decide) (by have := hn.1; omega);rw [hn.2] at this;simp at this;omega))
  go_enter Tryz.func222, Tryz.ntmps222;go_wp2;go_ret2;exact ⟨by rw [HV.out.1, HV.out.2]; rfl, Below.refl _ _⟩
 ·go_enter Tryz.func222, Tryz.ntmps222;go_wp2;go_loop [4, 5] (fun a i => ∃ k m : Nat, k ≤ s.size ∧ i = .int .i64 k ∧ a = .int .i64 m ∧ Hid (m = decVal (s.data.toList.take k)) ∧ Hid (m < 10 ^ k)) (fun _ i => s.size - (intOf i).toNat)
  case atStart => exact ⟨0, 0, Nat.zero_le _, rfl, rfl, Lib.hid rfl, Lib.hid (by decide)⟩
  case round =>
   obtain ⟨k, m, hk, rfl, rfl, HM, HB⟩ := hrel;have hmb : m ≤ 10000000000 := by
    have h1 := HB.out;have h2 : 10 ^ k ≤ 10 ^ 10 := Nat.pow_le_pow_right (by decide) (by omega);have h3 : (10 : Nat) ^ 10 = 10000000000 := by decide
    omega
   have p1 : (0 : Int) ≤ (k : Int) := by omega
   have pm : (0 : Int) ≤ (m : Int) := by omega
   by_cases hlt : k < s.size
   ·have p2 : (k : Int) < (s.size : Int) := by omega
    have hmem : s[k] ∈ s.data.toList := List.getElem_mem (l := s.data.toList) (n := k) (by simpa using hlt);have q0 : (0 : Int) ≤ (s[k].toNat : Int) := by omega
    have hn255 : (s[k].toNat : Int) ≤ 255 := by have := s[k].toNat_lt; omega
    by_cases h1 : (s[k].toNat : Int) < 48
    ·have HV := Lib.hid (read_no (s := s) (fun n hn => by
      have := dec_digits n n (Nat.le_refl _) s[k] (by rw [hn.2]; exact hmem);omega))
     clear hmem;go_wp2;go_ret2;exact ⟨by rw [HV.out.1, HV.out.2]; rfl, Below.refl _ _⟩
    ·by_cases h2 : (57 : Int) < (s[k].toNat : Int)
     ·have HV := Lib.hid (read_no (s := s) (fun n hn => by
       have := dec_digits n n (Nat.le_refl _) s[k] (by rw [hn.2]; exact hmem);omega))
      clear hmem;go_wp2;go_ret2;exact ⟨by rw [HV.out.1, HV.out.2]; rfl, Below.refl _ _⟩
     ·have HS := Lib.hid (show 10 * m + (s[k].toNat - 48) = decVal (s.data.toList.take (k + 1)) from by
       rw [List.take_succ_eq_append_getElem (by simpa using hlt), decVal_snoc, ← HM.out]; rfl)
      have HS2 := Lib.hid (show 10 * m + (s[k].toNat - 48) < 10 ^ (k + 1) from by
       have := HB.out;rw [Nat.pow_succ]; omega)
      have HCast := Lib.hid (show ((10 * m + (s[k].toNat - 48) : Nat) : Int) = 10 * (m : Int) + (s[k].toNat : Int) - 48 from by omega);clear hmem;go_wp2;go_round
      case rel => exact ⟨k + 1, 10 * m + (s[k].toNat - 48), by omega, by go_num, by rw [HCast.out], HS, HS2⟩
      case measure => simp [intOf]; omega
   ·obtain rfl : k = s.size := by omega
    have p2 : ¬ (s.size : Int) < (s.size : Int) := by omega
    have HM2 := Lib.hid (show decVal s.data.toList = m from by rw [HM.out, List.take_of_length_le (by simp)]);by_cases hbig : (1000000000 : Int) < (m : Int)
    ·have HV := Lib.hid (read_no (s := s) (fun n hn => by
      have := numIs_val hn;rw [HM2.out] at this;have := hn.1;omega))
     go_wp2;go_ret2;exact ⟨by rw [HV.out.1, HV.out.2]; rfl, Below.refl _ _⟩
    ·have HD := Lib.hid (fun (W : World) => specDecimal_c (m : Int) W (by omega) (by omega));by_cases he : decS (m : Int) = s
     ·have HV := Lib.hid (read_yes (numIs_of (by omega) he));rw [he] at HD;clear he;go_wp2_with fail;refine (HD.out _).mono ?_;rintro e w2 ⟨rfl, hb2⟩;go_wp2;go_ret2;exact ⟨by rw [HV.out.1, HV.out.2]; rfl, hb2⟩
     ·have HV := Lib.hid (read_no (s := s) (fun n hn => he (by
       have := numIs_val hn;rw [HM2.out] at this;rw [this]; exact numIs_dec hn)))
      have f1 := beq_toList_false he;have f2 := bne_toList_true he;have f3 := toList_ne he;generalize decS (m : Int) = t at *;clear he;go_wp2_with fail;refine (HD.out _).mono ?_;rintro e w2 ⟨rfl, hb2⟩;go_wp2;go_ret2;exact ⟨by rw [HV.out.1, HV.out.2]; rfl, hb2⟩
noncomputable def numOfV (s : ByteArray) : Int := if 999 < readV s then 0 else readV s
theorem numOf_bounds (s : ByteArray) : 0 ≤ numOfV s ∧ numOfV s ≤ 999 := by
 have := readV_bounds s;unfold numOfV; split <;> omega
theorem implNumOf_c (s : ByteArray) (w : World) (hs : s.size ≤ 281474976710656) (ht : DecTab w) (hE : NumErr w) :
 Calls Tryz.prog 171 #[.string s] w fun e w' => e = .returned (.int .i64 (numOfV s)) ∧ Below w.heap.size w w' := by
 have K := Lib.hid (implReadDec_c s w hs ht hE);clear ht hE;have HX := Lib.hid (show numOfV s = if 999 < readV s then 0 else readV s from rfl);generalize readV s = n at *;by_cases h : 999 < n
 ·have HY := Lib.hid (HX.out.trans (if_pos h));go_enter Tryz.func171, Tryz.ntmps171;go_wp2_with fail;refine K.out.mono ?_;rintro e w1 ⟨rfl, hb1⟩;go_wp2;go_ret;exact ⟨by rw [HY.out]; rfl, hb1⟩
 ·have HY := Lib.hid (HX.out.trans (if_neg h));go_enter Tryz.func171, Tryz.ntmps171;go_wp2_with fail;refine K.out.mono ?_;rintro e w1 ⟨rfl, hb1⟩;go_wp2;go_ret;exact ⟨by rw [HY.out]; rfl, hb1⟩
theorem specNumOf_c (s : ByteArray) (w : World) :
 Calls Tryz.prog 192 #[.string s] w fun e w' => e = .returned (.int .i64 (numOfV s)) ∧ Below w.heap.size w w' := by
 have K := Lib.hid (specReadDec_c s w);have HX := Lib.hid (show numOfV s = if 999 < readV s then 0 else readV s from rfl);cases ho : readOk s with
 | false =>
  have HZ := Lib.hid (show numOfV s = 0 by
   have : readV s = 0 := (read_no (fun n hn => by rw [(read_yes hn).1] at ho; cases ho)).2;rw [HX.out, this]; rfl)
  rw [ho] at K;clear ho;generalize readV s = n at *;go_enter Tryz.func192, Tryz.ntmps192;go_wp2_with fail;refine K.out.mono ?_;rintro e w1 ⟨rfl, hb1⟩;go_wp2;go_ret;exact ⟨by rw [HZ.out]; rfl, hb1⟩
 | true =>
  rw [ho] at K;clear ho;generalize readV s = n at *;by_cases h : 999 < n
  ·have HY := Lib.hid (HX.out.trans (if_pos h));go_enter Tryz.func192, Tryz.ntmps192;go_wp2_with fail;refine K.out.mono ?_;rintro e w1 ⟨rfl, hb1⟩;go_wp2;go_ret;exact ⟨by rw [HY.out]; rfl, hb1⟩
  ·have HY := Lib.hid (HX.out.trans (if_neg h));go_enter Tryz.func192, Tryz.ntmps192;go_wp2_with fail;refine K.out.mono ?_;rintro e w1 ⟨rfl, hb1⟩;go_wp2;go_ret;exact ⟨by rw [HY.out]; rfl, hb1⟩
end Go.Proofs.YtihghflppegnmaaGreatDoor
namespace Go.Proofs.YtihghflppegnmaaGreatDoor
open Go.ChangeShapes Go.WideShapes Go.ChangeAt Go.RowKit
attribute [local go_sem ↓] Go.wp_at_zero Go.wp_at_succ
def NumTab (w : World) : Prop := DecTab w ∧ NumErr w
theorem MAt.grow {w w' : World} {p base : Nat} {v1 v2 v3 : Value} {m : Mch} (h : MAt w p base v1 v2 v3 m) (g : Grow3 w w' p v1 v2 v3) : Below base w w' :=
 ⟨g.os, g.tape, g.output, g.size, fun k hk => g.block k (Nat.lt_of_lt_of_le hk h.hb) (by have := h.hp; omega) (fun e => by have := (h.o1.lt k e).1; omega) (fun e => by have := (h.o2.lt k e).1; omega) (fun e => by have := (h.o3.lt k e).1; omega)⟩
structure MOk (n : Nat) (m : Mch) : Prop where
 l1 : m.st.length ≤ n
 l2 : m.rs.length ≤ n
 l3 : m.ws.length ≤ n
 sz : ∀ x ∈ m.st, x.1.size ≤ 1048576 ∧ x.2.size ≤ 1048576
def lookM (m : Mch) (key : ByteArray) : Mch := ⟨m.st, addS m.rs key, m.ws⟩
def layM (m : Mch) (key val : ByteArray) : Mch := ⟨putKeyS m.st key val, m.rs, addS m.ws key⟩
theorem get_sz {xs : List (ByteArray × ByteArray)} (h : ∀ x ∈ xs, x.1.size ≤ 1048576 ∧ x.2.size ≤ 1048576) (k : ByteArray) : (getKeyS xs k).size ≤ 1048576 := by
 unfold getKeyS;split
 ·rename_i c hc; exact (h c (List.mem_of_getElem? hc)).2
 ·exact Nat.zero_le _
theorem MOk.look {n : Nat} {m : Mch} (h : MOk n m) (key : ByteArray) : MOk (n + 1) (lookM m key) :=
 ⟨Nat.le_succ_of_le h.l1, Nat.le_trans (addS_len m.rs key) (Nat.succ_le_succ h.l2), Nat.le_succ_of_le h.l3, h.sz⟩
theorem keyOkB_size {k : ByteArray} (h : keyOkB k = true) : k.size ≤ 40 := by
 unfold keyOkB at h;simp only [Bool.and_eq_true] at h;have := (inB_iff.1 h.2).2;omega
theorem putKeyS_mem2 {z : ByteArray × ByteArray} {xs : List (ByteArray × ByteArray)} {key val : ByteArray} (h : z ∈ putKeyS xs key val) : (z = (key, val) ∧ keyOkB key = true ∧ val.size ≤ 60) ∨ z ∈ xs := by
 unfold putKeyS at h;split at h
 ·exact .inr h
 ·rename_i hc;rw [not_or, Bool.not_eq_false] at hc;rcases putV_mem h with h | h
  ·exact .inl ⟨h, hc.1, by omega⟩
  ·exact .inr h
theorem MOk.lay {n : Nat} {m : Mch} (h : MOk n m) (key val : ByteArray) : MOk (n + 1) (layM m key val) :=
 ⟨Nat.le_trans (putKeyS_len m.st key val) (Nat.succ_le_succ h.l1), Nat.le_succ_of_le h.l2, Nat.le_trans (addS_len m.ws key) (Nat.succ_le_succ h.l3), fun x hx => by
  rcases putKeyS_mem2 hx with ⟨rfl, h1, h2⟩ | hx
  ·exact ⟨Nat.le_trans (keyOkB_size h1) (by decide), Nat.le_trans h2 (by decide)⟩
  ·exact h.sz x hx⟩
set_option maxHeartbeats 2000000 in
theorem look_c (p base : Nat) (v1 v2 v3 : Value) (m : Mch) (key : ByteArray) (w : World) (h : MAt w p base v1 v2 v3 m) (ho : MOk 2000000000000 m) :
 Calls Tryz.prog 169 #[.pointer (some ⟨p, 0, none⟩), .string key] w (MStep p base v1 v2 v3 (lookM m key) (.string (getKeyS m.st key)) w) := by
 have H := Lib.hid h;have K := Lib.hid (addSpan_c v2 base m.rs key w (by have := ho.l2; omega) h.o2 h.hb);have c1 := h.box.cell 1 _ rfl;have hl := ho.l1;clear h ho;go_enter Tryz.func169, Tryz.ntmps169;go_wp2_with fail;refine K.out.mono ?_;rintro e w1 ⟨u, rfl, ho, hg, hor⟩;obtain ⟨au, ku, hvu, _⟩ := reads_of_owns encS_len ho;subst hvu;obtain ⟨hs, hgr, hbx⟩ := H.out.set2 (xs := addS m.rs key) ho hg hor;have HS := Lib.hid hs;have HG := Lib.hid hgr;have HOR := Lib.hid hor;have d1 := hbx.cell 1 _ rfl;have z1 := hbx.free 1;have d0 := hbx.cell 0 _ rfl;obtain ⟨a1, k1, hv1, hrd⟩ := reads_of_owns encC_len hs.o1;subst hv1;have KG := Lib.hid (implGetKey_c a1 k1 m.st key _ (by unfold maxLen; omega) hrd);clear ho hg hor hs hgr hbx c1 hrd K;go_wp2_with fail;refine KG.out.mono ?_;rintro e w3 ⟨rfl, hb3⟩;have HEND := Lib.hid (MStep.next HG.out (.inl rfl) HOR.out (.inl rfl) (HS.out.step hb3 (.string (getKeyS m.st key))));clear hb3 HG HS HOR KG d0 d1 z1;go_wp2;go_ret;exact HEND.out
set_option maxHeartbeats 2000000 in
theorem lay_c (p base : Nat) (v1 v2 v3 : Value) (m : Mch) (key val : ByteArray) (w : World) (h : MAt w p base v1 v2 v3 m) (ho : MOk 2000000000000 m) (hk : key.size ≤ maxLen) (hv : val.size ≤ maxLen) :
 Calls Tryz.prog 157 #[.pointer (some ⟨p, 0, none⟩), .string key, .string val] w (MStep p base v1 v2 v3 (layM m key val) (.tuple #[]) w) := by
 have H := Lib.hid h;have K := Lib.hid (addSpan_c v3 base m.ws key w (by have := ho.l3; omega) h.o3 h.hb);have c2 := h.box.cell 2 _ rfl;have hl := ho.l1;clear h ho;go_enter Tryz.func157, Tryz.ntmps157;go_wp2_with fail;refine K.out.mono ?_;rintro e w1 ⟨u, rfl, ho, hg, hor⟩;obtain ⟨au, ku, hvu, _⟩ := reads_of_owns encS_len ho;subst hvu;obtain ⟨hs, hgr, hbx⟩ := H.out.set3 (xs := addS m.ws key) ho hg hor;have HS := Lib.hid hs;have HG := Lib.hid hgr;have HOR := Lib.hid hor;have d2 := hbx.cell 2 _ rfl;have z2 := hbx.free 2;have d0 := hbx.cell 0 _ rfl;have KP := Lib.hid (put_c v1 base m.st key val _ (by omega) hs.o1 hs.hb hk hv);clear ho hg hor hs hgr hbx c2 K;go_wp2_with fail;refine KP.out.mono ?_;rintro e w3 ⟨u1, rfl, ho1, hg1, hor1⟩;obtain ⟨ax, kx, hvx, _⟩ := reads_of_owns encC_len ho1;subst hvx;obtain ⟨hs1, hgr1, hbx1⟩ := HS.out.set1 (xs := putKeyS m.st key val) ho1 hg1 hor1;have e0 := hbx1.cell 0 _ rfl;have y0 := hbx1.free 0;have HEND := Lib.hid (MStep.next HG.out (.inl rfl) (.inl rfl) HOR.out (⟨_, v2, _, rfl, hs1, hgr1, hor1, .inl rfl, .inl rfl⟩ : MStep p base v1 v2 (.slice au (addS m.ws key).length ku) (layM m key val) (.tuple #[]) _ (.returned (.tuple #[])) _));clear ho1 hg1 hor1 hs1 hgr1 hbx1 d0 d2 z2 HS HG HOR KP;go_wp2;exact bodyPost_ret (v := .tuple #[]) (by simp [results, Tryz.results157, go_sem]) rfl HEND.out
set_option maxHeartbeats 2000000 in
theorem num_c (p base : Nat) (v1 v2 v3 : Value) (m : Mch) (key : ByteArray) (w : World) (h : MAt w p base v1 v2 v3 m) (ho : MOk 2000000000000 m) (HT : ∀ W, Below base w W → NumTab W) :
 Calls Tryz.prog 120 #[.pointer (some ⟨p, 0, none⟩), .string key] w (MStep p base v1 v2 v3 (lookM m key) (.int .i64 (numOfV (getKeyS m.st key))) w) := by
 have H := Lib.hid h;have K := Lib.hid (look_c p base v1 v2 v3 m key w h ho);have hs := get_sz ho.sz key;have HTT := Lib.hid HT;clear h ho HT;generalize getKeyS m.st key = s at *;have KN := Lib.hid (fun W (h : NumTab W) => implNumOf_c s W (by omega) h.1 h.2);generalize numOfV s = n at *;go_enter Tryz.func120, Tryz.ntmps120;go_wp2_with fail;refine K.out.mono ?_;rintro e w1 ⟨u1, u2, u3, rfl, hm, hg, q1, q2, q3⟩;have HM := Lib.hid hm;have HG := Lib.hid hg;have Q1 := Lib.hid q1;have Q2 := Lib.hid q2;have Q3 := Lib.hid q3;have HW := Lib.hid (HTT.out w1 (H.out.grow hg));clear hm hg q1 q2 q3 K;go_wp2_with fail;refine (KN.out _ HW.out).mono ?_;rintro e w2 ⟨rfl, hb⟩;have HEND := Lib.hid (MStep.next HG.out Q1.out Q2.out Q3.out (HM.out.step hb (.int .i64 n)));clear hb;go_wp2;go_ret;exact HEND.out
def numText (n : Int) : ByteArray := if inB n 1 999 then decS n else ⟨#[]⟩
theorem numText_size (n : Int) : (numText n).size ≤ 1000 := by
 unfold numText;cases h : inB n 1 999 with
 | false => exact Nat.zero_le _
 | true =>
  have := inB_iff.1 h;have := decS_size n (by omega) (by omega);rw [if_pos rfl]; omega
def setM (m : Mch) (key : ByteArray) (n : Int) : Mch := layM m key (numText n)
set_option maxHeartbeats 2000000 in
theorem setNum_c (p base : Nat) (v1 v2 v3 : Value) (m : Mch) (key : ByteArray) (n : Int) (w : World) (h : MAt w p base v1 v2 v3 m) (ho : MOk 2000000000000 m) (hk : key.size ≤ maxLen) (HT : ∀ W, Below base w W → NumTab W) :
 Calls Tryz.prog 122 #[.pointer (some ⟨p, 0, none⟩), .string key, .int .i64 n] w (MStep p base v1 v2 v3 (setM m key n) (.tuple #[]) w) := by
 have HTT := Lib.hid HT;have H := Lib.hid h;cases hb : inB n 1 999 with
 | false =>
  have ht : numText n = ⟨#[]⟩ := by unfold numText; rw [hb]; rfl
  have K := Lib.hid (lay_c p base v1 v2 v3 m key ⟨#[]⟩ w h ho hk (Nat.zero_le _));rw [← ht] at K;have HE := Lib.hid ht;clear h ho hk HT ht;go_enter Tryz.func122, Tryz.ntmps122;go_wp2_with (first | (go_at_call 152; refine (within_c _ _ _ _).mono ?_; rintro e w' ⟨rfl, rfl⟩) | fail);have K2 := K.out;rw [HE.out] at K2;refine K2.mono ?_;rintro e w1 hst;have HST := Lib.hid hst;obtain ⟨u1, u2, u3, rfl, hm, hg, q1, q2, q3⟩ := hst;have HEND := Lib.hid (show MStep p base v1 v2 v3 (setM m key n) (.tuple #[]) w (.returned (.tuple #[])) w1 from by
   unfold setM; rw [HE.out]; exact HST.out)
  clear hm hg q1 q2 q3;go_wp2;exact bodyPost_ret (v := .tuple #[]) (by simp [results, Tryz.results122, go_sem]) rfl HEND.out
 | true =>
  have hr := inB_iff.1 hb;have ht : numText n = decS n := by unfold numText; rw [hb]; rfl
  have hs := numText_size n;rw [ht] at hs;have KD := Lib.hid (fun W (h : NumTab W) => implDecimal_c n W (by omega) (by omega) h.1);obtain ⟨dn, hdn⟩ : ∃ dn, decS n = dn := ⟨_, rfl⟩;rw [hdn] at KD hs ht;have HE := Lib.hid ht;have HS := Lib.hid hs;have HO := Lib.hid ho;have HK := Lib.hid hk;clear h ho hk HT ht hs hdn;go_enter Tryz.func122, Tryz.ntmps122;go_wp2_with (first | (go_at_call 152; refine (within_c _ _ _ _).mono ?_; rintro e w' ⟨rfl, rfl⟩) | fail);refine (KD.out _ (HTT.out _ (Below.refl _ _))).mono ?_;rintro e w1 ⟨rfl, hb1⟩;have HB1 := Lib.hid hb1;have K := Lib.hid (lay_c p base v1 v2 v3 m key dn w1 (H.out.below hb1) HO.out HK.out (Nat.le_trans HS.out (by unfold maxLen; omega)));clear hb1;go_wp2_with fail;refine K.out.mono ?_;rintro e w2 ⟨u1, u2, u3, rfl, hm, hg, q1, q2, q3⟩;have HEND := Lib.hid (show MStep p base v1 v2 v3 (setM m key n) (.tuple #[]) w (.returned (.tuple #[])) w2 from by
   unfold setM; rw [HE.out];exact MStep.next (Grow3.of_below HB1.out) (.inl rfl) (.inl rfl) (.inl rfl) ⟨u1, u2, u3, rfl, hm, hg, q1, q2, q3⟩)
  clear hm hg q1 q2 q3 K;go_wp2;exact bodyPost_ret (v := .tuple #[]) (by simp [results, Tryz.results122, go_sem]) rfl HEND.out
theorem MOk.mono {n n' : Nat} {m : Mch} (h : MOk n m) (hn : n ≤ n') : MOk n' m := ⟨Nat.le_trans h.l1 hn, Nat.le_trans h.l2 hn, Nat.le_trans h.l3 hn, h.sz⟩
noncomputable def nextN (m : Mch) (key : ByteArray) : Int := numOfV (getKeyS m.st key) + 1
noncomputable def bumpN (m : Mch) (key : ByteArray) : Int := if 999 < nextN m key then 0 else nextN m key
noncomputable def bumpM (m : Mch) (key : ByteArray) : Mch := if 999 < nextN m key then lookM m key else setM (lookM m key) key (nextN m key)
theorem MStep.back {p base : Nat} {v1 v2 v3 : Value} {m' : Mch} {r r2 : Value} {w w' : World} {e : Ending} (h : MStep p base v1 v2 v3 m' r w e w') : MStep p base v1 v2 v3 m' r2 w (.returned r2) w' := by
 obtain ⟨u1, u2, u3, _, h2⟩ := h;exact ⟨u1, u2, u3, rfl, h2⟩
set_option maxHeartbeats 2000000 in
theorem bump_c (p base : Nat) (v1 v2 v3 : Value) (m : Mch) (key : ByteArray) (w : World) (h : MAt w p base v1 v2 v3 m) (ho : MOk 1900000000000 m) (hk : key.size ≤ maxLen) (HT : ∀ W, Below base w W → NumTab W) :
 Calls Tryz.prog 121 #[.pointer (some ⟨p, 0, none⟩), .string key] w (MStep p base v1 v2 v3 (bumpM m key) (.int .i64 (bumpN m key)) w) := by
 have H := Lib.hid h;have HTT := Lib.hid HT;have K := Lib.hid (num_c p base v1 v2 v3 m key w h (ho.mono (by omega)) HT);have hnb := numOf_bounds (getKeyS m.st key);have HOK := Lib.hid ((ho.look key).mono (show 1900000000000 + 1 ≤ 2000000000000 by omega));have HK := Lib.hid hk;have HBM := Lib.hid (show bumpM m key = if 999 < numOfV (getKeyS m.st key) + 1 then lookM m key else setM (lookM m key) key (numOfV (getKeyS m.st key) + 1) from rfl);have HBN := Lib.hid (show bumpN m key = if 999 < numOfV (getKeyS m.st key) + 1 then 0 else numOfV (getKeyS m.st key) + 1 from rfl);clear h HT ho hk;generalize bumpM m key = bm at *;generalize bumpN m key = bn at *;generalize numOfV (getKeyS m.st key) = n at *;have hw : IntKind.i64.wrap (n + 1) = n + 1 := by rw [IntKind.wrap_i64]; omega
 by_cases hp : 999 < n + 1
 ·have HBM2 := Lib.hid (HBM.out.trans (if_pos hp));have HBN2 := Lib.hid (HBN.out.trans (if_pos hp));clear HBM HBN;go_enter Tryz.func121, Tryz.ntmps121;go_wp2_with fail;refine K.out.mono ?_;rintro e w1 ⟨u1, u2, u3, rfl, hm, hg, q1, q2, q3⟩;have HEND := Lib.hid (show MStep p base v1 v2 v3 bm (.int .i64 bn) w (.returned (.int .i64 0)) w1 from by
   rw [HBM2.out, HBN2.out]; exact ⟨u1, u2, u3, rfl, hm, hg, q1, q2, q3⟩)
  clear hm hg q1 q2 q3 K;go_wp2;go_ret;exact HEND.out
 ·have HBM2 := Lib.hid (HBM.out.trans (if_neg hp));have HBN2 := Lib.hid (HBN.out.trans (if_neg hp));clear HBM HBN;go_enter Tryz.func121, Tryz.ntmps121;go_wp2_with fail;refine K.out.mono ?_;rintro e w1 ⟨u1, u2, u3, rfl, hm, hg, q1, q2, q3⟩;have HG := Lib.hid hg;have Q1 := Lib.hid q1;have Q2 := Lib.hid q2;have Q3 := Lib.hid q3;have HB := Lib.hid (H.out.grow hg);have K2 := Lib.hid (setNum_c p base u1 u2 u3 (lookM m key) key (n + 1) w1 hm HOK.out HK.out (fun W hW => HTT.out W (HB.out.trans hW)));clear hm hg q1 q2 q3 K;go_wp2_with fail;refine K2.out.mono ?_;rintro e w2 hst;have HST := Lib.hid hst;obtain ⟨x1, x2, x3, rfl, _, _, _, _, _⟩ := hst;have HEND := Lib.hid (show MStep p base v1 v2 v3 bm (.int .i64 bn) w (.returned (.int .i64 (n + 1))) w2 from by
   rw [HBM2.out, HBN2.out]; exact (MStep.next HG.out Q1.out Q2.out Q3.out HST.out).back)
  clear HST K2;go_wp2;go_ret;exact HEND.out
def procK (n : Int) (t : ByteArray) : ByteArray := keyNumS ⟨#[114, 47]⟩ n t
theorem procKey_c (n : Int) (t : ByteArray) (w : World) (h0 : -9223372036854775808 ≤ n) (h1 : n ≤ 9223372036854775807) (ht : t.size ≤ 100) (hT : NumTab w) :
 Calls Tryz.prog 123 #[.int .i64 n, .string t] w fun e w' => e = .returned (.string (procK n t)) ∧ Below w.heap.size w w' := by
 have K := Lib.hid (implKeyNum_c ⟨#[114, 47]⟩ n t w h0 h1 (by decide) (by omega) hT.1);clear hT;go_enter Tryz.func123, Tryz.ntmps123;go_wp2_with fail;refine K.out.mono ?_;rintro e w1 ⟨rfl, hb⟩;go_wp2;go_ret;exact ⟨rfl, hb⟩
theorem procK_size (n : Int) (t : ByteArray) (h0 : -9223372036854775808 ≤ n) (h1 : n ≤ 9223372036854775807) (ht : t.size ≤ 100) : (procK n t).size ≤ 1000 := by
 have := keyNumS_size ⟨#[114, 47]⟩ n t h0 h1;have e : (⟨#[114, 47]⟩ : ByteArray).size = 2 := rfl;unfold procK; omega
theorem bumpN_bounds (m : Mch) (key : ByteArray) : 0 ≤ bumpN m key ∧ bumpN m key ≤ 999 := by
 have := numOf_bounds (getKeyS m.st key);unfold bumpN nextN;split <;> omega
def Rd0 {α : Type} (w : World) (K : Nat) (enc : α → List Value) (v : Value) (xs : List α) : Prop := ∃ a c, v = .slice a xs.length c ∧ Reads w a K enc xs ∧ xs.length ≤ c ∧ c ≤ maxLen
def Out {α : Type} (B : Nat) (W : World) (T K : Nat) (enc : α → List Value) (v0 : Value) (xs0 : List α) (v : Value) (xs : List α) : Prop :=
 (v = v0 ∧ xs = xs0) ∨ W.ownsRow B T K v xs.length (xs.flatMap enc)
theorem Out.kept {α : Type} {B T K : Nat} {W W' : World} {enc : α → List Value} {v0 v : Value} {xs0 xs : List α} (h : Out B W T K enc v0 xs0 v xs) {b : Nat} (hg : W.grownBy W' (some b)) (hb : b < B) : Out B W' T K enc v0 xs0 v xs := by
 rcases h with h | h
 ·exact .inl h
 ·refine .inr (h.kept hg ?_);cases hv : v.ownBlock with
  | none => exact .inl rfl
  | some k => exact .inr (fun e => by cases e; have := (h.lt b hv).1; omega)
theorem Out.below {α : Type} {B T K : Nat} {W W' : World} {enc : α → List Value} {v0 v : Value} {xs0 xs : List α} (h : Out B W T K enc v0 xs0 v xs) (hb : Below W.heap.size W W') : Out B W' T K enc v0 xs0 v xs := by
 rcases h with h | h
 ·exact .inl h
 ·exact .inr (ownsRow_below h hb)
theorem Out.trans {α : Type} {B B' T K : Nat} {W : World} {enc : α → List Value} {v0 v u : Value} {xs0 xs xs' : List α} (h : Out B W T K enc v0 xs0 v xs) (h2 : Out B' W T K enc v xs u xs') (hb : B ≤ B') : Out B W T K enc v0 xs0 u xs' := by
 rcases h2 with ⟨rfl, rfl⟩ | h2
 ·exact h
 ·exact .inr (ownsRow_base h2 hb)
theorem Out.rd {α : Type} {B T K : Nat} {w W : World} {enc : α → List Value} {v0 v : Value} {xs0 xs : List α} (hk : ∀ x, (enc x).length = K) (h0 : Rd0 w K enc v0 xs0) (hb : Below w.heap.size w W) (h : Out B W T K enc v0 xs0 v xs) : Rd0 W K enc v xs := by
 rcases h with ⟨rfl, rfl⟩ | h
 ·obtain ⟨a, c, e, r, l1, l2⟩ := h0;exact ⟨a, c, e, r.below hb, l1, l2⟩
 ·obtain ⟨a, c, e, r, l1, l2⟩ := reads_of_owns' hk h;exact ⟨a, c, e, r, l1, l2⟩
structure MRd (w : World) (v1 v2 v3 : Value) (m : Mch) : Prop where
 r1 : Rd0 w 2 encC v1 m.st
 r2 : Rd0 w 1 encS v2 m.rs
 r3 : Rd0 w 1 encS v3 m.ws
structure MOut (B : Nat) (W : World) (v1 v2 v3 : Value) (m : Mch) (u1 u2 u3 : Value) (m' : Mch) : Prop where
 o1 : Out B W 99 2 encC v1 m.st u1 m'.st
 o2 : Out B W 9 1 encS v2 m.rs u2 m'.rs
 o3 : Out B W 9 1 encS v3 m.ws u3 m'.ws
section
variable {B B' : Nat} {w W W' : World} {v1 v2 v3 u1 u2 u3 x1 x2 x3 : Value} {m m' m2 : Mch}
theorem MOut.refl : MOut B W v1 v2 v3 m v1 v2 v3 m := ⟨.inl ⟨rfl, rfl⟩, .inl ⟨rfl, rfl⟩, .inl ⟨rfl, rfl⟩⟩
theorem MOut.below (h : MOut B W v1 v2 v3 m u1 u2 u3 m') (hb : Below W.heap.size W W') : MOut B W' v1 v2 v3 m u1 u2 u3 m' := ⟨h.o1.below hb, h.o2.below hb, h.o3.below hb⟩
theorem MOut.set (h : MOut B W v1 v2 v3 m u1 u2 u3 m') {b : Nat} (hb : b < B) (i : Nat) (v : Value) : MOut B (W.setCell ⟨b, i, none⟩ v) v1 v2 v3 m u1 u2 u3 m' :=
 ⟨h.o1.kept (grownBy_setCell W b i v) hb, h.o2.kept (grownBy_setCell W b i v) hb, h.o3.kept (grownBy_setCell W b i v) hb⟩
theorem MOut.trans (h : MOut B W v1 v2 v3 m u1 u2 u3 m') (h2 : MOut B' W u1 u2 u3 m' x1 x2 x3 m2) (hb : B ≤ B') : MOut B W v1 v2 v3 m x1 x2 x3 m2 := ⟨h.o1.trans h2.o1 hb, h.o2.trans h2.o2 hb, h.o3.trans h2.o3 hb⟩
theorem MOut.rd (h0 : MRd w v1 v2 v3 m) (hb : Below w.heap.size w W) (h : MOut B W v1 v2 v3 m u1 u2 u3 m') : MRd W u1 u2 u3 m' := ⟨h.o1.rd encC_len h0.r1 hb, h.o2.rd encS_len h0.r2 hb, h.o3.rd encS_len h0.r3 hb⟩
theorem MOut.base (h : MOut B' W v1 v2 v3 m u1 u2 u3 m') (hb : B ≤ B') : MOut B W v1 v2 v3 m u1 u2 u3 m' := MOut.trans MOut.refl h hb
theorem MRd.below (h : MRd w v1 v2 v3 m) (hb : Below w.heap.size w W) : MRd W v1 v2 v3 m := MOut.rd (B := 0) h hb MOut.refl
structure SH (w : World) (bx B : Nat) (v1 v2 v3 : Value) (m : Mch) (u1 u2 u3 : Value) (m' : Mch) (W : World) : Prop where
 x : Box W bx [u1, u2, u3]
 bel : Below w.heap.size w W
 mo : MOut B W v1 v2 v3 m u1 u2 u3 m'
variable {bx : Nat}
theorem SH.below (h : SH w bx B v1 v2 v3 m u1 u2 u3 m' W) (hb : Below W.heap.size W W') : SH w bx B v1 v2 v3 m u1 u2 u3 m' W' := ⟨h.x.below hb, h.bel.trans (hb.mono h.bel.size), h.mo.below hb⟩
theorem SH.drew (h : SH w bx B v1 v2 v3 m u1 u2 u3 m' W) : SH w bx B v1 v2 v3 m u1 u2 u3 m' W.drew := h.below (by repeat (first | exact Below.refl _ _ | refine Below.drew ?_ | refine below_drewN ?_ _ | refine Below.allocC ?_ _ | refine Below.setCell ?_ (by first | (simp; done) | (simp; omega)) _ | refine Below.chain ?_ (by assumption)))
theorem SH.set (h : SH w bx B v1 v2 v3 m u1 u2 u3 m' W) {b : Nat} (hne : bx ≠ b) (hb : b < B) (hw : w.heap.size ≤ b) (i : Nat) (v : Value) : SH w bx B v1 v2 v3 m u1 u2 u3 m' (W.setCell ⟨b, i, none⟩ v) := by
 have hg := grownBy_setCell W b i v;refine ⟨⟨Nat.lt_of_lt_of_le h.x.1 hg.size, h.x.2.elim fun T hT => ⟨T, (hg.block bx h.x.1 (fun e => by cases e; exact hne rfl)).trans hT⟩⟩, h.bel.trans (below_of_grown hg hw h.bel.size), h.mo.set hb i v⟩
theorem SH.put3 (h : SH w bx B v1 v2 v3 m u1 u2 u3 m' W) (hw : w.heap.size ≤ bx) (hb : bx < B) (hB : B ≤ B') (h2 : MOut B' W u1 u2 u3 m' x1 x2 x3 m2) : SH w bx B v1 v2 v3 m x1 x2 x3 m2 (((W.setCell ⟨bx, 0, none⟩ x1).setCell ⟨bx, 1, none⟩ x2).setCell ⟨bx, 2, none⟩ x3) := by
 have hg := grownBy_trans (grownBy_trans (grownBy_setCell W bx 0 x1) (grownBy_setCell _ bx 1 x2)) (grownBy_setCell _ bx 2 x3);exact ⟨box_put (box_put (box_put h.x 0 x1) 1 x2) 2 x3, h.bel.trans (below_of_grown hg hw h.bel.size), (((h.mo.trans h2 hB).set hb 0 x1).set hb 1 x2).set hb 2 x3⟩
end
def SRet (v1 v2 v3 : Value) (m m' : Mch) (r : Value) (w : World) (e : Ending) (w' : World) : Prop :=
 ∃ u1 u2 u3, e = .returned (.tuple #[.agg #[u1, u2, u3], r]) ∧ MOut w.heap.size w' v1 v2 v3 m u1 u2 u3 m' ∧ Below w.heap.size w w'
def SRet1 (v1 v2 v3 : Value) (m m' : Mch) (w : World) (e : Ending) (w' : World) : Prop :=
 ∃ u1 u2 u3, e = .returned (.agg #[u1, u2, u3]) ∧ MOut w.heap.size w' v1 v2 v3 m u1 u2 u3 m' ∧ Below w.heap.size w w'
set_option maxRecDepth 100000 in
set_option maxHeartbeats 4000000 in
theorem sLook_c (v1 v2 v3 : Value) (m : Mch) (key : ByteArray) (w : World) (h : MRd w v1 v2 v3 m) (ho : MOk 2000000000000 m) :
 Calls Tryz.prog 187 #[.agg #[v1, v2, v3], .string key] w (SRet v1 v2 v3 m (lookM m key) (.string (getKeyS m.st key)) w) := by
 obtain ⟨a1, c1, hv1, R1, l1, L1⟩ := h.r1;obtain ⟨a2, c2, hv2, R2, l2, L2⟩ := h.r2;obtain ⟨a3, c3, hv3, R3, l3, L3⟩ := h.r3;subst hv1 hv2 hv3;have HR := Lib.hid h;have HR1 := Lib.hid R1;have HR2 := Lib.hid R2;have HR3 := Lib.hid R3;have B0 := Lib.hid ((Box.new w [.slice a1 m.st.length c1, .slice a2 m.rs.length c2, .slice a3 m.ws.length c3] 87).alloc (.cells #[.slice none 0 0, .slice none 0 0, .slice none 0 0] 87));have P0 := Lib.hid (show Box ((w.alloc (.cells #[.slice a1 m.st.length c1, .slice a2 m.rs.length c2, .slice a3 m.ws.length c3] 87)).alloc (.cells #[.slice none 0 0, .slice none 0 0, .slice none 0 0] 87)) (w.heap.size + 1) [.slice none 0 0, .slice none 0 0, .slice none 0 0] from by
  have h := Box.new (w.alloc (.cells #[.slice a1 m.st.length c1, .slice a2 m.rs.length c2, .slice a3 m.ws.length c3] 87)) [.slice none 0 0, .slice none 0 0, .slice none 0 0] 87;rw [show (w.alloc (.cells #[.slice a1 m.st.length c1, .slice a2 m.rs.length c2, .slice a3 m.ws.length c3] 87)).heap.size = w.heap.size + 1 by simp] at h;exact h)
 have hsz : (((w.alloc (.cells #[.slice a1 m.st.length c1, .slice a2 m.rs.length c2, .slice a3 m.ws.length c3] 87)).alloc (.cells #[.slice none 0 0, .slice none 0 0, .slice none 0 0] 87))).heap.size = w.heap.size + 2 := by simp
 have HS0 := Lib.hid (show SH w w.heap.size (w.heap.size + 2) (.slice a1 m.st.length c1) (.slice a2 m.rs.length c2) (.slice a3 m.ws.length c3) m (.slice a1 m.st.length c1) (.slice a2 m.rs.length c2) (.slice a3 m.ws.length c3) m ((w.alloc (.cells #[.slice a1 m.st.length c1, .slice a2 m.rs.length c2, .slice a3 m.ws.length c3] 87)).alloc (.cells #[.slice none 0 0, .slice none 0 0, .slice none 0 0] 87)) from ⟨B0.out, (by repeat (first | exact Below.refl _ _ | refine Below.drew ?_ | refine below_drewN ?_ _ | refine Below.allocC ?_ _ | refine Below.setCell ?_ (by first | (simp; done) | (simp; omega)) _ | refine Below.chain ?_ (by assumption))), MOut.refl⟩);have KA := Lib.hid (specAddSpan_c a2 c2 m.rs key ((w.alloc (.cells #[.slice a1 m.st.length c1, .slice a2 m.rs.length c2, .slice a3 m.ws.length c3] 87)).alloc (.cells #[.slice none 0 0, .slice none 0 0, .slice none 0 0] 87)) (by have := ho.l2; omega) (HR2.out.below (by repeat (first | exact Below.refl _ _ | refine Below.drew ?_ | refine below_drewN ?_ _ | refine Below.allocC ?_ _ | refine Below.setCell ?_ (by first | (simp; done) | (simp; omega)) _ | refine Below.chain ?_ (by assumption)))) l2 L2);have KG := Lib.hid (fun W (hb : Below w.heap.size w W) => specGetKey_c a1 c1 m.st key W (by have := ho.l1; unfold maxLen; omega) (HR1.out.below hb));obtain ⟨g, hg⟩ : ∃ g, getKeyS m.st key = g := ⟨_, rfl⟩;rw [hg] at KG;rw [hg];clear hg h R1 R2 R3 ho;go_enter Tryz.func187, Tryz.ntmps187;go_wp2_with fail;refine KA.out.mono ?_;rintro e w1 ⟨u, rfl, ho2, hb1⟩;rw [hsz] at ho2;obtain ⟨au, ku, hvu, _⟩ := reads_of_owns encS_len ho2;subst hvu;have S1 := HS0.out.below hb1;have P1 := Lib.hid (P0.out.below hb1);have c1' := S1.x.cell 1 _ rfl;have z1 := S1.x.free 1;have hgs := grownBy_setCell w1 w.heap.size 1 (.slice au (addS m.rs key).length ku);have hs1 : w.heap.size + 2 ≤ w1.heap.size := by rw [← hsz]; exact hb1.size
 have SX : SH w w.heap.size (w.heap.size + 2) (.slice a1 m.st.length c1) (.slice a2 m.rs.length c2) (.slice a3 m.ws.length c3) m (.slice a1 m.st.length c1) (.slice au (addS m.rs key).length ku) (.slice a3 m.ws.length c3) (lookM m key) (w1.setCell ⟨w.heap.size, 1, none⟩ (.slice au (addS m.rs key).length ku)) := ⟨box_put S1.x 1 _, S1.bel.trans (below_of_grown hgs (Nat.le_refl _) S1.bel.size), ⟨.inl ⟨rfl, rfl⟩, (show Out (w.heap.size + 2) w1 9 1 encS (.slice a2 m.rs.length c2) m.rs (.slice au (addS m.rs key).length ku) (addS m.rs key) from .inr ho2).kept hgs (by omega), .inl ⟨rfl, rfl⟩⟩⟩;have HX := Lib.hid SX;have PX : Box (w1.setCell ⟨w.heap.size, 1, none⟩ (.slice au (addS m.rs key).length ku)) (w.heap.size + 1) [.slice none 0 0, .slice none 0 0, .slice none 0 0] := ⟨Nat.lt_of_lt_of_le P1.out.1 hgs.size, P1.out.2.elim fun T hT => ⟨T, (hgs.block _ P1.out.1 (fun e => by have := Option.some.inj e; omega)).trans hT⟩⟩;have HPX := Lib.hid PX;clear ho2 hgs S1 KA HS0 B0 P0 PX hb1;have cr0 : ∀ W, SH w w.heap.size (w.heap.size + 2) (.slice a1 m.st.length c1) (.slice a2 m.rs.length c2) (.slice a3 m.ws.length c3) m (.slice a1 m.st.length c1) (.slice au (addS m.rs key).length ku) (.slice a3 m.ws.length c3) (lookM m key) W → W.cell? ⟨w.heap.size, 0, none⟩ = some (.slice a1 m.st.length c1) := fun W h => h.x.cell 0 _ rfl;have cr1 : ∀ W, SH w w.heap.size (w.heap.size + 2) (.slice a1 m.st.length c1) (.slice a2 m.rs.length c2) (.slice a3 m.ws.length c3) m (.slice a1 m.st.length c1) (.slice au (addS m.rs key).length ku) (.slice a3 m.ws.length c3) (lookM m key) W → W.cell? ⟨w.heap.size, 1, none⟩ = some (.slice au (addS m.rs key).length ku) := fun W h => h.x.cell 1 _ rfl;have cr2 : ∀ W, SH w w.heap.size (w.heap.size + 2) (.slice a1 m.st.length c1) (.slice a2 m.rs.length c2) (.slice a3 m.ws.length c3) m (.slice a1 m.st.length c1) (.slice au (addS m.rs key).length ku) (.slice a3 m.ws.length c3) (lookM m key) W → W.cell? ⟨w.heap.size, 2, none⟩ = some (.slice a3 m.ws.length c3) := fun W h => h.x.cell 2 _ rfl;have HEND := Lib.hid (fun W (h : SH w w.heap.size (w.heap.size + 2) (.slice a1 m.st.length c1) (.slice a2 m.rs.length c2) (.slice a3 m.ws.length c3) m (.slice a1 m.st.length c1) (.slice au (addS m.rs key).length ku) (.slice a3 m.ws.length c3) (lookM m key) W) => (show SRet (.slice a1 m.st.length c1) (.slice a2 m.rs.length c2) (.slice a3 m.ws.length c3) m (lookM m key) (.string g) w (.returned (.tuple #[.agg #[.slice a1 m.st.length c1, .slice au (addS m.rs key).length ku, .slice a3 m.ws.length c3], .string g])) W from ⟨_, _, _, rfl, h.mo.base (by omega), h.bel⟩));go_wp2_with fail;go_region_held3 (fun w' => SH w w.heap.size (w.heap.size + 2) (.slice a1 m.st.length c1) (.slice a2 m.rs.length c2) (.slice a3 m.ws.length c3) m (.slice a1 m.st.length c1) (.slice au (addS m.rs key).length ku) (.slice a3 m.ws.length c3) (lookM m key) w') (first | with_reducible assumption | with_reducible exact SH.below (by with_reducible assumption) (by with_reducible assumption) | ((repeat (first | with_reducible refine SH.drew ?_ | with_reducible refine SH.set ?_ (by omega) (by omega) (by omega) _ _)); with_reducible assumption)) (first | (go_at_call 219; refine (KG.out _ (SH.bel (by with_reducible assumption))).mono ?_; rintro e w3 ⟨rfl, hbk⟩; have BR := Box.below (Box.drew HPX.out) hbk; have pc0 := BR.cell 0 _ rfl; have pc1 := BR.cell 1 _ rfl; have pc2 := BR.cell 2 _ rfl; have pf0 := BR.free 0; have pf1 := BR.free 1; have pf2 := BR.free 2));go_wp2;exact bodyPost_ret (v := .tuple #[.agg #[.slice a1 m.st.length c1, .slice au (addS m.rs key).length ku, .slice a3 m.ws.length c3], .string g]) (by simp [results, Tryz.results187, go_sem, *]) rfl (HEND.out _ (by with_reducible assumption))
set_option maxRecDepth 100000 in
set_option maxHeartbeats 4000000 in
theorem sLay_c (v1 v2 v3 : Value) (m : Mch) (key val : ByteArray) (w : World) (h : MRd w v1 v2 v3 m) (ho : MOk 2000000000000 m) (hk : key.size ≤ maxLen) (hv : val.size ≤ maxLen) :
 Calls Tryz.prog 177 #[.agg #[v1, v2, v3], .string key, .string val] w (SRet1 v1 v2 v3 m (layM m key val) w) := by
 obtain ⟨a1, c1, hv1, R1, l1, L1⟩ := h.r1;obtain ⟨a2, c2, hv2, R2, l2, L2⟩ := h.r2;obtain ⟨a3, c3, hv3, R3, l3, L3⟩ := h.r3;subst hv1 hv2 hv3;have HR := Lib.hid h;have HR1 := Lib.hid R1;have HR2 := Lib.hid R2;have HR3 := Lib.hid R3;have B0 := Lib.hid ((Box.new w [.slice a1 m.st.length c1, .slice a2 m.rs.length c2, .slice a3 m.ws.length c3] 87).alloc (.cells #[.slice none 0 0, .slice none 0 0, .slice none 0 0] 87));have P0 := Lib.hid (show Box ((w.alloc (.cells #[.slice a1 m.st.length c1, .slice a2 m.rs.length c2, .slice a3 m.ws.length c3] 87)).alloc (.cells #[.slice none 0 0, .slice none 0 0, .slice none 0 0] 87)) (w.heap.size + 1) [.slice none 0 0, .slice none 0 0, .slice none 0 0] from by
  have h := Box.new (w.alloc (.cells #[.slice a1 m.st.length c1, .slice a2 m.rs.length c2, .slice a3 m.ws.length c3] 87)) [.slice none 0 0, .slice none 0 0, .slice none 0 0] 87;rw [show (w.alloc (.cells #[.slice a1 m.st.length c1, .slice a2 m.rs.length c2, .slice a3 m.ws.length c3] 87)).heap.size = w.heap.size + 1 by simp] at h;exact h)
 have hsz : (((w.alloc (.cells #[.slice a1 m.st.length c1, .slice a2 m.rs.length c2, .slice a3 m.ws.length c3] 87)).alloc (.cells #[.slice none 0 0, .slice none 0 0, .slice none 0 0] 87))).heap.size = w.heap.size + 2 := by simp
 have HS0 := Lib.hid (show SH w w.heap.size (w.heap.size + 2) (.slice a1 m.st.length c1) (.slice a2 m.rs.length c2) (.slice a3 m.ws.length c3) m (.slice a1 m.st.length c1) (.slice a2 m.rs.length c2) (.slice a3 m.ws.length c3) m ((w.alloc (.cells #[.slice a1 m.st.length c1, .slice a2 m.rs.length c2, .slice a3 m.ws.length c3] 87)).alloc (.cells #[.slice none 0 0, .slice none 0 0, .slice none 0 0] 87)) from ⟨B0.out, (by repeat (first | exact Below.refl _ _ | refine Below.drew ?_ | refine below_drewN ?_ _ | refine Below.allocC ?_ _ | refine Below.setCell ?_ (by first | (simp; done) | (simp; omega)) _ | refine Below.chain ?_ (by assumption))), MOut.refl⟩);have KA := Lib.hid (specAddSpan_c a3 c3 m.ws key ((w.alloc (.cells #[.slice a1 m.st.length c1, .slice a2 m.rs.length c2, .slice a3 m.ws.length c3] 87)).alloc (.cells #[.slice none 0 0, .slice none 0 0, .slice none 0 0] 87)) (by have := ho.l3; omega) (HR3.out.below (by repeat (first | exact Below.refl _ _ | refine Below.drew ?_ | refine below_drewN ?_ _ | refine Below.allocC ?_ _ | refine Below.setCell ?_ (by first | (simp; done) | (simp; omega)) _ | refine Below.chain ?_ (by assumption)))) l3 L3);have KP := Lib.hid (fun W (hb : Below w.heap.size w W) => specPutKey_c a1 c1 m.st key val W (by have := ho.l1; omega) (HR1.out.below hb) (fun x hx => by have := ho.sz x hx; unfold maxLen; omega) hk hv);clear h R1 R2 R3 ho;go_enter Tryz.func177, Tryz.ntmps177;go_wp2_with fail;refine KA.out.mono ?_;rintro e w1 ⟨u, rfl, ho2, hb1⟩;rw [hsz] at ho2;obtain ⟨au, ku, hvu, _⟩ := reads_of_owns encS_len ho2;subst hvu;have S1 := HS0.out.below hb1;have P1 := Lib.hid (P0.out.below hb1);have c0' := S1.x.cell 0 _ rfl;have c2' := S1.x.cell 2 _ rfl;have z2 := S1.x.free 2;have hgs := grownBy_setCell w1 w.heap.size 2 (.slice au (addS m.ws key).length ku);have hs1 : w.heap.size + 2 ≤ w1.heap.size := by rw [← hsz]; exact hb1.size
 have SX : SH w w.heap.size (w.heap.size + 2) (.slice a1 m.st.length c1) (.slice a2 m.rs.length c2) (.slice a3 m.ws.length c3) m (.slice a1 m.st.length c1) (.slice a2 m.rs.length c2) (.slice au (addS m.ws key).length ku) ⟨m.st, m.rs, addS m.ws key⟩ (w1.setCell ⟨w.heap.size, 2, none⟩ (.slice au (addS m.ws key).length ku)) := ⟨box_put S1.x 2 _, S1.bel.trans (below_of_grown hgs (Nat.le_refl _) S1.bel.size), ⟨.inl ⟨rfl, rfl⟩, .inl ⟨rfl, rfl⟩, (show Out (w.heap.size + 2) w1 9 1 encS (.slice a3 m.ws.length c3) m.ws (.slice au (addS m.ws key).length ku) (addS m.ws key) from .inr ho2).kept hgs (by omega)⟩⟩;have HX := Lib.hid SX;have HPX := Lib.hid (show Box (w1.setCell ⟨w.heap.size, 2, none⟩ (.slice au (addS m.ws key).length ku)) (w.heap.size + 1) [.slice none 0 0, .slice none 0 0, .slice none 0 0] from ⟨Nat.lt_of_lt_of_le P1.out.1 hgs.size, P1.out.2.elim fun T hT => ⟨T, (hgs.block _ P1.out.1 (fun e => by have := Option.some.inj e; omega)).trans hT⟩⟩);have hs2 : w.heap.size + 2 ≤ (w1.setCell ⟨w.heap.size, 2, none⟩ (.slice au (addS m.ws key).length ku)).heap.size := Nat.le_trans hs1 hgs.size;have KP2 := Lib.hid (KP.out _ SX.bel);clear ho2 hgs S1 KA HS0 B0 P0 hb1 SX KP P1;go_wp2_with fail;refine KP2.out.mono ?_;rintro e w3 ⟨x, rfl, ho3, hb3⟩;have ho4 := ownsRow_base ho3 hs2;obtain ⟨ax, kx, hvx, _⟩ := reads_of_owns encC_len ho4;subst hvx;have S3 := HX.out.below hb3;have P3 := HPX.out.below hb3;have hg3 := grownBy_setCell w3 w.heap.size 0 (.slice ax (putKeyS m.st key val).length kx);have SE := Lib.hid (show SH w w.heap.size (w.heap.size + 2) (.slice a1 m.st.length c1) (.slice a2 m.rs.length c2) (.slice a3 m.ws.length c3) m (.slice ax (putKeyS m.st key val).length kx) (.slice a2 m.rs.length c2) (.slice au (addS m.ws key).length ku) (layM m key val) (w3.setCell ⟨w.heap.size, 0, none⟩ (.slice ax (putKeyS m.st key val).length kx)) from ⟨box_put S3.x 0 _, S3.bel.trans (below_of_grown hg3 (Nat.le_refl _) S3.bel.size), ⟨(show Out (w.heap.size + 2) w3 99 2 encC (.slice a1 m.st.length c1) m.st (.slice ax (putKeyS m.st key val).length kx) (putKeyS m.st key val) from .inr ho4).kept hg3 (by omega), S3.mo.o2.kept hg3 (by omega), S3.mo.o3.kept hg3 (by omega)⟩⟩);have d0 := S3.x.cell 0 _ rfl;have d1 := S3.x.cell 1 _ rfl;have d2 := S3.x.cell 2 _ rfl;have y0 := S3.x.free 0;have pc0 := P3.cell 0 _ rfl;have pf0 := P3.free 0;have pc1 := P3.cell 1 _ rfl;have pf1 := P3.free 1;have pc2 := P3.cell 2 _ rfl;have pf2 := P3.free 2;have HEND := Lib.hid (fun W (h : SH w w.heap.size (w.heap.size + 2) (.slice a1 m.st.length c1) (.slice a2 m.rs.length c2) (.slice a3 m.ws.length c3) m (.slice ax (putKeyS m.st key val).length kx) (.slice a2 m.rs.length c2) (.slice au (addS m.ws key).length ku) (layM m key val) W) => (show SRet1 (.slice a1 m.st.length c1) (.slice a2 m.rs.length c2) (.slice a3 m.ws.length c3) m (layM m key val) w (.returned (.agg #[.slice ax (putKeyS m.st key val).length kx, .slice a2 m.rs.length c2, .slice au (addS m.ws key).length ku])) W from ⟨_, _, _, rfl, h.mo.base (by omega), h.bel⟩));clear ho3 ho4 hb3 S3 P3 hg3 HX HPX hs2 c0' c2' z2 KP2;go_wp2;exact bodyPost_ret (v := .agg #[.slice ax (putKeyS m.st key val).length kx, .slice a2 m.rs.length c2, .slice au (addS m.ws key).length ku]) (by simp [results, Tryz.results177, go_sem, *]) rfl (HEND.out _ (by (repeat (with_reducible refine SH.set ?_ (by omega) (by omega) (by omega) _ _)); with_reducible exact SE.out))
theorem box_far {w : World} {b b' : Nat} {xs : List Value} (h : Box w b xs) (hne : b ≠ b') (i : Nat) (v : Value) : Box (w.setCell ⟨b', i, none⟩ v) b xs := by
 obtain ⟨h1, T, h2⟩ := h;exact ⟨by simpa [World.setCell] using h1, T, (heap_setCell_other w ⟨b', i, none⟩ b v hne).trans h2⟩
set_option maxRecDepth 100000 in
set_option maxHeartbeats 4000000 in
theorem sNumAt_c (v1 v2 v3 : Value) (m : Mch) (key : ByteArray) (w : World) (h : MRd w v1 v2 v3 m) (ho : MOk 1900000000000 m) :
 Calls Tryz.prog 147 #[.agg #[v1, v2, v3], .string key] w (SRet v1 v2 v3 m (lookM m key) (.int .i64 (numOfV (getKeyS m.st key))) w) := by
 obtain ⟨a1, c1, hv1, R1, l1, L1⟩ := h.r1;obtain ⟨a2, c2, hv2, R2, l2, L2⟩ := h.r2;obtain ⟨a3, c3, hv3, R3, l3, L3⟩ := h.r3;subst hv1 hv2 hv3;have HR := Lib.hid h;have HR1 := Lib.hid R1;have HR2 := Lib.hid R2;have HR3 := Lib.hid R3;have B0 := Lib.hid ((Box.new w [.slice a1 m.st.length c1, .slice a2 m.rs.length c2, .slice a3 m.ws.length c3] 87).alloc (.cells #[.slice none 0 0, .slice none 0 0, .slice none 0 0] 87));have P0 := Lib.hid (show Box ((w.alloc (.cells #[.slice a1 m.st.length c1, .slice a2 m.rs.length c2, .slice a3 m.ws.length c3] 87)).alloc (.cells #[.slice none 0 0, .slice none 0 0, .slice none 0 0] 87)) (w.heap.size + 1) [.slice none 0 0, .slice none 0 0, .slice none 0 0] from by
  have h := Box.new (w.alloc (.cells #[.slice a1 m.st.length c1, .slice a2 m.rs.length c2, .slice a3 m.ws.length c3] 87)) [.slice none 0 0, .slice none 0 0, .slice none 0 0] 87;rw [show (w.alloc (.cells #[.slice a1 m.st.length c1, .slice a2 m.rs.length c2, .slice a3 m.ws.length c3] 87)).heap.size = w.heap.size + 1 by simp] at h;exact h)
 have hsz : (((w.alloc (.cells #[.slice a1 m.st.length c1, .slice a2 m.rs.length c2, .slice a3 m.ws.length c3] 87)).alloc (.cells #[.slice none 0 0, .slice none 0 0, .slice none 0 0] 87))).heap.size = w.heap.size + 2 := by simp
 have HS0 := Lib.hid (show SH w w.heap.size (w.heap.size + 2) (.slice a1 m.st.length c1) (.slice a2 m.rs.length c2) (.slice a3 m.ws.length c3) m (.slice a1 m.st.length c1) (.slice a2 m.rs.length c2) (.slice a3 m.ws.length c3) m ((w.alloc (.cells #[.slice a1 m.st.length c1, .slice a2 m.rs.length c2, .slice a3 m.ws.length c3] 87)).alloc (.cells #[.slice none 0 0, .slice none 0 0, .slice none 0 0] 87)) from ⟨B0.out, (by repeat (first | exact Below.refl _ _ | refine Below.drew ?_ | refine below_drewN ?_ _ | refine Below.allocC ?_ _ | refine Below.setCell ?_ (by first | (simp; done) | (simp; omega)) _ | refine Below.chain ?_ (by assumption))), MOut.refl⟩);have KL := Lib.hid (sLook_c (.slice a1 m.st.length c1) (.slice a2 m.rs.length c2) (.slice a3 m.ws.length c3) m key ((w.alloc (.cells #[.slice a1 m.st.length c1, .slice a2 m.rs.length c2, .slice a3 m.ws.length c3] 87)).alloc (.cells #[.slice none 0 0, .slice none 0 0, .slice none 0 0] 87)) (HR.out.below (by repeat (first | exact Below.refl _ _ | refine Below.drew ?_ | refine below_drewN ?_ _ | refine Below.allocC ?_ _ | refine Below.setCell ?_ (by first | (simp; done) | (simp; omega)) _ | refine Below.chain ?_ (by assumption)))) (ho.mono (by omega)));have HOK := Lib.hid (ho.look key);have hgs := get_sz ho.sz key;generalize getKeyS m.st key = s at *;clear h R1 R2 R3 ho;go_enter Tryz.func147, Tryz.ntmps147;go_wp2_with fail;refine KL.out.mono ?_;rintro e w1 ⟨u1, u2, u3, rfl, hmo, hb1⟩;rw [hsz] at hmo;have hrd := hmo.rd (HR.out.below (show Below w.heap.size w ((w.alloc (.cells #[.slice a1 m.st.length c1, .slice a2 m.rs.length c2, .slice a3 m.ws.length c3] 87)).alloc (.cells #[.slice none 0 0, .slice none 0 0, .slice none 0 0] 87)) from (by repeat (first | exact Below.refl _ _ | refine Below.drew ?_ | refine below_drewN ?_ _ | refine Below.allocC ?_ _ | refine Below.setCell ?_ (by first | (simp; done) | (simp; omega)) _ | refine Below.chain ?_ (by assumption))))) hb1;obtain ⟨x1, k1, hx1, _, _, _⟩ := hrd.r1;obtain ⟨x2, k2, hx2, _, _, _⟩ := hrd.r2;obtain ⟨x3, k3, hx3, _, _, _⟩ := hrd.r3;subst hx1 hx2 hx3;have S1 := HS0.out.below hb1;have HX := Lib.hid (S1.put3 (Nat.le_refl _) (by omega) (Nat.le_refl _) hmo);have HPX := Lib.hid (box_far (box_far (box_far (P0.out.below hb1) (show w.heap.size + 1 ≠ w.heap.size by omega) 0 (.slice x1 (lookM m key).st.length k1)) (show w.heap.size + 1 ≠ w.heap.size by omega) 1 (.slice x2 (lookM m key).rs.length k2)) (show w.heap.size + 1 ≠ w.heap.size by omega) 2 (.slice x3 (lookM m key).ws.length k3));have e0 := S1.x.cell 0 _ rfl;have e1 := S1.x.cell 1 _ rfl;have e2 := S1.x.cell 2 _ rfl;have z0 := S1.x.free 0;have z1 := S1.x.free 1;have z2 := S1.x.free 2;clear hmo hb1 hrd S1 KL HS0 B0 P0;have KN := Lib.hid (fun W => specNumOf_c s W);generalize numOfV s = n at *;have cr0 : ∀ W, SH w w.heap.size (w.heap.size + 2) (.slice a1 m.st.length c1) (.slice a2 m.rs.length c2) (.slice a3 m.ws.length c3) m (.slice x1 (lookM m key).st.length k1) (.slice x2 (lookM m key).rs.length k2) (.slice x3 (lookM m key).ws.length k3) (lookM m key) W → W.cell? ⟨w.heap.size, 0, none⟩ = some (.slice x1 (lookM m key).st.length k1) := fun W h => h.x.cell 0 _ rfl;have cr1 : ∀ W, SH w w.heap.size (w.heap.size + 2) (.slice a1 m.st.length c1) (.slice a2 m.rs.length c2) (.slice a3 m.ws.length c3) m (.slice x1 (lookM m key).st.length k1) (.slice x2 (lookM m key).rs.length k2) (.slice x3 (lookM m key).ws.length k3) (lookM m key) W → W.cell? ⟨w.heap.size, 1, none⟩ = some (.slice x2 (lookM m key).rs.length k2) := fun W h => h.x.cell 1 _ rfl;have cr2 : ∀ W, SH w w.heap.size (w.heap.size + 2) (.slice a1 m.st.length c1) (.slice a2 m.rs.length c2) (.slice a3 m.ws.length c3) m (.slice x1 (lookM m key).st.length k1) (.slice x2 (lookM m key).rs.length k2) (.slice x3 (lookM m key).ws.length k3) (lookM m key) W → W.cell? ⟨w.heap.size, 2, none⟩ = some (.slice x3 (lookM m key).ws.length k3) := fun W h => h.x.cell 2 _ rfl
 have HEND := Lib.hid (fun W (h : SH w w.heap.size (w.heap.size + 2) (.slice a1 m.st.length c1) (.slice a2 m.rs.length c2) (.slice a3 m.ws.length c3) m (.slice x1 (lookM m key).st.length k1) (.slice x2 (lookM m key).rs.length k2) (.slice x3 (lookM m key).ws.length k3) (lookM m key) W) => (show SRet (.slice a1 m.st.length c1) (.slice a2 m.rs.length c2) (.slice a3 m.ws.length c3) m (lookM m key) (.int .i64 n) w (.returned (.tuple #[.agg #[.slice x1 (lookM m key).st.length k1, .slice x2 (lookM m key).rs.length k2, .slice x3 (lookM m key).ws.length k3], .int .i64 n])) W from ⟨_, _, _, rfl, h.mo.base (by omega), h.bel⟩));have SX : SH w w.heap.size (w.heap.size + 2) (.slice a1 m.st.length c1) (.slice a2 m.rs.length c2) (.slice a3 m.ws.length c3) m (.slice x1 (lookM m key).st.length k1) (.slice x2 (lookM m key).rs.length k2) (.slice x3 (lookM m key).ws.length k3) (lookM m key) (((w1.setCell ⟨w.heap.size, 0, none⟩ (.slice x1 (lookM m key).st.length k1)).setCell ⟨w.heap.size, 1, none⟩ (.slice x2 (lookM m key).rs.length k2)).setCell ⟨w.heap.size, 2, none⟩ (.slice x3 (lookM m key).ws.length k3)) := HX.out;go_wp2_with fail;go_region_held3 (fun w' => SH w w.heap.size (w.heap.size + 2) (.slice a1 m.st.length c1) (.slice a2 m.rs.length c2) (.slice a3 m.ws.length c3) m (.slice x1 (lookM m key).st.length k1) (.slice x2 (lookM m key).rs.length k2) (.slice x3 (lookM m key).ws.length k3) (lookM m key) w') (first | with_reducible assumption | with_reducible exact SH.below (by with_reducible assumption) (by with_reducible assumption) | ((repeat (first | with_reducible refine SH.drew ?_ | with_reducible refine SH.set ?_ (by omega) (by omega) (by omega) _ _)); with_reducible assumption)) (first | (go_at_call 192; refine (KN.out _).mono ?_; rintro e w3 ⟨rfl, hbk⟩; have BR := Box.below (Box.drew HPX.out) hbk; have pc0 := BR.cell 0 _ rfl; have pf0 := BR.free 0; have pc1 := BR.cell 1 _ rfl; have pf1 := BR.free 1; have pc2 := BR.cell 2 _ rfl; have pf2 := BR.free 2));go_wp2;exact bodyPost_ret (v := .tuple #[.agg #[.slice x1 (lookM m key).st.length k1, .slice x2 (lookM m key).rs.length k2, .slice x3 (lookM m key).ws.length k3], .int .i64 n]) (by simp [results, Tryz.results147, go_sem, *]) rfl (HEND.out _ (by with_reducible assumption))
theorem SRet1.op {v1 v2 v3 : Value} {m m' : Mch} {w w' : World} {e : Ending} (h : MRd w v1 v2 v3 m) (hs : SRet1 v1 v2 v3 m m' w e w') : ∃ a1 k1 a2 k2 a3 k3, e = .returned (.agg #[.slice a1 m'.st.length k1, .slice a2 m'.rs.length k2, .slice a3 m'.ws.length k3]) ∧ MOut w.heap.size w' v1 v2 v3 m (.slice a1 m'.st.length k1) (.slice a2 m'.rs.length k2) (.slice a3 m'.ws.length k3) m' ∧ Below w.heap.size w w' := by
 obtain ⟨u1, u2, u3, rfl, hmo, hb⟩ := hs;have hrd := hmo.rd h hb;obtain ⟨x1, k1, hx1, _, _, _⟩ := hrd.r1;obtain ⟨x2, k2, hx2, _, _, _⟩ := hrd.r2;obtain ⟨x3, k3, hx3, _, _, _⟩ := hrd.r3;subst hx1 hx2 hx3;exact ⟨x1, k1, x2, k2, x3, k3, rfl, hmo, hb⟩
theorem SRet.op {v1 v2 v3 : Value} {m m' : Mch} {r : Value} {w w' : World} {e : Ending} (h : MRd w v1 v2 v3 m) (hs : SRet v1 v2 v3 m m' r w e w') : ∃ a1 k1 a2 k2 a3 k3, e = .returned (.tuple #[.agg #[.slice a1 m'.st.length k1, .slice a2 m'.rs.length k2, .slice a3 m'.ws.length k3], r]) ∧ MOut w.heap.size w' v1 v2 v3 m (.slice a1 m'.st.length k1) (.slice a2 m'.rs.length k2) (.slice a3 m'.ws.length k3) m' ∧ Below w.heap.size w w' := by
 obtain ⟨u1, u2, u3, rfl, hmo, hb⟩ := hs;have hrd := hmo.rd h hb;obtain ⟨x1, k1, hx1, _, _, _⟩ := hrd.r1;obtain ⟨x2, k2, hx2, _, _, _⟩ := hrd.r2;obtain ⟨x3, k3, hx3, _, _, _⟩ := hrd.r3;subst hx1 hx2 hx3;exact ⟨x1, k1, x2, k2, x3, k3, rfl, hmo, hb⟩
set_option maxRecDepth 100000 in
set_option maxHeartbeats 4000000 in
theorem sSetNum_c (v1 v2 v3 : Value) (m : Mch) (key : ByteArray) (n : Int) (w : World) (h : MRd w v1 v2 v3 m) (ho : MOk 1900000000000 m) (hk : key.size ≤ maxLen) :
 Calls Tryz.prog 149 #[.agg #[v1, v2, v3], .string key, .int .i64 n] w (SRet1 v1 v2 v3 m (setM m key n) w) := by
 obtain ⟨a1, c1, hv1, R1, l1, L1⟩ := h.r1;obtain ⟨a2, c2, hv2, R2, l2, L2⟩ := h.r2;obtain ⟨a3, c3, hv3, R3, l3, L3⟩ := h.r3;subst hv1 hv2 hv3;have HR := Lib.hid h;have HR1 := Lib.hid R1;have HR2 := Lib.hid R2;have HR3 := Lib.hid R3;have B0 := Lib.hid ((Box.new w [.slice a1 m.st.length c1, .slice a2 m.rs.length c2, .slice a3 m.ws.length c3] 87).alloc (.cells #[.slice none 0 0, .slice none 0 0, .slice none 0 0] 87));have P0 := Lib.hid (show Box ((w.alloc (.cells #[.slice a1 m.st.length c1, .slice a2 m.rs.length c2, .slice a3 m.ws.length c3] 87)).alloc (.cells #[.slice none 0 0, .slice none 0 0, .slice none 0 0] 87)) (w.heap.size + 1) [.slice none 0 0, .slice none 0 0, .slice none 0 0] from by
  have h := Box.new (w.alloc (.cells #[.slice a1 m.st.length c1, .slice a2 m.rs.length c2, .slice a3 m.ws.length c3] 87)) [.slice none 0 0, .slice none 0 0, .slice none 0 0] 87;rw [show (w.alloc (.cells #[.slice a1 m.st.length c1, .slice a2 m.rs.length c2, .slice a3 m.ws.length c3] 87)).heap.size = w.heap.size + 1 by simp] at h;exact h)
 have hsz : (((w.alloc (.cells #[.slice a1 m.st.length c1, .slice a2 m.rs.length c2, .slice a3 m.ws.length c3] 87)).alloc (.cells #[.slice none 0 0, .slice none 0 0, .slice none 0 0] 87))).heap.size = w.heap.size + 2 := by simp
 have HS0 := Lib.hid (show SH w w.heap.size (w.heap.size + 2) (.slice a1 m.st.length c1) (.slice a2 m.rs.length c2) (.slice a3 m.ws.length c3) m (.slice a1 m.st.length c1) (.slice a2 m.rs.length c2) (.slice a3 m.ws.length c3) m ((w.alloc (.cells #[.slice a1 m.st.length c1, .slice a2 m.rs.length c2, .slice a3 m.ws.length c3] 87)).alloc (.cells #[.slice none 0 0, .slice none 0 0, .slice none 0 0] 87)) from ⟨B0.out, (by repeat (first | exact Below.refl _ _ | refine Below.drew ?_ | refine below_drewN ?_ _ | refine Below.allocC ?_ _ | refine Below.setCell ?_ (by first | (simp; done) | (simp; omega)) _ | refine Below.chain ?_ (by assumption))), MOut.refl⟩);have HOK := Lib.hid (ho.mono (show 1900000000000 ≤ 2000000000000 by omega));have HK := Lib.hid hk;clear R1 R2 R3 ho hk;cases hb : inB n 1 999 with
 | false =>
  have hE : setM m key n = layM m key ⟨#[]⟩ := by unfold setM numText; rw [hb]; rfl
  rw [hE];have KLY := Lib.hid ((sLay_c (.slice a1 m.st.length c1) (.slice a2 m.rs.length c2) (.slice a3 m.ws.length c3) m key ⟨#[]⟩ ((w.alloc (.cells #[.slice a1 m.st.length c1, .slice a2 m.rs.length c2, .slice a3 m.ws.length c3] 87)).alloc (.cells #[.slice none 0 0, .slice none 0 0, .slice none 0 0] 87)) (HR.out.below (by repeat (first | exact Below.refl _ _ | refine Below.drew ?_ | refine below_drewN ?_ _ | refine Below.allocC ?_ _ | refine Below.setCell ?_ (by first | (simp; done) | (simp; omega)) _ | refine Below.chain ?_ (by assumption)))) HOK.out HK.out (Nat.zero_le _)).mono fun e w' hs => hs.op (HR.out.below (show Below w.heap.size w ((w.alloc (.cells #[.slice a1 m.st.length c1, .slice a2 m.rs.length c2, .slice a3 m.ws.length c3] 87)).alloc (.cells #[.slice none 0 0, .slice none 0 0, .slice none 0 0] 87)) from (by repeat (first | exact Below.refl _ _ | refine Below.drew ?_ | refine below_drewN ?_ _ | refine Below.allocC ?_ _ | refine Below.setCell ?_ (by first | (simp; done) | (simp; omega)) _ | refine Below.chain ?_ (by assumption))))));clear hE h;go_enter Tryz.func149, Tryz.ntmps149;go_wp2_with (first | (go_at_call 70; refine (l01In_c _ _ _ _).mono ?_; rintro e w' ⟨rfl, rfl⟩) | fail);refine KLY.out.mono ?_;rintro e w8 ⟨y1, q1, y2, q2, y3, q3, rfl, hmo8, hbk8⟩;rw [hsz] at hmo8;have HMO := Lib.hid hmo8;have BR := P0.out.below hbk8;have HB := Lib.hid ((show Below w.heap.size w ((w.alloc (.cells #[.slice a1 m.st.length c1, .slice a2 m.rs.length c2, .slice a3 m.ws.length c3] 87)).alloc (.cells #[.slice none 0 0, .slice none 0 0, .slice none 0 0] 87)) from (by repeat (first | exact Below.refl _ _ | refine Below.drew ?_ | refine below_drewN ?_ _ | refine Below.allocC ?_ _ | refine Below.setCell ?_ (by first | (simp; done) | (simp; omega)) _ | refine Below.chain ?_ (by assumption)))).trans (hbk8.mono (by rw [hsz]; omega)));have pc0 := BR.cell 0 _ rfl;have pf0 := BR.free 0;have pc1 := BR.cell 1 _ rfl;have pf1 := BR.free 1;have pc2 := BR.cell 2 _ rfl;have pf2 := BR.free 2;clear BR hmo8 hbk8 HS0 B0 P0 KLY;go_wp2;exact bodyPost_ret (v := .agg #[.slice y1 (layM m key ⟨#[]⟩).st.length q1, .slice y2 (layM m key ⟨#[]⟩).rs.length q2, .slice y3 (layM m key ⟨#[]⟩).ws.length q3]) (by simp [results, Tryz.results149, go_sem, *]) rfl ⟨_, _, _, rfl, MOut.base (B' := w.heap.size + 2) (by (repeat (with_reducible refine MOut.set ?_ (by omega) _ _)); with_reducible exact HMO.out) (by omega), (by (repeat (with_reducible refine Below.setCell ?_ (by simp) _)); with_reducible exact HB.out)⟩
 | true =>
  have hr := inB_iff.1 hb;obtain ⟨dn, hdn⟩ : ∃ dn, decS n = dn := ⟨_, rfl⟩;have hE : setM m key n = layM m key dn := by unfold setM numText; rw [hb, hdn]; rfl
  rw [hE];have hs := numText_size n;rw [show numText n = dn by unfold numText; rw [hb, hdn]; rfl] at hs;have KD := Lib.hid (fun W => specDecimal_c n W (by omega) (by omega));rw [hdn] at KD;have KLY := Lib.hid (fun W (hS : SH w w.heap.size (w.heap.size + 2) (.slice a1 m.st.length c1) (.slice a2 m.rs.length c2) (.slice a3 m.ws.length c3) m (.slice a1 m.st.length c1) (.slice a2 m.rs.length c2) (.slice a3 m.ws.length c3) m W) => (sLay_c (.slice a1 m.st.length c1) (.slice a2 m.rs.length c2) (.slice a3 m.ws.length c3) m key dn W (hS.mo.rd HR.out hS.bel) HOK.out HK.out (Nat.le_trans hs (by decide))).mono fun e w' hx => hx.op (hS.mo.rd HR.out hS.bel));clear hE h hdn hs;have cr0 : ∀ W, SH w w.heap.size (w.heap.size + 2) (.slice a1 m.st.length c1) (.slice a2 m.rs.length c2) (.slice a3 m.ws.length c3) m (.slice a1 m.st.length c1) (.slice a2 m.rs.length c2) (.slice a3 m.ws.length c3) m W → W.cell? ⟨w.heap.size, 0, none⟩ = some (.slice a1 m.st.length c1) := fun W h => h.x.cell 0 _ rfl;have cr1 : ∀ W, SH w w.heap.size (w.heap.size + 2) (.slice a1 m.st.length c1) (.slice a2 m.rs.length c2) (.slice a3 m.ws.length c3) m (.slice a1 m.st.length c1) (.slice a2 m.rs.length c2) (.slice a3 m.ws.length c3) m W → W.cell? ⟨w.heap.size, 1, none⟩ = some (.slice a2 m.rs.length c2) := fun W h => h.x.cell 1 _ rfl;have cr2 : ∀ W, SH w w.heap.size (w.heap.size + 2) (.slice a1 m.st.length c1) (.slice a2 m.rs.length c2) (.slice a3 m.ws.length c3) m (.slice a1 m.st.length c1) (.slice a2 m.rs.length c2) (.slice a3 m.ws.length c3) m W → W.cell? ⟨w.heap.size, 2, none⟩ = some (.slice a3 m.ws.length c3) := fun W h => h.x.cell 2 _ rfl;have SX : SH w w.heap.size (w.heap.size + 2) (.slice a1 m.st.length c1) (.slice a2 m.rs.length c2) (.slice a3 m.ws.length c3) m (.slice a1 m.st.length c1) (.slice a2 m.rs.length c2) (.slice a3 m.ws.length c3) m ((w.alloc (.cells #[.slice a1 m.st.length c1, .slice a2 m.rs.length c2, .slice a3 m.ws.length c3] 87)).alloc (.cells #[.slice none 0 0, .slice none 0 0, .slice none 0 0] 87)) := HS0.out;go_enter Tryz.func149, Tryz.ntmps149;go_wp2_with (first | (go_at_call 70; refine (l01In_c _ _ _ _).mono ?_; rintro e w' ⟨rfl, rfl⟩) | fail);go_wp2_with fail;go_region_held3 (fun w' => SH w w.heap.size (w.heap.size + 2) (.slice a1 m.st.length c1) (.slice a2 m.rs.length c2) (.slice a3 m.ws.length c3) m (.slice a1 m.st.length c1) (.slice a2 m.rs.length c2) (.slice a3 m.ws.length c3) m w') (first | with_reducible assumption | with_reducible exact SH.below (by with_reducible assumption) (by with_reducible assumption) | ((repeat (first | with_reducible refine SH.drew ?_ | with_reducible refine SH.set ?_ (by omega) (by omega) (by omega) _ _)); with_reducible assumption)) (first | (go_at_call 199; refine (KD.out _).mono ?_; rintro e w7 ⟨rfl, hbk⟩; have BR1 := Box.below (Box.drew P0.out) hbk) | (go_at_call 177; refine (KLY.out _ (by with_reducible assumption)).mono ?_; rintro e w8 ⟨y1, q1, y2, q2, y3, q3, rfl, hmo8, hbk8⟩; have BR := Box.below BR1 hbk8; have pc0 := BR.cell 0 _ rfl; have pf0 := BR.free 0; have pc1 := BR.cell 1 _ rfl; have pf1 := BR.free 1; have pc2 := BR.cell 2 _ rfl; have pf2 := BR.free 2; have HMO := MOut.base hmo8 (B := w.heap.size + 2) (by have := BR1.1; omega)));go_wp2
  exact bodyPost_ret (v := .agg #[.slice y1 (layM m key dn).st.length q1, .slice y2 (layM m key dn).rs.length q2, .slice y3 (layM m key dn).ws.length q3]) (by simp [results, Tryz.results149, go_sem, *]) rfl ⟨_, _, _, rfl, ((show SH w w.heap.size (w.heap.size + 2) (.slice a1 m.st.length c1) (.slice a2 m.rs.length c2) (.slice a3 m.ws.length c3) m (.slice a1 m.st.length c1) (.slice a2 m.rs.length c2) (.slice a3 m.ws.length c3) m _ from by with_reducible assumption).mo.trans (by (repeat (with_reducible refine MOut.set ?_ (by omega) _ _)); with_reducible exact HMO) (Nat.le_refl _)).base (by omega), (show SH w w.heap.size (w.heap.size + 2) (.slice a1 m.st.length c1) (.slice a2 m.rs.length c2) (.slice a3 m.ws.length c3) m (.slice a1 m.st.length c1) (.slice a2 m.rs.length c2) (.slice a3 m.ws.length c3) m _ from by with_reducible assumption).bel⟩
set_option maxRecDepth 100000 in
set_option maxHeartbeats 4000000 in
theorem sBumped_c (v1 v2 v3 : Value) (m : Mch) (key : ByteArray) (w : World) (h : MRd w v1 v2 v3 m) (ho : MOk 1900000000000 m) (hk : key.size ≤ maxLen) :
 Calls Tryz.prog 148 #[.agg #[v1, v2, v3], .string key] w (SRet v1 v2 v3 m (bumpM m key) (.int .i64 (bumpN m key)) w) := by
 have hnb := numOf_bounds (getKeyS m.st key);have HBM := Lib.hid (show bumpM m key = if 999 < numOfV (getKeyS m.st key) + 1 then lookM m key else setM (lookM m key) key (numOfV (getKeyS m.st key) + 1) from rfl);have HBN := Lib.hid (show bumpN m key = if 999 < numOfV (getKeyS m.st key) + 1 then 0 else numOfV (getKeyS m.st key) + 1 from rfl);generalize bumpM m key = bm at *;generalize bumpN m key = bn at *;have HK := Lib.hid hk;clear hk;obtain ⟨a1, c1, hv1, R1, l1, L1⟩ := h.r1;obtain ⟨a2, c2, hv2, R2, l2, L2⟩ := h.r2;obtain ⟨a3, c3, hv3, R3, l3, L3⟩ := h.r3;subst hv1 hv2 hv3;have HR := Lib.hid h;have HR1 := Lib.hid R1;have HR2 := Lib.hid R2;have HR3 := Lib.hid R3;have B0 := Lib.hid ((Box.new w [.slice a1 m.st.length c1, .slice a2 m.rs.length c2, .slice a3 m.ws.length c3] 87).alloc (.cells #[.slice none 0 0, .slice none 0 0, .slice none 0 0] 87));have P0 := Lib.hid (show Box ((w.alloc (.cells #[.slice a1 m.st.length c1, .slice a2 m.rs.length c2, .slice a3 m.ws.length c3] 87)).alloc (.cells #[.slice none 0 0, .slice none 0 0, .slice none 0 0] 87)) (w.heap.size + 1) [.slice none 0 0, .slice none 0 0, .slice none 0 0] from by
  have h := Box.new (w.alloc (.cells #[.slice a1 m.st.length c1, .slice a2 m.rs.length c2, .slice a3 m.ws.length c3] 87)) [.slice none 0 0, .slice none 0 0, .slice none 0 0] 87;rw [show (w.alloc (.cells #[.slice a1 m.st.length c1, .slice a2 m.rs.length c2, .slice a3 m.ws.length c3] 87)).heap.size = w.heap.size + 1 by simp] at h;exact h)
 have hsz : (((w.alloc (.cells #[.slice a1 m.st.length c1, .slice a2 m.rs.length c2, .slice a3 m.ws.length c3] 87)).alloc (.cells #[.slice none 0 0, .slice none 0 0, .slice none 0 0] 87))).heap.size = w.heap.size + 2 := by simp
 have HS0 := Lib.hid (show SH w w.heap.size (w.heap.size + 2) (.slice a1 m.st.length c1) (.slice a2 m.rs.length c2) (.slice a3 m.ws.length c3) m (.slice a1 m.st.length c1) (.slice a2 m.rs.length c2) (.slice a3 m.ws.length c3) m ((w.alloc (.cells #[.slice a1 m.st.length c1, .slice a2 m.rs.length c2, .slice a3 m.ws.length c3] 87)).alloc (.cells #[.slice none 0 0, .slice none 0 0, .slice none 0 0] 87)) from ⟨B0.out, (by repeat (first | exact Below.refl _ _ | refine Below.drew ?_ | refine below_drewN ?_ _ | refine Below.allocC ?_ _ | refine Below.setCell ?_ (by first | (simp; done) | (simp; omega)) _ | refine Below.chain ?_ (by assumption))), MOut.refl⟩);have KL := Lib.hid (sLook_c (.slice a1 m.st.length c1) (.slice a2 m.rs.length c2) (.slice a3 m.ws.length c3) m key ((w.alloc (.cells #[.slice a1 m.st.length c1, .slice a2 m.rs.length c2, .slice a3 m.ws.length c3] 87)).alloc (.cells #[.slice none 0 0, .slice none 0 0, .slice none 0 0] 87)) (HR.out.below (by repeat (first | exact Below.refl _ _ | refine Below.drew ?_ | refine below_drewN ?_ _ | refine Below.allocC ?_ _ | refine Below.setCell ?_ (by first | (simp; done) | (simp; omega)) _ | refine Below.chain ?_ (by assumption)))) (ho.mono (by omega)));have HOK := Lib.hid (ho.look key);have hgs := get_sz ho.sz key;generalize getKeyS m.st key = s at *;clear h R1 R2 R3 ho;go_enter Tryz.func148, Tryz.ntmps148;go_wp2_with fail;refine KL.out.mono ?_;rintro e w1 ⟨u1, u2, u3, rfl, hmo, hb1⟩;rw [hsz] at hmo;have hrd := hmo.rd (HR.out.below (show Below w.heap.size w ((w.alloc (.cells #[.slice a1 m.st.length c1, .slice a2 m.rs.length c2, .slice a3 m.ws.length c3] 87)).alloc (.cells #[.slice none 0 0, .slice none 0 0, .slice none 0 0] 87)) from (by repeat (first | exact Below.refl _ _ | refine Below.drew ?_ | refine below_drewN ?_ _ | refine Below.allocC ?_ _ | refine Below.setCell ?_ (by first | (simp; done) | (simp; omega)) _ | refine Below.chain ?_ (by assumption))))) hb1;obtain ⟨x1, k1, hx1, _, _, _⟩ := hrd.r1;obtain ⟨x2, k2, hx2, _, _, _⟩ := hrd.r2;obtain ⟨x3, k3, hx3, _, _, _⟩ := hrd.r3;subst hx1 hx2 hx3;have S1 := HS0.out.below hb1;have HX := Lib.hid (S1.put3 (Nat.le_refl _) (by omega) (Nat.le_refl _) hmo);have HPX := Lib.hid (box_far (box_far (box_far (P0.out.below hb1) (show w.heap.size + 1 ≠ w.heap.size by omega) 0 (.slice x1 (lookM m key).st.length k1)) (show w.heap.size + 1 ≠ w.heap.size by omega) 1 (.slice x2 (lookM m key).rs.length k2)) (show w.heap.size + 1 ≠ w.heap.size by omega) 2 (.slice x3 (lookM m key).ws.length k3));have e0 := S1.x.cell 0 _ rfl;have e1 := S1.x.cell 1 _ rfl;have e2 := S1.x.cell 2 _ rfl;have z0 := S1.x.free 0;have z1 := S1.x.free 1;have z2 := S1.x.free 2;clear hmo hb1 hrd S1 KL HS0 B0 P0;have KN := Lib.hid (fun W => specNumOf_c s W);generalize numOfV s = n at *;have hw : IntKind.i64.wrap (n + 1) = n + 1 := by rw [IntKind.wrap_i64]; omega
 go_wp2_with fail;refine (KN.out _).mono ?_;rintro e w2 ⟨rfl, hb2⟩;have S2 := HX.out.below hb2;have P2 := HPX.out.below hb2;have HP2 := Lib.hid P2;have HS2 := Lib.hid S2;clear e0 e1 e2 z0 z1 z2 hb2 HX HPX KN;by_cases hp : 999 < n + 1
 ·have e1 : bm = lookM m key := HBM.out.trans (if_pos hp);have e2 : bn = 0 := HBN.out.trans (if_pos hp);subst e1 e2;have d0 := S2.x.cell 0 _ rfl;have d1 := S2.x.cell 1 _ rfl;have d2 := S2.x.cell 2 _ rfl;have pc0 := P2.cell 0 _ rfl;have pf0 := P2.free 0;have pc1 := P2.cell 1 _ rfl;have pf1 := P2.free 1;have pc2 := P2.cell 2 _ rfl;have pf2 := P2.free 2;clear S2 P2 HBM HBN;go_wp2;exact bodyPost_ret (v := .tuple #[.agg #[.slice x1 (lookM m key).st.length k1, .slice x2 (lookM m key).rs.length k2, .slice x3 (lookM m key).ws.length k3], .int .i64 0]) (by simp [results, Tryz.results148, go_sem, *]) rfl ⟨_, _, _, rfl, MOut.base (B' := w.heap.size + 2) (by (repeat (with_reducible refine MOut.set ?_ (by omega) _ _)); with_reducible exact HS2.out.mo) (by omega), (by (repeat (with_reducible refine Below.setCell ?_ (by simp) _)); with_reducible exact HS2.out.bel)⟩
 ·obtain ⟨dn, hdn⟩ : ∃ dn, decS (n + 1) = dn := ⟨_, rfl⟩;have hin : inB (n + 1) 1 999 = true := inB_iff.2 ⟨by omega, by omega⟩;have hs := numText_size (n + 1);have hnt : numText (n + 1) = dn := by unfold numText; rw [hin, hdn]; rfl
  rw [hnt] at hs;have e1 : bm = layM (lookM m key) key dn := (HBM.out.trans (if_neg hp)).trans (by unfold setM; rw [hnt]);have e2 : bn = n + 1 := HBN.out.trans (if_neg hp);subst e1 e2;have KD := Lib.hid (fun W => specDecimal_c (n + 1) W (by omega) (by omega));rw [hdn] at KD;have KLY := Lib.hid (fun W (hS : SH w w.heap.size (w.heap.size + 2) (.slice a1 m.st.length c1) (.slice a2 m.rs.length c2) (.slice a3 m.ws.length c3) m (.slice x1 (lookM m key).st.length k1) (.slice x2 (lookM m key).rs.length k2) (.slice x3 (lookM m key).ws.length k3) (lookM m key) W) => (sLay_c (.slice x1 (lookM m key).st.length k1) (.slice x2 (lookM m key).rs.length k2) (.slice x3 (lookM m key).ws.length k3) (lookM m key) key dn W (hS.mo.rd HR.out hS.bel) (HOK.out.mono (by omega)) HK.out (Nat.le_trans hs (by decide))).mono fun e w' hx => hx.op (hS.mo.rd HR.out hS.bel));clear hdn hin hs hnt HBM HBN P2;have cr0 : ∀ W, SH w w.heap.size (w.heap.size + 2) (.slice a1 m.st.length c1) (.slice a2 m.rs.length c2) (.slice a3 m.ws.length c3) m (.slice x1 (lookM m key).st.length k1) (.slice x2 (lookM m key).rs.length k2) (.slice x3 (lookM m key).ws.length k3) (lookM m key) W → W.cell? ⟨w.heap.size, 0, none⟩ = some (.slice x1 (lookM m key).st.length k1) := fun W h => h.x.cell 0 _ rfl;have cr1 : ∀ W, SH w w.heap.size (w.heap.size + 2) (.slice a1 m.st.length c1) (.slice a2 m.rs.length c2) (.slice a3 m.ws.length c3) m (.slice x1 (lookM m key).st.length k1) (.slice x2 (lookM m key).rs.length k2) (.slice x3 (lookM m key).ws.length k3) (lookM m key) W → W.cell? ⟨w.heap.size, 1, none⟩ = some (.slice x2 (lookM m key).rs.length k2) := fun W h => h.x.cell 1 _ rfl;have cr2 : ∀ W, SH w w.heap.size (w.heap.size + 2) (.slice a1 m.st.length c1) (.slice a2 m.rs.length c2) (.slice a3 m.ws.length c3) m (.slice x1 (lookM m key).st.length k1) (.slice x2 (lookM m key).rs.length k2) (.slice x3 (lookM m key).ws.length k3) (lookM m key) W → W.cell? ⟨w.heap.size, 2, none⟩ = some (.slice x3 (lookM m key).ws.length k3) := fun W h => h.x.cell 2 _ rfl;go_wp2_with fail;go_region_held3 (fun w' => SH w w.heap.size (w.heap.size + 2) (.slice a1 m.st.length c1) (.slice a2 m.rs.length c2) (.slice a3 m.ws.length c3) m (.slice x1 (lookM m key).st.length k1) (.slice x2 (lookM m key).rs.length k2) (.slice x3 (lookM m key).ws.length k3) (lookM m key) w') (first | with_reducible assumption | with_reducible exact SH.below (by with_reducible assumption) (by with_reducible assumption) | ((repeat (first | with_reducible refine SH.drew ?_ | with_reducible refine SH.set ?_ (by omega) (by omega) (by omega) _ _)); with_reducible assumption)) (first | (go_at_call 199; refine (KD.out _).mono ?_; rintro e w7 ⟨rfl, hbk⟩; have BR1 := Box.below (Box.drew HP2.out) hbk) | (go_at_call 177; refine (KLY.out _ (by with_reducible assumption)).mono ?_; rintro e w8 ⟨y1, q1, y2, q2, y3, q3, rfl, hmo8, hbk8⟩; have BR := Box.below BR1 hbk8; have pc0 := BR.cell 0 _ rfl; have pf0 := BR.free 0; have pc1 := BR.cell 1 _ rfl; have pf1 := BR.free 1; have pc2 := BR.cell 2 _ rfl; have pf2 := BR.free 2; have HMO := MOut.base hmo8 (B := w.heap.size + 2) (by have := BR1.1; omega)));go_wp2
  exact bodyPost_ret (v := .tuple #[.agg #[.slice y1 (layM (lookM m key) key dn).st.length q1, .slice y2 (layM (lookM m key) key dn).rs.length q2, .slice y3 (layM (lookM m key) key dn).ws.length q3], .int .i64 (n + 1)]) (by simp [results, Tryz.results148, go_sem, *]) rfl ⟨_, _, _, rfl, ((show SH w w.heap.size (w.heap.size + 2) (.slice a1 m.st.length c1) (.slice a2 m.rs.length c2) (.slice a3 m.ws.length c3) m (.slice x1 (lookM m key).st.length k1) (.slice x2 (lookM m key).rs.length k2) (.slice x3 (lookM m key).ws.length k3) (lookM m key) _ from by with_reducible assumption).mo.trans (by (repeat (with_reducible refine MOut.set ?_ (by omega) _ _)); with_reducible exact HMO) (Nat.le_refl _)).base (by omega), (show SH w w.heap.size (w.heap.size + 2) (.slice a1 m.st.length c1) (.slice a2 m.rs.length c2) (.slice a3 m.ws.length c3) m (.slice x1 (lookM m key).st.length k1) (.slice x2 (lookM m key).rs.length k2) (.slice x3 (lookM m key).ws.length k3) (lookM m key) _ from by with_reducible assumption).bel⟩
end Go.Proofs.YtihghflppegnmaaGreatDoor
