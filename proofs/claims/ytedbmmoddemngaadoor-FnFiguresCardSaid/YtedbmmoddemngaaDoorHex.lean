/- Contracts: Hex of both sides: two figures a byte. Conditions: the bounds that any Go string meets. -/
import Derived.Test.YtedbmmoddemngaaDoorRun
import Derived.Test.YtedbmmoddemngaaDoorFind
import Derived.Test.YtedbmmoddemngaaDoorShelf
import Derived.Laws.IdiomStrings
import Derived.Shelf.Hex.Encode
import Derived.Shelf.Hex.More
namespace Go.Proofs.YtedbmmoddemngaaDoor
open Go.RowKit
attribute [local go_sem ↓] Go.wp_at_zero Go.wp_at_succ
def hexS (s : ByteArray) : ByteArray := ⟨(Lib.Hx.encode s.data.toList).toArray⟩
theorem hexS_size (s : ByteArray) : (hexS s).size = 2 * s.size := by
  show (Lib.Hx.encode s.data.toList).toArray.size = _
  rw [List.size_toArray, Lib.Hx.encode_length]; simp
def hexOk (s : ByteArray) : Bool := decide (s.size ≤ 20000)
def hexV (s : ByteArray) : ByteArray := if s.size ≤ 20000 then hexS s else ByteArray.empty
theorem hex_yes {s : ByteArray} (h : s.size ≤ 20000) : hexOk s = true ∧ hexV s = hexS s := by simp [hexOk, hexV, h]
theorem hex_no {s : ByteArray} (h : 20000 < s.size) : hexOk s = false ∧ hexV s = ByteArray.empty := by
  simp [hexOk, hexV, Nat.not_le.2 h]

set_option maxRecDepth 100000 in
set_option maxHeartbeats 1000000 in
theorem implHex_c (s : ByteArray) (w : World) :
    Calls Tryd.prog 27 #[.string s] w fun e w' => e = .returned (.tuple #[.string (hexV s), .bool (hexOk s)]) ∧ Below w.heap.size w w' := by
  by_cases h : s.size ≤ 20000
  · have p : ¬ (20000 : Int) < (s.size : Int) := by omega
    have HV := Lib.hid (hex_yes h)
    obtain ⟨C, hC⟩ : ∃ C, C = grownCap w s.size 0 5 := ⟨_, rfl⟩
    obtain ⟨W1, hW1⟩ : ∃ W1, W1 = w.drew.alloc (.cells (bytesRow s C) 5 ((bytesRow s C).size, (bytesRow s C).size + 1)) := ⟨_, rfl⟩
    have hcv : (convert 9 37 (.string s)).run Tryd.prog w = .ok (.slice (some ⟨w.heap.size, 0, none⟩) s.size C) W1 := by
      rw [hW1, hC]
      exact run_bytes_of_string w 9 37 5 s Tryd.underlying9 Tryd.underlying37 Tryd.underlying5
    have HB := Lib.hid (show Below w.heap.size w W1 by rw [hW1]; exact ((Below.refl _ _).drew).alloc (Nat.le_refl _) _)
    have K := Lib.hid (Tryd.hex_EncodeToString_bytes w.heap.size 0 C s.data.toList W1 (fun i hi => by
      have hi' : i < s.data.size := by simpa using hi
      rw [hW1, Nat.zero_add]
      simp only [World.cell?, World.alloc, World.drew]
      have := bytesRow_at s C i hi'
      simp [this]) (by rw [hW1]; simp) (by simp; omega))
    have hln : s.data.toList.length = s.size := by simp
    rw [hln] at K
    clear hC hW1 hln
    go_enter Tryd.func27, Tryd.ntmps27
    go_wp2_with fail
    refine K.out.mono ?_
    rintro e w2 ⟨rfl, hb2⟩
    go_wp2
    go_ret2
    exact ⟨by rw [HV.out.1, HV.out.2]; rfl, HB.out.trans (hb2.mono HB.out.size)⟩
  · have p : (20000 : Int) < (s.size : Int) := by omega
    have HV := Lib.hid (hex_no (Nat.not_le.1 h))
    clear h
    go_enter Tryd.func27, Tryd.ntmps27
    go_wp2
    go_ret2
    exact ⟨by rw [HV.out.1, HV.out.2]; rfl, (by repeat (first | exact Below.refl _ _ | refine Below.drew ?_ | refine below_drewN ?_ _ | refine Below.allocC ?_ _ | refine Below.setCell ?_ (by first | (simp; done) | (simp; omega)) _ | refine Below.chain ?_ (by assumption)))⟩

theorem digit_lo {d : Nat} (h : d < 10) : ((Lib.Hx.digit d).toNat : Int) = 48 + d := by
  match d, h with
  | 0, _ | 1, _ | 2, _ | 3, _ | 4, _ | 5, _ | 6, _ | 7, _ | 8, _ | 9, _ => rfl
theorem digit_hi {d : Nat} (h : 10 ≤ d) (h2 : d < 16) : ((Lib.Hx.digit d).toNat : Int) = 87 + d := by
  have : d = 10 ∨ d = 11 ∨ d = 12 ∨ d = 13 ∨ d = 14 ∨ d = 15 := by omega
  rcases this with rfl | rfl | rfl | rfl | rfl | rfl <;> rfl
theorem figure_c (d : Nat) (w : World) (h : d < 16) : Calls Tryd.prog 56 #[.int .i64 (d : Int)] w fun e w' => e = .returned (.int .u8 ((Lib.Hx.digit d).toNat : Int)) ∧ w = w' := by
  have p0 : (0 : Int) ≤ (d : Int) := by omega
  have p1 : (d : Int) < 16 := by omega
  by_cases hl : d < 10
  · have HD := Lib.hid (digit_lo hl)
    have pl : (d : Int) < 10 := by omega
    go_enter Tryd.func56, Tryd.ntmps56
    go_wp2
    go_ret
    exact ⟨by rw [HD.out]; rfl, rfl⟩
  · have HD := Lib.hid (digit_hi (Nat.not_lt.1 hl) h)
    have pl : ¬ (d : Int) < 10 := by omega
    clear hl
    go_enter Tryd.func56, Tryd.ntmps56
    go_wp2
    go_ret
    exact ⟨by rw [HD.out]; simp; omega, rfl⟩
theorem infoByte : (Tryd.prog.info? 5).map (fun i => (i.zero, i.size, i.bytes)) = some (some (.int .u8 0), 1, 1) := by kernel_rfl
def encB (b : UInt8) : List Value := [.int .u8 (b.toNat : Int)]
theorem encB_len (b : UInt8) : (encB b).length = 1 := rfl
theorem encode_snoc (l : List UInt8) (b : UInt8) : Lib.Hx.encode (l ++ [b]) = Lib.Hx.encode l ++ [Lib.Hx.digit (b.toNat / 16), Lib.Hx.digit (b.toNat % 16)] := by
  simp [Lib.Hx.encode, List.flatMap_append]

set_option maxRecDepth 100000 in
set_option maxHeartbeats 4000000 in
theorem specHex_c (s : ByteArray) (w : World) (hs : s.size ≤ maxLen) :
    Calls Tryd.prog 60 #[.string s] w fun e w' => e = .returned (.tuple #[.string (hexV s), .bool (hexOk s)]) ∧ Below w.heap.size w w' := by
  unfold maxLen at hs
  by_cases h : s.size ≤ 20000
  · have p : ¬ (20000 : Int) < (s.size : Int) := by omega
    have HV := Lib.hid (hex_yes h)
    obtain ⟨i0, hi, hzz⟩ := Option.map_eq_some_iff.1 infoByte
    simp only [Prod.mk.injEq] at hzz
    have HI := Lib.hid hi
    have HZ := Lib.hid hzz
    clear hi hzz
    go_enter Tryd.func60, Tryd.ntmps60
    go_wp2
    go_loopw [4, 5] (fun v i wr => ∃ k : Nat, k ≤ s.size ∧ i = .int .i64 k ∧ Hid (wr.ownsRow w.heap.size 5 1 v (2 * k) ((Lib.Hx.encode (s.data.toList.take k)).flatMap encB)) ∧ Below w.heap.size w wr) (fun _ i _ => s.size - (intOf i).toNat)
    case atStart => exact ⟨0, Nat.zero_le _, rfl, Lib.hid ⟨rfl, .inr ⟨w.heap.size, 0, #[], rfl, Nat.le_refl _, heap_alloc_new w _, Nat.le_refl _, Nat.zero_le _, rfl, rfl⟩⟩, (by repeat (first | exact Below.refl _ _ | refine Below.drew ?_ | refine below_drewN ?_ _ | refine Below.allocC ?_ _ | refine Below.setCell ?_ (by first | (simp; done) | (simp; omega)) _ | refine Below.chain ?_ (by assumption)))⟩
    case round =>
      obtain ⟨k, hk, rfl, HW, hb⟩ := hrel
      by_cases hlt : k < s.size
      · have p1 : (0 : Int) ≤ (k : Int) := by omega
        have p2 : (k : Int) < (s.size : Int) := by omega
        have hn : s[k].toNat < 256 := s[k].toNat_lt
        have HS := Lib.hid (show Lib.Hx.encode (s.data.toList.take (k + 1)) = Lib.Hx.encode (s.data.toList.take k) ++ [Lib.Hx.digit (s[k].toNat / 16), Lib.Hx.digit (s[k].toNat % 16)] from by
          rw [List.take_succ_eq_append_getElem (by simpa using hlt), encode_snoc]; rfl)
        have hw0 : IntKind.i64.wrap (s[k].toNat : Int) = (s[k].toNat : Int) := by rw [IntKind.wrap_i64]; omega
        have HF1 := Lib.hid (show ∀ W, Calls Tryd.prog 56 #[.int .i64 (IntKind.i64.wrap ((IntKind.i64.wrap (s[k].toNat : Int)).tdiv 16))] W fun e w' => e = .returned (.int .u8 ((Lib.Hx.digit (s[k].toNat / 16)).toNat : Int)) ∧ W = w' from fun W => by
          have e : IntKind.i64.wrap ((IntKind.i64.wrap (s[k].toNat : Int)).tdiv 16) = ((s[k].toNat / 16 : Nat) : Int) := by
            rw [hw0, Int.tdiv_eq_ediv_of_nonneg (by omega), IntKind.wrap_i64]; omega
          rw [e]; exact figure_c (s[k].toNat / 16) W (by omega))
        have HF2 := Lib.hid (show ∀ W, Calls Tryd.prog 56 #[.int .i64 (((IntKind.i64.wrap (s[k].toNat : Int)).tmod 16))] W fun e w' => e = .returned (.int .u8 ((Lib.Hx.digit (s[k].toNat % 16)).toNat : Int)) ∧ W = w' from fun W => by
          have e : ((IntKind.i64.wrap (s[k].toNat : Int)).tmod 16) = ((s[k].toNat % 16 : Nat) : Int) := by
            rw [hw0, Int.tmod_eq_emod_of_nonneg (by omega)]; omega
          rw [e]; exact figure_c (s[k].toNat % 16) W (by omega))
        clear hw0
        have q0 : (0 : Int) ≤ (s[k].toNat : Int) := by omega
        have q1 : (s[k].toNat : Int) ≤ 255 := by omega
        generalize Lib.Hx.digit (s[k].toNat / 16) = d1 at *
        generalize Lib.Hx.digit (s[k].toNat % 16) = d2 at *
        go_wp2_with fail
        go_region_held3 (fun w' => True) (trivial) (first
          | (go_at_call 56; (with_reducible refine (HF1.out _).mono ?_); rintro e w1 ⟨rfl, rfl⟩)
          | (go_at_call 56; (with_reducible refine (HF2.out _).mono ?_); rintro e w1 ⟨rfl, rfl⟩)
          | (refine step_append_own2 _ (by rfl) _ _ _ (by rfl) w.heap.size 5 i0 _ 1 1 Tryd.underlying37 HI.out HZ.out.1 HZ.out.2.1 HZ.out.2.2 rfl (by decide) _ _ _ (by rfl) (show World.ownsRow _ _ _ _ _ _ _ from HW.out.alloc _) ⟨wr.heap.size, 0, none⟩ 2 2 [.int .u8 (d1.toNat : Int), .int .u8 (d2.toNat : Int)] (by rfl) (by rfl) (box_news (Box.new _ _ _)) (by intro u hu; simp at hu; rcases hu with rfl | rfl <;> rfl) (by unfold maxLen; omega) (by omega) (by have := hb.size; simp; omega) ?_; intro v' w' o2 g2 or2))
        all_goals
          have h := OwnStep.fresh (w := w) (W := (wr.alloc (.cells #[.int .u8 (d1.toNat : Int), .int .u8 (d2.toNat : Int)] 5)).drew) (e := .returned v') (w' := w') ((by repeat (first | exact Below.refl _ _ | refine Below.drew ?_ | refine below_drewN ?_ _ | refine Below.allocC ?_ _ | refine Below.setCell ?_ (by first | (simp; done) | (simp; omega)) _ | refine Below.chain ?_ (by assumption)))) (show World.ownsRow _ _ _ _ _ _ _ from HW.out.alloc _) ⟨v', rfl, o2, g2, or2⟩
          have B2 := Lib.hid (show Below w.heap.size w w' by obtain ⟨_, _, _, h⟩ := h; exact h)
          have HW2 := Lib.hid (show w'.ownsRow w.heap.size 5 1 v' (2 * (k + 1)) ((Lib.Hx.encode (s.data.toList.take (k + 1))).flatMap encB) from by
            rw [HS.out, List.flatMap_append]; exact o2)
          clear o2 g2 or2 h HW
          go_wp2
          go_roundw
          case rel => exact ⟨k + 1, by omega, by go_num, HW2, B2.out⟩
          case measure => simp [intOf]; omega
      · obtain rfl : k = s.size := by omega
        have p2 : ¬ (s.size : Int) < (s.size : Int) := by omega
        rw [List.take_of_length_le (by simp)] at HW
        have hl : (Lib.Hx.encode s.data.toList).length = 2 * s.size := by rw [Lib.Hx.encode_length]; simp
        obtain ⟨E, hE⟩ : ∃ E, E = Lib.Hx.encode s.data.toList := ⟨_, rfl⟩
        rw [← hE] at HW hl
        have hcv : (convert 37 9 u4).run Tryd.prog wr = .ok (.string (hexS s)) wr := by
          have hx : hexS s = ⟨E.toArray⟩ := by rw [hE]; rfl
          rw [hx]
          rcases HW.out.2 with ⟨rfl, h0⟩ | ⟨g, cap, cur, rfl, _, hg, _⟩
          · have : E = [] := List.eq_nil_of_length_eq_zero (by omega)
            subst this
            rfl
          · rw [← hl]
            refine run_convert_bytes_back wr _ _ 5 ⟨g, 0, none⟩ cap E Tryd.underlying37 Tryd.underlying5 Tryd.underlying9 (fun j hj => ?_)
            have hx := getElem_flatMap encB_len E j 0 E[j] (List.getElem?_eq_getElem hj) (by decide)
            rw [Nat.mul_one, Nat.add_zero] at hx
            exact HW.out.cells (g := g) rfl j _ hx
        clear hE hl HW
        go_wp2
        go_ret2
        exact ⟨by rw [HV.out.1, HV.out.2]; rfl, hb⟩
  · have p : (20000 : Int) < (s.size : Int) := by omega
    have HV := Lib.hid (hex_no (Nat.not_le.1 h))
    clear h
    go_enter Tryd.func60, Tryd.ntmps60
    go_wp2
    go_ret2
    exact ⟨by rw [HV.out.1, HV.out.2]; rfl, (by repeat (first | exact Below.refl _ _ | refine Below.drew ?_ | refine below_drewN ?_ _ | refine Below.allocC ?_ _ | refine Below.setCell ?_ (by first | (simp; done) | (simp; omega)) _ | refine Below.chain ?_ (by assumption)))⟩
set_option maxRecDepth 100000 in
/-- A row of bytes turned to a string. -/
theorem convB (wr : World) (base _T : Nat) (v : Value) (E : List UInt8) (n : Nat) (hn : n = E.length) (HW : wr.ownsRow base 5 1 v n (E.flatMap encB)) :
    (convert 37 9 v).run Tryd.prog wr = .ok (.string ⟨E.toArray⟩) wr := by
  rcases HW.2 with ⟨rfl, h0⟩ | ⟨g, cap, cur, rfl, _, hg, _⟩
  · have : E = [] := List.eq_nil_of_length_eq_zero (by omega)
    subst this
    rfl
  · subst hn
    refine run_convert_bytes_back wr _ _ 5 ⟨g, 0, none⟩ cap E Tryd.underlying37 Tryd.underlying5 Tryd.underlying9 (fun j hj => ?_)
    have hx := getElem_flatMap encB_len E j 0 E[j] (List.getElem?_eq_getElem hj) (by decide)
    rw [Nat.mul_one, Nat.add_zero] at hx
    exact HW.cells (g := g) rfl j _ hx
end Go.Proofs.YtedbmmoddemngaaDoor
