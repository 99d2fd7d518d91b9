/- Lemmas and contracts that the last text leans on, joined: KeysUnder, Unhex, Outs, NameOk, CallOk, Pg, PgCost, KeysK, Reg. Conditions: as each theorem says. -/
import Derived.Test.YtihghflppegnmaaGreatDoorCw1
import Derived.OwnWalk
import Derived.Test.YtihghflppegnmaaGreatDoorCw3
import Derived.Lib.ShelfFacts
import Derived.Test.YtihghflppegnmaaGreatDoorCw2
import Derived.Test.YtihghflppegnmaaGreatDoorShelf
import Derived.Test.YtihghflppegnmaaGreatDoorProg
import Derived.WalkKit
import Derived.WalkSpells
import Derived.WalkLawsBesides
import Derived.Lib.Hide
import Derived.OrdersHeld
import Derived.Deep.RegionHeld3
set_option linter.unusedSimpArgs false
set_option linter.unusedVariables false
namespace Go.Proofs.YtihghflppegnmaaGreatDoor
open Go.RowKit
attribute [local go_sem ↓] Go.wp_at_zero Go.wp_at_succ
def keysU (xs : List (ByteArray × ByteArray)) (p : ByteArray) : List ByteArray := (xs.filter (fun c => beginsB c.1 p)).map (·.1)
theorem keysU_len (xs : List (ByteArray × ByteArray)) (p : ByteArray) : (keysU xs p).length ≤ xs.length := by
 unfold keysU; rw [List.length_map]; exact List.length_filter_le _ _
theorem keysU_hit {xs : List (ByteArray × ByteArray)} {p : ByteArray} {k : Nat} {x : ByteArray × ByteArray} (hx : xs[k]? = some x) (h : beginsB x.1 p = true) : keysU (xs.take (k + 1)) p = keysU (xs.take k) p ++ [x.1] := by
 unfold keysU; rw [take_snoc_of hx, List.filter_append]; simp [h]
theorem keysU_miss {xs : List (ByteArray × ByteArray)} {p : ByteArray} {k : Nat} {x : ByteArray × ByteArray} (hx : xs[k]? = some x) (h : beginsB x.1 p = false) : keysU (xs.take (k + 1)) p = keysU (xs.take k) p := by
 unfold keysU; rw [take_snoc_of hx, List.filter_append]; simp [h]
theorem keysU_own {w' : World} {base T : Nat} {v' : Value} {xs : List (ByteArray × ByteArray)} {p x0 : ByteArray} {k : Nat} (hs : keysU (xs.take (k + 1)) p = keysU (xs.take k) p ++ [x0])
 (h : w'.ownsRow base T 1 v' ((keysU (xs.take k) p).length + 1) ((keysU (xs.take k) p).flatMap encS ++ [.string x0])) : w'.ownsRow base T 1 v' (keysU (xs.take (k + 1)) p).length ((keysU (xs.take (k + 1)) p).flatMap encS) := by
 rw [hs, List.length_append, List.flatMap_append];exact h
set_option maxRecDepth 100000 in
set_option maxHeartbeats 3200000 in
theorem specKeysUnder_c (a : Option Addr) (cap : Nat) (xs : List (ByteArray × ByteArray)) (p : ByteArray) (w : World) (hlen : xs.length ≤ 2100000000000) (hr : Reads w a 2 encC xs) (ho : ∀ x ∈ xs, x.1.size ≤ maxLen ∧ x.2.size ≤ maxLen) (hp : p.size ≤ maxLen) :
 Calls Tryz.prog 221 #[.slice a xs.length cap, .string p] w (Fresh 9 1 ((keysU xs p).flatMap encS) (keysU xs p).length w) := by
 obtain ⟨i0, hi, hzz⟩ := Option.map_eq_some_iff.1 infoString;simp only [Prod.mk.injEq] at hzz;have HI := Lib.hid hi;have HZ := Lib.hid hzz;have HR := Lib.hid hr;have HO := Lib.hid ho;have HP := Lib.hid hp;clear hr ho hp hi hzz;go_enter Tryz.func221, Tryz.ntmps221;go_wp2;go_loopw [5, 6] (fun v i wr => ∃ k : Nat, k ≤ xs.length ∧ i = .int .i64 k ∧ Hid (wr.ownsRow w.heap.size 9 1 v (keysU (xs.take k) p).length ((keysU (xs.take k) p).flatMap encS)) ∧ Below w.heap.size w wr) (fun _ i _ => xs.length - (intOf i).toNat)
 case atStart =>
  refine ⟨0, Nat.zero_le _, rfl, ?_, (by repeat (first | exact Below.refl _ _ | refine Below.drew ?_ | refine below_drewN ?_ _ | refine Below.allocC ?_ _ | refine Below.setCell ?_ (by first | (simp; done) | (simp; omega)) _ | refine Below.chain ?_ (by assumption)))⟩;simp only [List.take_zero, show keysU [] p = [] from rfl, List.length_nil, List.flatMap_nil];exact Lib.hid ⟨rfl, .inr ⟨w.heap.size, 0, #[], rfl, Nat.le_refl _, heap_alloc_new w _, Nat.le_refl _, Nat.zero_le _, rfl, rfl⟩⟩
 case round =>
  obtain ⟨k, hk, rfl, HW, hb⟩ := hrel;by_cases hlt : k < xs.length
  ·obtain ⟨x, hx⟩ := some_of_lt hlt;obtain ⟨b, off, hab, c0, c1⟩ := readFC HR.out hb hx;subst hab;have p1 : (0 : Int) ≤ (k : Int) := by omega
   have p2 : (k : Int) < (xs.length : Int) := by omega
   have HX1 := Lib.hid (HO.out x (List.mem_of_getElem? hx)).1;have HX := Lib.hid hx;clear hx;obtain ⟨x0, x1⟩ := x;dsimp only at c0 c1 HX1;have HC := Lib.hid (fun W => begins_c x0 p W HX1.out HP.out);cases hq : beginsB x0 p with
   | false =>
    have hs := Lib.hid (keysU_miss (p := p) HX.out hq);rw [hq] at HC;clear hq;go_wp2_with fail;refine (HC.out _).mono ?_;rintro e w' ⟨rfl, rfl⟩;go_wp2;go_roundw
    case rel => exact ⟨k + 1, by omega, by go_num, by rw [hs.out]; exact HW, (by repeat (first | exact Below.refl _ _ | refine Below.drew ?_ | refine below_drewN ?_ _ | refine Below.allocC ?_ _ | refine Below.setCell ?_ (by first | (simp; done) | (simp; omega)) _ | refine Below.chain ?_ (by assumption)))⟩
    case measure => simp [intOf]; omega
   | true =>
    have hs := Lib.hid (keysU_hit (p := p) HX.out hq);rw [hq] at HC;clear hq;have hkl := Lib.hid (Nat.le_trans (keysU_len (xs.take k) p) (List.length_take_le _ _));go_wp2_with fail;refine (HC.out _).mono ?_;rintro e w' ⟨rfl, rfl⟩;go_wp2_with (at_builtin; refine wpList_append_own _ rfl _ _ 29 rfl w.heap.size 9 i0 (.string ⟨#[]⟩) 1 16 Tryz.underlying29 HI.out HZ.out.1 HZ.out.2.1 HZ.out.2.2 rfl (by decide) _ _ _ rfl (HW.out.alloc _) ⟨wr.heap.size, 0, none⟩ 1 1 [.string x0] rfl rfl ?c1 ?c2 ?c3 ?c4 ?c5 ?_)
    case c1 =>
     intro j u hj
     match j, hj with
     | 0, hj => simp at hj; subst hj; simp [Addr.add]
    case c2 => intro u hu; simp at hu; subst hu; rfl
    case c3 => have := hkl.out; unfold maxLen; omega
    case c4 => have := hkl.out; omega
    case c5 => have := hb.size; simp; omega
    intro v' w' hown' hgrow _;have HW2 := Lib.hid (keysU_own hs.out hown');have HB2 := Lib.hid (below_of_own (show Below w.heap.size w _ from (by repeat (first | exact Below.refl _ _ | refine Below.drew ?_ | refine below_drewN ?_ _ | refine Below.allocC ?_ _ | refine Below.setCell ?_ (by first | (simp; done) | (simp; omega)) _ | refine Below.chain ?_ (by assumption)))) (HW.out.alloc _) hgrow);clear hown' hgrow HW;go_wp2;go_roundw
    case rel => exact ⟨k + 1, by omega, by go_num, HW2, HB2.out⟩
    case measure => simp [intOf]; omega
  ·obtain rfl : k = xs.length := by omega
   rw [List.take_of_length_le (Nat.le_refl _)] at HW;have p2 : ¬ (xs.length : Int) < (xs.length : Int) := by omega
   go_wp2;go_ret;exact ⟨_, rfl, HW.out, hb⟩
set_option maxRecDepth 100000 in
set_option maxHeartbeats 3200000 in
theorem implKeysUnder_c (a : Option Addr) (cap : Nat) (xs : List (ByteArray × ByteArray)) (p : ByteArray) (w : World) (hlen : xs.length ≤ 2100000000000) (hr : Reads w a 2 encC xs) (ho : ∀ x ∈ xs, x.1.size ≤ maxLen ∧ x.2.size ≤ maxLen) (hp : p.size ≤ maxLen) :
 Calls Tryz.prog 203 #[.slice a xs.length cap, .string p] w (Fresh 9 1 ((keysU xs p).flatMap encS) (keysU xs p).length w) := by
 obtain ⟨i0, hi, hzz⟩ := Option.map_eq_some_iff.1 infoString;simp only [Prod.mk.injEq] at hzz;have HI := Lib.hid hi;have HZ := Lib.hid hzz;have HR := Lib.hid hr;have HO := Lib.hid ho;have HP := Lib.hid hp;clear hr ho hp hi hzz;go_enter Tryz.func203, Tryz.ntmps203;go_wp2;go_loopw [5, 10] (fun v i wr => ∃ k : Nat, k ≤ xs.length ∧ i = .int .i64 k ∧ Hid (wr.ownsRow w.heap.size 9 1 v (keysU (xs.take k) p).length ((keysU (xs.take k) p).flatMap encS)) ∧ Below w.heap.size w wr) (fun _ i _ => xs.length - (intOf i).toNat)
 case atStart =>
  refine ⟨0, Nat.zero_le _, rfl, ?_, (by repeat (first | exact Below.refl _ _ | refine Below.drew ?_ | refine below_drewN ?_ _ | refine Below.allocC ?_ _ | refine Below.setCell ?_ (by first | (simp; done) | (simp; omega)) _ | refine Below.chain ?_ (by assumption)))⟩;simp only [List.take_zero, show keysU [] p = [] from rfl, List.length_nil, List.flatMap_nil];exact Lib.hid (World.ownsRow_nil _ _ _ _)
 case round =>
  obtain ⟨k, hk, rfl, HW, hb⟩ := hrel;by_cases hlt : k < xs.length
  ·obtain ⟨x, hx⟩ := some_of_lt hlt;obtain ⟨b, off, hab, c0, c1⟩ := readFC HR.out hb hx;subst hab;have p1 : (0 : Int) ≤ (k : Int) := by omega
   have p2 : (k : Int) < (xs.length : Int) := by omega
   have HX1 := Lib.hid (HO.out x (List.mem_of_getElem? hx)).1;have HX := Lib.hid hx;clear hx;obtain ⟨x0, x1⟩ := x;dsimp only at c0 c1 HX1;have HC := Lib.hid (fun W => hasPrefix_c x0 p W HX1.out HP.out);cases hq : beginsB x0 p with
   | false =>
    have hs := Lib.hid (keysU_miss (p := p) HX.out hq);rw [hq] at HC;clear hq;go_wp2_with fail;refine (HC.out _).mono ?_;rintro e w' ⟨rfl, rfl⟩;go_wp2;go_roundw
    case rel => exact ⟨k + 1, by omega, by go_num, by rw [hs.out]; exact Lib.hid (HW.out.alloc _), (by repeat (first | exact Below.refl _ _ | refine Below.drew ?_ | refine below_drewN ?_ _ | refine Below.allocC ?_ _ | refine Below.setCell ?_ (by first | (simp; done) | (simp; omega)) _ | refine Below.chain ?_ (by assumption)))⟩
    case measure => simp [intOf]; omega
   | true =>
    have hs := Lib.hid (keysU_hit (p := p) HX.out hq);rw [hq] at HC;clear hq;have hkl := Lib.hid (Nat.le_trans (keysU_len (xs.take k) p) (List.length_take_le _ _));go_wp2_with fail;refine (HC.out _).mono ?_;rintro e w' ⟨rfl, rfl⟩;go_wp2_with (at_builtin; refine wpList_append_own _ rfl _ _ 29 rfl w.heap.size 9 i0 (.string ⟨#[]⟩) 1 16 Tryz.underlying29 HI.out HZ.out.1 HZ.out.2.1 HZ.out.2.2 rfl (by decide) _ _ _ rfl ((HW.out.alloc _).alloc _) ⟨wr.heap.size + 1, 0, none⟩ 1 1 [.string x0] rfl rfl ?c1 ?c2 ?c3 ?c4 ?c5 ?_)
    case c1 =>
     intro j u hj
     match j, hj with
     | 0, hj => simp at hj; subst hj; simp [Addr.add]
    case c2 => intro u hu; simp at hu; subst hu; rfl
    case c3 => have := hkl.out; unfold maxLen; omega
    case c4 => have := hkl.out; omega
    case c5 => have := hb.size; simp; omega
    intro v' w' hown' hgrow _;have HW2 := Lib.hid (keysU_own hs.out hown');have HB2 := Lib.hid (below_of_own (show Below w.heap.size w _ from (by repeat (first | exact Below.refl _ _ | refine Below.drew ?_ | refine below_drewN ?_ _ | refine Below.allocC ?_ _ | refine Below.setCell ?_ (by first | (simp; done) | (simp; omega)) _ | refine Below.chain ?_ (by assumption)))) ((HW.out.alloc _).alloc _) hgrow);clear hown' hgrow HW;go_wp2;go_roundw
    case rel => exact ⟨k + 1, by omega, by go_num, HW2, HB2.out⟩
    case measure => simp [intOf]; omega
  ·obtain rfl : k = xs.length := by omega
   rw [List.take_of_length_le (Nat.le_refl _)] at HW;have p2 : ¬ (xs.length : Int) < (xs.length : Int) := by omega
   go_wp2;go_ret;exact ⟨_, rfl, HW.out, hb⟩
end Go.Proofs.YtihghflppegnmaaGreatDoor
namespace Go.Proofs.YtihghflppegnmaaGreatDoor
open Go.RowKit
attribute [local go_sem ↓] Go.wp_at_zero Go.wp_at_succ
open Classical in
noncomputable def unhexOk (s : ByteArray) : Bool := decide ((Lib.Hx.decode s.data.toList).1.length ≤ 20000 ∧ Lib.Hx.encode (Lib.Hx.decode s.data.toList).1 = s.data.toList)
noncomputable def unhexV (s : ByteArray) : ByteArray := if unhexOk s = true then ⟨(Lib.Hx.decode s.data.toList).1.toArray⟩ else ByteArray.empty
theorem unhex_yes {s : ByteArray} {r : List UInt8} (h : Lib.Hx.encode r = s.data.toList) (hl : r.length ≤ 20000) : unhexOk s = true ∧ unhexV s = ⟨r.toArray⟩ := by
 have hd : Lib.Hx.decode s.data.toList = (r, .ok) := by rw [← h]; exact Lib.Hx.decode_encode r
 have ho : unhexOk s = true := by unfold unhexOk; rw [hd]; simp [hl, h]
 exact ⟨ho, by unfold unhexV; rw [if_pos ho, hd]⟩
theorem unhex_no {s : ByteArray} (h : ∀ r : List UInt8, r.length ≤ 20000 → Lib.Hx.encode r ≠ s.data.toList) : unhexOk s = false ∧ unhexV s = ByteArray.empty := by
 have ho : unhexOk s = false := by
  rw [← Bool.not_eq_true];intro e;unfold unhexOk at e;have := of_decide_eq_true e;exact h _ this.1 this.2
 exact ⟨ho, by unfold unhexV; rw [ho]; rfl⟩
theorem unhex_ok {s : ByteArray} (h : unhexOk s = true) : ∃ r : List UInt8, r.length ≤ 20000 ∧ Lib.Hx.encode r = s.data.toList ∧ unhexV s = ⟨r.toArray⟩ := by
 have e := h;unfold unhexOk at e;have := of_decide_eq_true e;exact ⟨_, this.1, this.2, by unfold unhexV; rw [if_pos h]⟩
theorem unhexV_size (s : ByteArray) : (unhexV s).size ≤ s.size := by
 cases h : unhexOk s with
 | false => unfold unhexV; rw [h]; exact Nat.zero_le _
 | true =>
  obtain ⟨r, _, h2, h3⟩ := unhex_ok h;rw [h3];have := congrArg List.length h2;rw [Lib.Hx.encode_length] at this;show r.toArray.size ≤ _;simp at this ⊢;omega
def lowV (b : UInt8) : Int := if 48 ≤ b.toNat ∧ b.toNat ≤ 57 then (b.toNat : Int) - 48 else if 97 ≤ b.toNat ∧ b.toNat ≤ 102 then (b.toNat : Int) - 87 else -1
theorem lowV_digit (d : Nat) (h : d < 16) : lowV (Lib.Hx.digit d) = d := by
 by_cases h1 : d < 10
 ·have := digit_lo h1;unfold lowV;rw [if_pos (by omega)]; omega
 ·have := digit_hi (Nat.not_lt.1 h1) h;unfold lowV;rw [if_neg (by omega), if_pos (by omega)]; omega
theorem digit_lowV {b : UInt8} (h : 0 ≤ lowV b) : ∃ d : Nat, d < 16 ∧ lowV b = d ∧ Lib.Hx.digit d = b := by
 unfold lowV at h ⊢;split
 ·refine ⟨b.toNat - 48, by omega, by omega, UInt8.toNat_inj.1 ?_⟩;have := digit_lo (d := b.toNat - 48) (by omega);omega
 ·split
  ·refine ⟨b.toNat - 87, by omega, by omega, UInt8.toNat_inj.1 ?_⟩;have := digit_hi (d := b.toNat - 87) (by omega) (by omega);omega
  ·rename_i h1 h2;rw [if_neg h1, if_neg h2] at h;omega
theorem value_c (b : UInt8) (w : World) : Calls Tryz.prog 220 #[.int .u8 (b.toNat : Int)] w fun e w' => e = .returned (.int .i64 (lowV b)) ∧ w = w' := by
 have hlt := b.toNat_lt;have q0 : (0 : Int) ≤ (b.toNat : Int) := by omega
 have q1 : (b.toNat : Int) ≤ 255 := by omega
 by_cases h1 : (48 : Int) ≤ (b.toNat : Int)
 ·by_cases h2 : (b.toNat : Int) ≤ 57
  ·have HL := Lib.hid (show lowV b = (b.toNat : Int) - 48 by unfold lowV; rw [if_pos (by omega)]);go_enter Tryz.func220, Tryz.ntmps220;go_wp2;go_ret;exact ⟨by rw [HL.out]; rfl, rfl⟩
  ·by_cases h3 : (97 : Int) ≤ (b.toNat : Int)
   ·by_cases h4 : (b.toNat : Int) ≤ 102
    ·have HL := Lib.hid (show lowV b = (b.toNat : Int) - 97 + 10 by unfold lowV; rw [if_neg (by omega), if_pos (by omega)]; omega);go_enter Tryz.func220, Tryz.ntmps220;go_wp2;go_ret;exact ⟨by rw [HL.out]; rfl, rfl⟩
    ·have HL := Lib.hid (show lowV b = -1 by unfold lowV; rw [if_neg (by omega), if_neg (by omega)]);go_enter Tryz.func220, Tryz.ntmps220;go_wp2;go_ret;exact ⟨by rw [HL.out]; rfl, rfl⟩
   ·have HL := Lib.hid (show lowV b = -1 by unfold lowV; rw [if_neg (by omega), if_neg (by omega)]);go_enter Tryz.func220, Tryz.ntmps220;go_wp2;go_ret;exact ⟨by rw [HL.out]; rfl, rfl⟩
 ·have HL := Lib.hid (show lowV b = -1 by unfold lowV; rw [if_neg (by omega), if_neg (by omega)]);go_enter Tryz.func220, Tryz.ntmps220;go_wp2;go_ret;exact ⟨by rw [HL.out]; rfl, rfl⟩
theorem value_e (b : UInt8) (x : Int) (w : World) (hx : lowV b = x) : Calls Tryz.prog 220 #[.int .u8 (b.toNat : Int)] w fun e w' => e = .returned (.int .i64 x) ∧ w = w' := by
 rw [← hx]; exact value_c b w
theorem pair_not {l : List UInt8} {k : Nat} {p q : UInt8} (hp : l[2 * k]? = some p) (hq : l[2 * k + 1]? = some q) (h : lowV p < 0 ∨ lowV q < 0) (r : List UInt8) : Lib.Hx.encode r ≠ l := by
 intro e;subst e;have hl := (List.getElem?_eq_some_iff.1 hp).1;rw [Lib.Hx.encode_length] at hl;have hb : r[k]? = some r[k] := List.getElem?_eq_getElem (by omega);obtain ⟨e1, e2⟩ := Lib.Hx.encode_at r k _ hb;rw [hp] at e1;rw [hq] at e2;cases e1;cases e2;have hlt := r[k].toNat_lt;rw [lowV_digit _ (by omega), lowV_digit _ (by omega)] at h;omega
theorem pair_step {l r : List UInt8} {k a b : Nat} {p q : UInt8} (hr : l.take (2 * k) = Lib.Hx.encode r) (hp : l[2 * k]? = some p) (hq : l[2 * k + 1]? = some q) (ha : a < 16) (hb : b < 16) (h1 : Lib.Hx.digit a = p) (h2 : Lib.Hx.digit b = q) :
 l.take (2 * (k + 1)) = Lib.Hx.encode (r ++ [UInt8.ofNat (16 * a + b)]) := by
 rw [show 2 * (k + 1) = 2 * k + 1 + 1 by omega, List.take_add_one, List.take_add_one, hq, hp, hr, encode_snoc];have e : (UInt8.ofNat (16 * a + b)).toNat = 16 * a + b := by rw [UInt8.toNat_ofNat', Nat.mod_eq_of_lt (by omega)]
 rw [e, show (16 * a + b) / 16 = a by omega, show (16 * a + b) % 16 = b by omega, h1, h2];simp
set_option maxRecDepth 100000 in
set_option maxHeartbeats 4000000 in
theorem specUnhex_c (s : ByteArray) (w : World) (hs : s.size ≤ maxLen) :
 Calls Tryz.prog 188 #[.string s] w fun e w' => e = .returned (.tuple #[.string (unhexV s), .bool (unhexOk s)]) ∧ Below w.heap.size w w' := by
 unfold maxLen at hs;by_cases h : (40000 : Int) < (s.size : Int)
 ·have HV := Lib.hid (unhex_no (s := s) (fun r hr e => by
   have := congrArg List.length e;rw [Lib.Hx.encode_length] at this;simp at this;omega))
  go_enter Tryz.func188, Tryz.ntmps188;go_wp2;go_ret2;exact ⟨by rw [HV.out.1, HV.out.2]; rfl, (by repeat (first | exact Below.refl _ _ | refine Below.drew ?_ | refine below_drewN ?_ _ | refine Below.allocC ?_ _ | refine Below.setCell ?_ (by first | (simp; done) | (simp; omega)) _ | refine Below.chain ?_ (by assumption)))⟩
 ·by_cases ho : (s.size : Int) % 2 = 0
  ·obtain ⟨n, hn⟩ : ∃ n, s.size = 2 * n := ⟨s.size / 2, by omega⟩;have hd : ((s.size : Int) % 2 == 0) = true := by simp [ho]
   have hd2 : ((s.size : Int) % 2 != 0) = false := by simp [ho]
   obtain ⟨i0, hi, hzz⟩ := Option.map_eq_some_iff.1 infoByte;simp only [Prod.mk.injEq] at hzz;have HI := Lib.hid hi;have HZ := Lib.hid hzz;have HN := Lib.hid hn;have hn1 : n ≤ 20000 := by omega
   clear hi hzz hn;go_enter Tryz.func188, Tryz.ntmps188;go_wp2;go_loopw [4, 5] (fun v i wr => ∃ (k m : Nat) (r : List UInt8), k ≤ n ∧ r.length = k ∧ i = .int .i64 m ∧ m = 2 * k ∧ Hid (s.data.toList.take m = Lib.Hx.encode r) ∧ Hid (wr.ownsRow w.heap.size 5 1 v k (r.flatMap encB)) ∧ Below w.heap.size w wr) (fun _ i _ => s.size - (intOf i).toNat)
   case atStart => exact ⟨0, 0, [], Nat.zero_le _, rfl, rfl, rfl, Lib.hid rfl, Lib.hid ⟨rfl, .inr ⟨w.heap.size, 0, #[], rfl, Nat.le_refl _, heap_alloc_new w _, Nat.le_refl _, Nat.zero_le _, rfl, rfl⟩⟩, (by repeat (first | exact Below.refl _ _ | refine Below.drew ?_ | refine below_drewN ?_ _ | refine Below.allocC ?_ _ | refine Below.setCell ?_ (by first | (simp; done) | (simp; omega)) _ | refine Below.chain ?_ (by assumption)))⟩
   case round =>
    obtain ⟨k, m, r, hk, hrl, rfl, hm, HT, HW, hb⟩ := hrel;have HM := Lib.hid hm;have HRL := Lib.hid hrl;have hsz := HN.out;by_cases hlt : k < n
    ·have p0 : (0 : Int) ≤ (m : Int) := by omega
     have p1 : (m : Int) < (s.size : Int) := by omega
     have p2 : (m : Int) + 1 < (s.size : Int) := by omega
     have p3 : m < s.size := by omega
     have p4 : m + 1 < s.size := by omega
     have hp : s.data.toList[2 * k]? = some s[m] := by rw [← hm, List.getElem?_eq_getElem (by simpa using p3)]; rfl
     have hq : s.data.toList[2 * k + 1]? = some s[m + 1] := by rw [← hm, List.getElem?_eq_getElem (by simpa using p4)]; rfl
     have HP := Lib.hid hp;have HQ := Lib.hid hq;have hmb : m ≤ 40000 := by omega
     have hkb : k ≤ 20000 := by omega
     have HC1 := Lib.hid (value_c s[m]);have HC2 := Lib.hid (value_c s[m + 1]);have HP3 := Lib.hid p3;have HP4 := Lib.hid p4;clear hp hq hsz hrl hm;by_cases hv1 : lowV s[m] < 0
     ·have HV := Lib.hid (unhex_no (s := s) (fun r _ => pair_not HP.out HQ.out (.inl hv1) r));generalize lowV s[m] = vp at *;generalize lowV s[m + 1] = vq at *;go_wp2_with fail;refine (HC1.out _).mono ?_;rintro e w1 ⟨rfl, rfl⟩;go_wp2_with fail;refine (HC2.out _).mono ?_;rintro e w1 ⟨rfl, rfl⟩;go_wp2;go_ret2;exact ⟨by rw [HV.out.1, HV.out.2]; rfl, hb⟩
     ·by_cases hv2 : lowV s[m + 1] < 0
      ·have HV := Lib.hid (unhex_no (s := s) (fun r _ => pair_not HP.out HQ.out (.inr hv2) r));generalize lowV s[m] = vp at *;generalize lowV s[m + 1] = vq at *;go_wp2_with fail;refine (HC1.out _).mono ?_;rintro e w1 ⟨rfl, rfl⟩;go_wp2_with fail;refine (HC2.out _).mono ?_;rintro e w1 ⟨rfl, rfl⟩;go_wp2;go_ret2;exact ⟨by rw [HV.out.1, HV.out.2]; rfl, hb⟩
      ·obtain ⟨a, ha, ea, da⟩ := digit_lowV (b := s[m]) (by omega);obtain ⟨b, hb2, eb, db⟩ := digit_lowV (b := s[m + 1]) (by omega);have HS := Lib.hid (pair_step (by rw [← HM.out]; exact HT.out) HP.out HQ.out ha hb2 da db);have HE := Lib.hid (show (encB (UInt8.ofNat (16 * a + b))) = [.int .u8 (16 * (a : Int) + (b : Int))] from by
        unfold encB; rw [UInt8.toNat_ofNat', Nat.mod_eq_of_lt (by omega)]; congr 2 <;> omega)
       have HC1 := Lib.hid (fun W => value_e s[m] (a : Int) W ea);have HC2 := Lib.hid (fun W => value_e s[m + 1] (b : Int) W eb);clear ea eb da db hv1 hv2 HP HQ;go_wp2_with fail;refine (HC1.out _).mono ?_;rintro e w1 ⟨rfl, rfl⟩;go_wp2_with fail;refine (HC2.out _).mono ?_;rintro e w1 ⟨rfl, rfl⟩;go_wp2_with (at_builtin; refine wpList_append_own2 _ rfl _ _ 22 rfl w.heap.size 5 i0 _ 1 1 Tryz.underlying22 HI.out HZ.out.1 HZ.out.2.1 HZ.out.2.2 rfl (by decide) _ _ _ rfl (HW.out.alloc _) ⟨wr.heap.size, 0, none⟩ 1 1 [.int .u8 (16 * (a : Int) + (b : Int))] rfl rfl (box_news (Box.new _ _ _)) (by intro u hu; simp at hu; subst hu; rfl) (by unfold maxLen; omega) (by omega) (by have := hb.size; simp; omega) ?_);intro v' w' o2 g2 or2;have h := OwnStep.fresh (w := w) (W := wr.alloc (.cells #[.int .u8 (16 * (a : Int) + (b : Int))] 5)) (e := .returned v') (w' := w') ((by repeat (first | exact Below.refl _ _ | refine Below.drew ?_ | refine below_drewN ?_ _ | refine Below.allocC ?_ _ | refine Below.setCell ?_ (by first | (simp; done) | (simp; omega)) _ | refine Below.chain ?_ (by assumption)))) (HW.out.alloc _) ⟨v', rfl, o2, g2, or2⟩;have B2 := Lib.hid (show Below w.heap.size w w' by obtain ⟨_, _, _, h⟩ := h; exact h);have HW2 := Lib.hid (show w'.ownsRow w.heap.size 5 1 v' (k + 1) ((r ++ [UInt8.ofNat (16 * a + b)]).flatMap encB) from by
        rw [List.flatMap_append, List.flatMap_cons, List.flatMap_nil, List.append_nil, HE.out]; exact o2)
       have HL2 := Lib.hid (show (r ++ [UInt8.ofNat (16 * a + b)]).length = k + 1 from by rw [List.length_append, HRL.out]; rfl);have HS2 := Lib.hid (show s.data.toList.take (m + 2) = Lib.Hx.encode (r ++ [UInt8.ofNat (16 * a + b)]) from by rw [HM.out]; exact HS.out);clear o2 g2 or2 h HW;go_wp2;go_roundw
       case rel => exact ⟨k + 1, m + 2, _, by omega, HL2.out, by go_num, by have := HM.out; omega, HS2, HW2, B2.out⟩
       case measure => simp [intOf]; have := HP4.out; omega
    ·obtain rfl : k = n := by omega
     have hms : m = s.size := by omega
     subst hms;have HV := Lib.hid (unhex_yes (s := s) (r := r) (by rw [← HT.out, List.take_of_length_le (by simp)]) (by omega));have p2 : ¬ (s.size : Int) < (s.size : Int) := by omega
     have hcv : (convert 22 9 u4).run Tryz.prog wr = .ok (.string ⟨r.toArray⟩) wr := convB wr w.heap.size 5 u4 r k HRL.out.symm HW.out;clear hm hsz hrl HT HM;go_wp2;go_ret2;exact ⟨by rw [HV.out.1, HV.out.2]; rfl, hb⟩
  ·have hd : ((s.size : Int) % 2 == 0) = false := by simp [ho]
   have hd2 : ((s.size : Int) % 2 != 0) = true := by simp [ho]
   have HV := Lib.hid (unhex_no (s := s) (fun r hr e => by
    have := congrArg List.length e;rw [Lib.Hx.encode_length] at this;simp at this;omega))
   go_enter Tryz.func188, Tryz.ntmps188;go_wp2;go_ret2;exact ⟨by rw [HV.out.1, HV.out.2]; rfl, (by repeat (first | exact Below.refl _ _ | refine Below.drew ?_ | refine below_drewN ?_ _ | refine Below.allocC ?_ _ | refine Below.setCell ?_ (by first | (simp; done) | (simp; omega)) _ | refine Below.chain ?_ (by assumption)))⟩
theorem decode_le : ∀ l : List UInt8, 2 * (Lib.Hx.decode l).1.length ≤ l.length
 | [] => by rw [Lib.Hx.decode_nil]; simp
 | [c] => by rw [Lib.Hx.decode_one]; split <;> simp
 | p :: q :: t => by
  rw [Lib.Hx.decode_two];have := decode_le t;split
  ·simp
  ·split
   ·simp
   ·simp; omega
def OddErr (w : World) : Prop := ∃ T v, w.cell? ⟨1, 0, none⟩ = some (.iface T v)
theorem OddErr.below {w w' : World} (h : OddErr w) (hb : Below w.heap.size w w') : OddErr w' := by
 obtain ⟨T, a, h⟩ := h;exact ⟨T, a, keepS hb h⟩
set_option maxRecDepth 100000 in
set_option maxHeartbeats 4000000 in
theorem implUnhex_c (s : ByteArray) (w : World) (hs : s.size ≤ 281474976710656) (hE : OddErr w) :
 Calls Tryz.prog 234 #[.string s] w fun e w' => e = .returned (.tuple #[.string (unhexV s), .bool (unhexOk s)]) ∧ Below w.heap.size w w' := by
 obtain ⟨ET, EA, hev⟩ := hE;have K := Lib.hid (Tryz.hex_DecodeString s w _ hev hs);clear hev;cases ho : (Lib.Hx.decode s.data.toList).2 with
 | bad c =>
  have HV := Lib.hid (unhex_no (s := s) (fun r _ e => by rw [← e, Lib.Hx.decode_encode] at ho; cases ho));rw [ho] at K;clear ho;go_enter Tryz.func234, Tryz.ntmps234;go_wp2_with fail;refine K.out.mono ?_;rintro e w1 ⟨rfl, _, hb1⟩;simp only [Lib.Hx.errVal];go_wp2;go_ret2;exact ⟨by rw [HV.out.1, HV.out.2]; rfl, hb1⟩
 | odd =>
  have HV := Lib.hid (unhex_no (s := s) (fun r _ e => by rw [← e, Lib.Hx.decode_encode] at ho; cases ho));rw [ho] at K;clear ho;go_enter Tryz.func234, Tryz.ntmps234;go_wp2_with fail;refine K.out.mono ?_;rintro e w1 ⟨rfl, _, hb1⟩;simp only [Lib.Hx.errVal];go_wp2;go_ret2;exact ⟨by rw [HV.out.1, HV.out.2]; rfl, hb1⟩
 | ok =>
  rw [ho] at K;obtain ⟨r, hr⟩ : ∃ r, (Lib.Hx.decode s.data.toList).1 = r := ⟨_, rfl⟩;have HD := Lib.hid (show Lib.Hx.decode s.data.toList = (r, .ok) by rw [← hr, ← ho]);rw [hr] at K;clear hr ho;have hne : ∀ r', Lib.Hx.encode r' = s.data.toList → r' = r := fun r' e => by
   have := HD.out;rw [← e, Lib.Hx.decode_encode] at this;exact congrArg Prod.fst this
  have hle : r.length ≤ s.size / 2 := by
   have := decode_le s.data.toList;rw [HD.out] at this;simp at this;omega
  have HCell := Lib.hid (show ∀ (W : World), W.rowIs w.heap.size 5 (s.size / 2) (Lib.Hx.rowP (fun _ => .int .u8 0) 0 r) → ∀ i (h : i < r.length), W.cell? ⟨w.heap.size, 0 + i, none⟩ = some (.int .u8 ((r[i]'h).toNat : Int)) from fun W hW i hi => by
   rw [Nat.zero_add, World.rowIs.cell hW (by omega)];unfold Lib.Hx.rowP;rw [if_pos (by omega)];simp [hi])
  by_cases hl : r.length ≤ 20000
  ·have p : ¬ (20000 : Int) < (r.length : Int) := by omega
   have KE := Lib.hid (fun (W : World) (hW : W.rowIs w.heap.size 5 (s.size / 2) (Lib.Hx.rowP (fun _ => .int .u8 0) 0 r)) => Tryz.hex_EncodeToString_bytes w.heap.size 0 (s.size / 2) r W (HCell.out W hW) (World.rowIs.lt hW) (by omega));by_cases he : Lib.Hx.encode r = s.data.toList
   ·have HV := Lib.hid (unhex_yes he hl);have hx : ((⟨(Lib.Hx.encode r).toArray⟩ : ByteArray)) = s := by rw [he]
    rw [hx] at KE;clear hx he hne;go_enter Tryz.func234, Tryz.ntmps234;go_wp2_with fail;refine K.out.mono ?_;rintro e w1 ⟨rfl, hrow, hb1⟩;have HROW := Lib.hid hrow;clear hrow;simp only [Lib.Hx.errVal];go_wp2_with fail;refine (KE.out w1 HROW.out).mono ?_;rintro e w2 ⟨rfl, hb2⟩;have B2 : Below w.heap.size w w2 := hb1.trans (hb2.mono hb1.size);have hcv : (convert 22 9 (.slice (some ⟨w.heap.size, 0, none⟩) r.length (s.size / 2))).run Tryz.prog w2 = .ok (.string ⟨r.toArray⟩) w2 :=
     run_convert_bytes_back w2 _ _ 5 ⟨w.heap.size, 0, none⟩ (s.size / 2) r Tryz.underlying22 Tryz.underlying5 Tryz.underlying9 (fun j hj => by
      have := HCell.out w1 HROW.out j hj;rw [Nat.zero_add] at this;rw [add_none, Nat.zero_add];exact keepS hb2 this)
    go_wp2;go_ret2;exact ⟨by rw [HV.out.1, HV.out.2]; rfl, B2⟩
   ·have HV := Lib.hid (unhex_no (s := s) (fun r' h' e => he (by rw [← hne r' e]; exact e)));obtain ⟨t, ht⟩ : ∃ t : ByteArray, (⟨(Lib.Hx.encode r).toArray⟩ : ByteArray) = t := ⟨_, rfl⟩;have htn : t ≠ s := fun e => he (by rw [← e, ← ht]);have f1 := beq_toList_false htn;have f2 := bne_toList_true htn;have f3 := toList_ne htn;rw [ht] at KE;clear ht htn he hne;go_enter Tryz.func234, Tryz.ntmps234;go_wp2_with fail;refine K.out.mono ?_;rintro e w1 ⟨rfl, hrow, hb1⟩;have HROW := Lib.hid hrow;clear hrow;simp only [Lib.Hx.errVal];go_wp2_with fail;refine (KE.out w1 HROW.out).mono ?_;rintro e w2 ⟨rfl, hb2⟩;have B2 : Below w.heap.size w w2 := hb1.trans (hb2.mono hb1.size);go_wp2;go_ret2;exact ⟨by rw [HV.out.1, HV.out.2]; rfl, B2⟩
  ·have p : (20000 : Int) < (r.length : Int) := by omega
   have HV := Lib.hid (unhex_no (s := s) (fun r' h' e => hl (by rw [← hne r' e]; exact h')));clear hne hl;go_enter Tryz.func234, Tryz.ntmps234;go_wp2_with fail;refine K.out.mono ?_;rintro e w1 ⟨rfl, _, hb1⟩;simp only [Lib.Hx.errVal];go_wp2;go_ret2;exact ⟨by rw [HV.out.1, HV.out.2]; rfl, hb1⟩
end Go.Proofs.YtihghflppegnmaaGreatDoor
namespace Go.Proofs.YtihghflppegnmaaGreatDoor
open Go.RowKit
attribute [local go_sem ↓] Go.wp_at_zero Go.wp_at_succ
def Tabs (w : World) : Prop := DecTab w ∧ NumErr w ∧ OddErr w
theorem Tabs.below {w W : World} (h : Tabs w) (hb : Below w.heap.size w W) : Tabs W := ⟨h.1.below hb, h.2.1.below hb, h.2.2.below hb⟩
noncomputable def msgV (v : ByteArray) : ByteArray := if Lib.hasPrefix v.data.toList [45] = true then unhexV (v.extract 1 v.size) else ByteArray.empty
theorem extract1_size (v : ByteArray) : (v.extract 1 v.size).size ≤ v.size := by
 rw [ByteArray.size_extract]; omega
theorem hyphen_size {v : ByteArray} (h : Lib.hasPrefix v.data.toList [45] = true) : ∃ h0 : 0 < v.size, v[0] = 45 := by
 unfold Lib.hasPrefix at h;obtain ⟨t, ht⟩ := List.isPrefixOf_iff_prefix.1 h;have hs : 0 < v.size := by
  have h1 := congrArg List.length ht;have h2 : v.data.toList.length = v.size := Array.length_toList;rw [h2, List.length_append] at h1;have h3 : [(45 : UInt8)].length = 1 := rfl;omega
 refine ⟨hs, ?_⟩;have : v.data.toList[0]? = some 45 := by rw [← ht]; rfl
 rw [List.getElem?_eq_getElem (by simpa using hs)] at this;exact Option.some.inj this
theorem no_hyphen {v : ByteArray} (h : Lib.hasPrefix v.data.toList [45] = false) (h0 : 0 < v.size) : v[0] ≠ 45 := by
 intro e;have hl : v.data.toList ≠ [] := by
  intro e;have h1 := congrArg List.length e;have h2 : v.data.toList.length = v.size := Array.length_toList;rw [h2] at h1;have h3 : ([] : List UInt8).length = 0 := rfl;omega
 obtain ⟨c, t, ht⟩ := List.exists_cons_of_ne_nil hl;have : v.data.toList[0]? = some 45 := by
  rw [List.getElem?_eq_getElem (by simpa using h0)];exact congrArg some e
 rw [ht] at this;cases this;rw [ht] at h;unfold Lib.hasPrefix at h;simp at h
def dnK : ByteArray := ⟨#[100, 47, 110]⟩
def dK : ByteArray := ⟨#[100, 47]⟩
def broughtV (n l m : Int) : Int := max l (min n m)
theorem specBrought_c (n l m : Int) (w : World) : Calls Tryz.prog 216 #[.int .i64 n, .int .i64 l, .int .i64 m] w fun e w' => e = .returned (.int .i64 (broughtV n l m)) ∧ w = w' := by
 by_cases h1 : m < l
 ·have H := Lib.hid (show broughtV n l m = l by unfold broughtV; omega);go_enter Tryz.func216, Tryz.ntmps216;go_wp2;go_ret;exact ⟨by rw [H.out]; rfl, rfl⟩
 ·by_cases h2 : n < l
  ·have H := Lib.hid (show broughtV n l m = l by unfold broughtV; omega);go_enter Tryz.func216, Tryz.ntmps216;go_wp2;go_ret;exact ⟨by rw [H.out]; rfl, rfl⟩
  ·by_cases h3 : m < n
   ·have H := Lib.hid (show broughtV n l m = m by unfold broughtV; omega);go_enter Tryz.func216, Tryz.ntmps216;go_wp2;go_ret;exact ⟨by rw [H.out]; rfl, rfl⟩
   ·have H := Lib.hid (show broughtV n l m = n by unfold broughtV; omega);go_enter Tryz.func216, Tryz.ntmps216;go_wp2;go_ret;exact ⟨by rw [H.out]; rfl, rfl⟩
theorem slHas_c (v p : ByteArray) (w : World) (hs : v.size ≤ maxLen) (hp : p.size ≤ maxLen) :
 Calls Tryz.prog 246 #[.string v, .string p] w fun e w' => e = .returned (.bool (Lib.hasPrefix v.data.toList p.data.toList)) ∧ w = w' := by
 unfold maxLen at hs hp;have hr := Lib.hasPrefix_raw v p;by_cases h : p.size ≤ v.size
 ·have h' : (p.size : Int) ≤ (v.size : Int) := by omega
  rw [decide_eq_true h, Bool.true_and] at hr;have HR := Lib.hid hr.symm;clear hr;generalize hx : ((v.extract 0 p.size).toList == p.toList) = r at *;cases r
  ·go_enter Tryz.func246, Tryz.ntmps246;go_wp2;go_ret;exact ⟨by rw [HR.out]; rfl, rfl⟩
  ·go_enter Tryz.func246, Tryz.ntmps246;go_wp2;go_ret;exact ⟨by rw [HR.out]; rfl, rfl⟩
 ·have h' : ¬ (p.size : Int) ≤ (v.size : Int) := by omega
  rw [decide_eq_false h, Bool.false_and] at hr;have HR := Lib.hid hr.symm;clear hr;go_enter Tryz.func246, Tryz.ntmps246;go_wp2;go_ret;exact ⟨by rw [HR.out]; rfl, rfl⟩
theorem cutHyphen_c (v : ByteArray) (w : World) (hs : v.size ≤ maxLen) :
 Calls Tryz.prog 236 #[.string v, .string ⟨#[45]⟩] w fun e w' => e = .returned (.tuple #[.string (if Lib.hasPrefix v.data.toList [45] = true then v.extract 1 v.size else v), .bool (Lib.hasPrefix v.data.toList [45])]) ∧ w = w' := by
 have K : Calls Tryz.prog 250 #[.string v, .string ⟨#[45]⟩] w fun e w' => e = .returned (.tuple #[.string (if Lib.hasPrefix v.data.toList [45] = true then v.extract 1 v.size else v), .bool (Lib.hasPrefix v.data.toList [45])]) ∧ w = w' := by
  have KH := Lib.hid (slHas_c v ⟨#[45]⟩ w hs (by decide));rw [show Lib.hasPrefix v.data.toList (ByteArray.mk #[45]).data.toList = Lib.hasPrefix v.data.toList [45] from rfl] at KH;unfold maxLen at hs;cases hp : Lib.hasPrefix v.data.toList [45] with
  | false =>
   rw [hp] at KH;clear hp;go_enter Tryz.func250, Tryz.ntmps250;go_wp2_with fail;refine KH.out.mono ?_;rintro e w1 ⟨rfl, rfl⟩;go_wp2;go_ret2;exact ⟨rfl, rfl⟩
  | true =>
   obtain ⟨h0, _⟩ := hyphen_size hp;rw [hp] at KH;have h1 : (1 : Int) ≤ (v.size : Int) := by omega
   clear hp;go_enter Tryz.func250, Tryz.ntmps250;go_wp2_with fail;refine KH.out.mono ?_;rintro e w1 ⟨rfl, rfl⟩;go_wp2;go_ret2;exact ⟨rfl, rfl⟩
 have KH := Lib.hid K;clear K;generalize (if Lib.hasPrefix v.data.toList [45] = true then v.extract 1 v.size else v) = t at *;generalize Lib.hasPrefix v.data.toList [45] = b at *;go_enter Tryz.func236, Tryz.ntmps236;go_wp2_with fail;refine KH.out.mono ?_;rintro e w1 ⟨rfl, rfl⟩;go_wp2;go_ret2;exact ⟨rfl, rfl⟩
theorem messageOf_c (v : ByteArray) (w : World) (hs : v.size ≤ 281474976710656) (hE : OddErr w) :
 Calls Tryz.prog 208 #[.string v] w fun e w' => e = .returned (.string (msgV v)) ∧ Below w.heap.size w w' := by
 have K := Lib.hid (cutHyphen_c v w (by unfold maxLen; omega));cases hp : Lib.hasPrefix v.data.toList [45] with
 | false =>
  have HV := Lib.hid (show msgV v = ByteArray.empty by unfold msgV; rw [hp]; rfl);rw [hp] at K;clear hp hE;go_enter Tryz.func208, Tryz.ntmps208;go_wp2_with fail;refine K.out.mono ?_;rintro e w1 ⟨rfl, rfl⟩;go_wp2;go_ret;exact ⟨by rw [HV.out]; rfl, Below.refl _ _⟩
 | true =>
  have HV := Lib.hid (show msgV v = unhexV (v.extract 1 v.size) by unfold msgV; rw [hp]; rfl);rw [hp, if_pos rfl] at K;have KU := Lib.hid (implUnhex_c (v.extract 1 v.size) w (Nat.le_trans (extract1_size v) hs) hE);generalize v.extract 1 v.size = t at *;clear hp hE;generalize unhexV t = r at *;generalize unhexOk t = b at *;go_enter Tryz.func208, Tryz.ntmps208;go_wp2_with fail;refine K.out.mono ?_;rintro e w1 ⟨rfl, rfl⟩;go_wp2_with fail;refine KU.out.mono ?_;rintro e w1 ⟨rfl, hb1⟩;go_wp2;go_ret;exact ⟨by rw [HV.out]; rfl, hb1⟩
theorem empty_iff0 {s : ByteArray} : s.toList = [] ↔ s.size = 0 := by
 rw [Lib.toList_data];constructor
 ·intro h;have := congrArg List.length h;simpa using this
 ·intro h;apply List.eq_nil_of_length_eq_zero;simpa using h
theorem neq_empty {v : ByteArray} {t : TypeId} (h : 0 < v.size) : binOp .neq t (.string v) (.string ⟨#[]⟩) = pure (.bool true) := by
 rw [binOp_string_neq];refine congrArg (fun b => pure (Value.bool (!b))) (beq_eq_false_iff_ne.2 (fun e => ?_));have := empty_iff0.1 (e.trans (show (ByteArray.mk #[]).toList = [] from by kernel_rfl));omega
theorem eq_empty {v : ByteArray} {t : TypeId} (h : v.size = 0) : binOp .neq t (.string v) (.string ⟨#[]⟩) = pure (.bool false) := by
 rw [binOp_string_neq, empty_iff0.2 h, show (ByteArray.mk #[]).toList = [] from by kernel_rfl];rfl
theorem own_empty0 (W : World) (T K : Nat) : (W.alloc (.cells #[] T)).ownsRow W.heap.size T K (.slice (some ⟨W.heap.size, 0, none⟩) 0 0) 0 [] :=
 ⟨by simp, .inr ⟨W.heap.size, 0, #[], rfl, Nat.le_refl _, heap_alloc_new W _, Nat.le_refl _, Nat.zero_le _, by simp, by simp⟩⟩
end Go.Proofs.YtihghflppegnmaaGreatDoor
namespace Go.Proofs.YtihghflppegnmaaGreatDoor
open Go.RowKit
def nameByte (c : UInt8) : Bool := inB (c.toNat : Int) 97 122 || inB (c.toNat : Int) 48 57 || (c.toNat : Int) == 46 || (c.toNat : Int) == 45
def nameOkB (s : ByteArray) : Bool := s.data.toList.all nameByte && inB s.size 1 12
namespace NameOk
def bytesUpTo (f : UInt8 → Bool) (s : ByteArray) (k : Nat) : Prop := (s.data.toList.take k).all f = true
theorem bytesUpTo_zero (f : UInt8 → Bool) (s : ByteArray) : bytesUpTo f s 0 := by simp [bytesUpTo]
theorem take_snoc (s : ByteArray) (k : Nat) (h : k < s.size) : s.data.toList.take (k + 1) = s.data.toList.take k ++ [s[k]] := by
 rw [List.take_succ_eq_append_getElem (by simpa using h)]; rfl
theorem bytesUpTo_succ (f : UInt8 → Bool) (s : ByteArray) (k : Nat) (h : k < s.size) (hk : bytesUpTo f s k) (hb : f s[k] = true) : bytesUpTo f s (k + 1) := by
 unfold bytesUpTo at *;rw [take_snoc s k h, List.all_append, hk];simp [hb]
theorem nameOk_no (s : ByteArray) (k : Nat) (h : k < s.size) (hb : nameByte s[k] = false) : nameOkB s = false := by
 have : s.data.toList.all nameByte = false := by
  rw [List.all_eq_false];exact ⟨s[k], by rw [show s[k] = s.data.toList[k]'(by simpa using h) from rfl]; exact List.getElem_mem _, by simp [hb]⟩
 simp [nameOkB, this]
theorem nameOk_end (s : ByteArray) (k : Nat) (hk : bytesUpTo nameByte s k) (h : s.size ≤ k) : nameOkB s = inB s.size 1 12 := by
 unfold bytesUpTo at hk;rw [List.take_of_length_le (by simpa using h)] at hk;simp [nameOkB, hk]
theorem byte_le (c : UInt8) : (c.toNat : Int) ≤ 255 := by have := c.toNat_lt; omega
theorem nameByte_a {c : UInt8} (h : inB (c.toNat : Int) 97 122 = true) : nameByte c = true := by simp [nameByte, h]
theorem nameByte_b {c : UInt8} (h : inB (c.toNat : Int) 48 57 = true) : nameByte c = true := by simp [nameByte, h]
theorem nameByte_c {c : UInt8} (h : ((c.toNat : Int) == 46) = true) : nameByte c = true := by simp [nameByte, h]
theorem nameByte_d {c : UInt8} (h : ((c.toNat : Int) == 45) = true) : nameByte c = true := by simp [nameByte, h]
theorem nameByte_no {c : UInt8} (h1 : inB (c.toNat : Int) 97 122 = false) (h2 : inB (c.toNat : Int) 48 57 = false) (h3 : ((c.toNat : Int) == 46) = false) (h4 : ((c.toNat : Int) == 45) = false) : nameByte c = false := by
 simp [nameByte, h1, h2, h3, h4]
end NameOk
open NameOk
set_option maxHeartbeats 1600000 in
theorem specNameOk_c (s : ByteArray) (w : World) (hs : s.size ≤ maxLen) :
 Calls Tryz.prog 174 #[.string s] w fun e w' => e = .returned (.bool (nameOkB s)) ∧ w = w' := by
 unfold maxLen at hs;go_enter Tryz.func174, Tryz.ntmps174;go_wp2;go_loop [3] (fun i => ∃ k : Nat, k ≤ s.size ∧ i = .int .i64 k ∧ bytesUpTo nameByte s k) (fun i => s.size - (intOf i).toNat)
 case atStart => exact ⟨0, Nat.zero_le _, rfl, bytesUpTo_zero _ s⟩
 case round =>
  obtain ⟨k, hk, rfl, hup⟩ := hrel;by_cases hlt : k < s.size
  ·have hb255 := byte_le s[k];cases h1 : inB (s[k].toNat : Int) 97 122
   ·cases h2 : inB (s[k].toNat : Int) 48 57
    ·cases h3 : ((s[k].toNat : Int) == 46)
     ·cases h4 : ((s[k].toNat : Int) == 45)
      ·have n3 : ((s[k].toNat : Int) != 46) = true := by rw [bne, h3]; rfl
       have n4 : ((s[k].toNat : Int) != 45) = true := by rw [bne, h4]; rfl
       have hno := Lib.hid (nameOk_no s k hlt (nameByte_no h1 h2 h3 h4));go_wp2_with (first | (go_at_call 70; refine (l01In_c _ _ _ _).mono ?_; rintro e w' ⟨rfl, rfl⟩) | go_in);go_ret;exact ⟨by rw [hno.out]; rfl, rfl⟩
      ·have n3 : ((s[k].toNat : Int) != 46) = true := by rw [bne, h3]; rfl
       have n4 : ((s[k].toNat : Int) != 45) = false := by rw [bne, h4]; rfl
       have hsucc := bytesUpTo_succ nameByte s k hlt hup (nameByte_d h4);go_wp2_with (first | (go_at_call 70; refine (l01In_c _ _ _ _).mono ?_; rintro e w' ⟨rfl, rfl⟩) | go_in);go_round
       case rel => exact ⟨k + 1, by omega, by go_num, hsucc⟩
       case measure => simp [intOf]; omega
     ·have n3 : ((s[k].toNat : Int) != 46) = false := by rw [bne, h3]; rfl
      have hsucc := bytesUpTo_succ nameByte s k hlt hup (nameByte_c h3);go_wp2_with (first | (go_at_call 70; refine (l01In_c _ _ _ _).mono ?_; rintro e w' ⟨rfl, rfl⟩) | go_in);go_round
      case rel => exact ⟨k + 1, by omega, by go_num, hsucc⟩
      case measure => simp [intOf]; omega
    ·have hsucc := bytesUpTo_succ nameByte s k hlt hup (nameByte_b h2);go_wp2_with (first | (go_at_call 70; refine (l01In_c _ _ _ _).mono ?_; rintro e w' ⟨rfl, rfl⟩) | go_in);go_round
     case rel => exact ⟨k + 1, by omega, by go_num, hsucc⟩
     case measure => simp [intOf]; omega
   ·have hsucc := bytesUpTo_succ nameByte s k hlt hup (nameByte_a h1);go_wp2_with (first | (go_at_call 70; refine (l01In_c _ _ _ _).mono ?_; rintro e w' ⟨rfl, rfl⟩) | go_in);go_round
    case rel => exact ⟨k + 1, by omega, by go_num, hsucc⟩
    case measure => simp [intOf]; omega
  ·have hend := Lib.hid (nameOk_end s k hup (by omega));go_wp2_with (first | (go_at_call 70; refine (l01In_c _ _ _ _).mono ?_; rintro e w' ⟨rfl, rfl⟩) | go_in);go_ret;exact ⟨by rw [hend.out]; rfl, rfl⟩
set_option maxHeartbeats 1600000 in
theorem implNameOk_c (s : ByteArray) (w : World) (hs : s.size ≤ maxLen) :
 Calls Tryz.prog 153 #[.string s] w fun e w' => e = .returned (.bool (nameOkB s)) ∧ w = w' := by
 unfold maxLen at hs;go_enter Tryz.func153, Tryz.ntmps153;go_wp2;go_loop [7] (fun i => ∃ k : Nat, k ≤ s.size ∧ i = .int .i64 k ∧ bytesUpTo nameByte s k) (fun i => s.size - (intOf i).toNat)
 case atStart => exact ⟨0, Nat.zero_le _, rfl, bytesUpTo_zero _ s⟩
 case round =>
  obtain ⟨k, hk, rfl, hup⟩ := hrel;by_cases hlt : k < s.size
  ·have hb255 := byte_le s[k];rcases (show (97 ≤ (s[k].toNat : Int) ∧ (s[k].toNat : Int) ≤ 122) ∨ (48 ≤ (s[k].toNat : Int) ∧ (s[k].toNat : Int) ≤ 57) ∨ 122 < (s[k].toNat : Int) ∨ (57 < (s[k].toNat : Int) ∧ (s[k].toNat : Int) < 97) ∨ (s[k].toNat : Int) < 48 by omega) with ⟨h1, h2⟩ | ⟨h1, h2⟩ | h1 | ⟨h1, h2⟩ | h1
   ·have hsucc := bytesUpTo_succ nameByte s k hlt hup (nameByte_a (inB_yes h1 h2));go_wp2_with (first | (go_at_call 152; refine (within_c _ _ _ _).mono ?_; rintro e w' ⟨rfl, rfl⟩) | go_in);go_round
    case rel => exact ⟨k + 1, by omega, by go_num, hsucc⟩
    case measure => simp [intOf]; omega
   ·have hsucc := bytesUpTo_succ nameByte s k hlt hup (nameByte_b (inB_yes h1 h2));go_wp2_with (first | (go_at_call 152; refine (within_c _ _ _ _).mono ?_; rintro e w' ⟨rfl, rfl⟩) | go_in);go_round
    case rel => exact ⟨k + 1, by omega, by go_num, hsucc⟩
    case measure => simp [intOf]; omega
   ·have n3 : ((s[k].toNat : Int) != 46) = true := by simp; omega
    have n4 : ((s[k].toNat : Int) != 45) = true := by simp; omega
    have d1 : decide ((s[k].toNat : Int) ≤ 122) = false := by simp; omega
    have d2 : decide ((s[k].toNat : Int) ≤ 57) = false := by simp; omega
    have hno := Lib.hid (nameOk_no s k hlt (nameByte_no (inB_hi h1) (inB_hi (by omega)) (by simp; omega) (by simp; omega)));go_wp2_with (first | (go_at_call 152; refine (within_c _ _ _ _).mono ?_; rintro e w' ⟨rfl, rfl⟩) | go_in);go_ret;exact ⟨by rw [hno.out]; rfl, rfl⟩
   ·have n3 : ((s[k].toNat : Int) != 46) = true := by simp; omega
    have n4 : ((s[k].toNat : Int) != 45) = true := by simp; omega
    have d1 : decide (97 ≤ (s[k].toNat : Int)) = false := by simp; omega
    have d2 : decide ((s[k].toNat : Int) ≤ 57) = false := by simp; omega
    have hno := Lib.hid (nameOk_no s k hlt (nameByte_no (inB_lo h2) (inB_hi (by omega)) (by simp; omega) (by simp; omega)));go_wp2_with (first | (go_at_call 152; refine (within_c _ _ _ _).mono ?_; rintro e w' ⟨rfl, rfl⟩) | go_in);go_ret;exact ⟨by rw [hno.out]; rfl, rfl⟩
   ·cases h3 : ((s[k].toNat : Int) == 46)
    ·cases h4 : ((s[k].toNat : Int) == 45)
     ·have n3 : ((s[k].toNat : Int) != 46) = true := by rw [bne, h3]; rfl
      have n4 : ((s[k].toNat : Int) != 45) = true := by rw [bne, h4]; rfl
      have hno := Lib.hid (nameOk_no s k hlt (nameByte_no (inB_lo (by omega)) (inB_lo h1) h3 h4));go_wp2_with (first | (go_at_call 152; refine (within_c _ _ _ _).mono ?_; rintro e w' ⟨rfl, rfl⟩) | go_in);go_ret;exact ⟨by rw [hno.out]; rfl, rfl⟩
     ·have n3 : ((s[k].toNat : Int) != 46) = true := by rw [bne, h3]; rfl
      have n4 : ((s[k].toNat : Int) != 45) = false := by rw [bne, h4]; rfl
      have hsucc := bytesUpTo_succ nameByte s k hlt hup (nameByte_d h4);go_wp2_with (first | (go_at_call 152; refine (within_c _ _ _ _).mono ?_; rintro e w' ⟨rfl, rfl⟩) | go_in);go_round
      case rel => exact ⟨k + 1, by omega, by go_num, hsucc⟩
      case measure => simp [intOf]; omega
    ·have n3 : ((s[k].toNat : Int) != 46) = false := by rw [bne, h3]; rfl
     have hsucc := bytesUpTo_succ nameByte s k hlt hup (nameByte_c h3);go_wp2_with (first | (go_at_call 152; refine (within_c _ _ _ _).mono ?_; rintro e w' ⟨rfl, rfl⟩) | go_in);go_round
     case rel => exact ⟨k + 1, by omega, by go_num, hsucc⟩
     case measure => simp [intOf]; omega
  ·have hend := Lib.hid (nameOk_end s k hup (by omega));go_wp2_with (first | (go_at_call 152; refine (within_c _ _ _ _).mono ?_; rintro e w' ⟨rfl, rfl⟩) | go_in);go_ret;exact ⟨by rw [hend.out]; rfl, rfl⟩
def callOkB (x : Cal) : Bool := inB x.kind 1 22 && (decide ((x.name.size : Int) ≤ 20) && (decide ((x.dest.size : Int) ≤ 20) && decide ((x.text.size : Int) ≤ 64)))
theorem callOk_1 {x : Cal} (h : inB x.kind 1 22 = false) : callOkB x = false := by simp [callOkB, h]
theorem callOk_2 {x : Cal} (h : 20 < (x.name.size : Int)) : callOkB x = false := by simp [callOkB]; omega
theorem callOk_3 {x : Cal} (h : 20 < (x.dest.size : Int)) : callOkB x = false := by simp [callOkB]; omega
theorem callOk_4 {x : Cal} (h : 64 < (x.text.size : Int)) : callOkB x = false := by simp [callOkB]; omega
theorem callOk_yes {x : Cal} (h1 : inB x.kind 1 22 = true) (h2 : (x.name.size : Int) ≤ 20) (h3 : (x.dest.size : Int) ≤ 20) (h4 : (x.text.size : Int) ≤ 64) : callOkB x = true := by
 simp [callOkB, h1]; omega
set_option maxHeartbeats 1600000 in
theorem specCallOk_c (x : Cal) (b0 : x.name.size ≤ maxLen) (b1 : x.dest.size ≤ maxLen) (b2 : x.text.size ≤ maxLen) (w : World) :
 Calls Tryz.prog 22 #[.agg #[.int .i64 x.kind, .string x.name, .string x.dest, .int .i64 x.a, .int .i64 x.b, .string x.text]] w fun e w' => e = .returned (.bool (callOkB x)) ∧ Below w.heap.size w w' := by
 unfold maxLen at b0 b1 b2;cases h1 : inB x.kind 1 22
 ·have HS := Lib.hid (callOk_1 h1);go_enter Tryz.func22, Tryz.ntmps22;go_wp2_with (first | (go_at_call 70; refine (l01In_c _ _ _ _).mono ?_; rintro e w' ⟨rfl, rfl⟩) | go_in);go_ret;exact ⟨by rw [HS.out]; rfl, (by repeat (first | exact Below.refl _ _ | assumption | refine Below.alloc ?_ (by simp <;> omega) _ | refine Below.setCell ?_ (by simp <;> omega) _ | refine Below.drew ?_))⟩
 ·by_cases h2 : (x.name.size : Int) ≤ 20
  ·by_cases h3 : (x.dest.size : Int) ≤ 20
   ·by_cases h4 : (x.text.size : Int) ≤ 64
    ·have HS := Lib.hid (callOk_yes h1 h2 h3 h4);go_enter Tryz.func22, Tryz.ntmps22;go_wp2_with (first | (go_at_call 70; refine (l01In_c _ _ _ _).mono ?_; rintro e w' ⟨rfl, rfl⟩) | go_in);go_ret;exact ⟨by rw [HS.out]; rfl, (by repeat (first | exact Below.refl _ _ | assumption | refine Below.alloc ?_ (by simp <;> omega) _ | refine Below.setCell ?_ (by simp <;> omega) _ | refine Below.drew ?_))⟩
    ·have HS := Lib.hid (callOk_4 (x := x) (by omega));have d1 : decide ((x.text.size : Int) ≤ 64) = false := by simp; omega
     go_enter Tryz.func22, Tryz.ntmps22;go_wp2_with (first | (go_at_call 70; refine (l01In_c _ _ _ _).mono ?_; rintro e w' ⟨rfl, rfl⟩) | go_in);go_ret;exact ⟨by rw [HS.out]; rfl, (by repeat (first | exact Below.refl _ _ | assumption | refine Below.alloc ?_ (by simp <;> omega) _ | refine Below.setCell ?_ (by simp <;> omega) _ | refine Below.drew ?_))⟩
   ·have HS := Lib.hid (callOk_3 (x := x) (by omega));have d1 : decide ((x.dest.size : Int) ≤ 20) = false := by simp; omega
    go_enter Tryz.func22, Tryz.ntmps22;go_wp2_with (first | (go_at_call 70; refine (l01In_c _ _ _ _).mono ?_; rintro e w' ⟨rfl, rfl⟩) | go_in);go_ret;exact ⟨by rw [HS.out]; rfl, (by repeat (first | exact Below.refl _ _ | assumption | refine Below.alloc ?_ (by simp <;> omega) _ | refine Below.setCell ?_ (by simp <;> omega) _ | refine Below.drew ?_))⟩
  ·have HS := Lib.hid (callOk_2 (x := x) (by omega));have d1 : decide ((x.name.size : Int) ≤ 20) = false := by simp; omega
   go_enter Tryz.func22, Tryz.ntmps22;go_wp2_with (first | (go_at_call 70; refine (l01In_c _ _ _ _).mono ?_; rintro e w' ⟨rfl, rfl⟩) | go_in);go_ret;exact ⟨by rw [HS.out]; rfl, (by repeat (first | exact Below.refl _ _ | assumption | refine Below.alloc ?_ (by simp <;> omega) _ | refine Below.setCell ?_ (by simp <;> omega) _ | refine Below.drew ?_))⟩
set_option maxHeartbeats 1600000 in
theorem implCallOk_c (x : Cal) (b0 : x.name.size ≤ maxLen) (b1 : x.dest.size ≤ maxLen) (b2 : x.text.size ≤ maxLen) (w : World) :
 Calls Tryz.prog 97 #[.agg #[.int .i64 x.kind, .string x.name, .string x.dest, .int .i64 x.a, .int .i64 x.b, .string x.text]] w fun e w' => e = .returned (.bool (callOkB x)) ∧ Below w.heap.size w w' := by
 unfold maxLen at b0 b1 b2;cases h1 : inB x.kind 1 22
 ·have HS := Lib.hid (callOk_1 h1);go_enter Tryz.func97, Tryz.ntmps97;go_wp2_with (first | (go_at_call 152; refine (within_c _ _ _ _).mono ?_; rintro e w' ⟨rfl, rfl⟩) | go_in);go_ret;exact ⟨by rw [HS.out]; rfl, (by repeat (first | exact Below.refl _ _ | assumption | refine Below.alloc ?_ (by simp <;> omega) _ | refine Below.setCell ?_ (by simp <;> omega) _ | refine Below.drew ?_))⟩
 ·by_cases h2 : (x.name.size : Int) ≤ 20
  ·by_cases h3 : (x.dest.size : Int) ≤ 20
   ·by_cases h4 : (x.text.size : Int) ≤ 64
    ·have HS := Lib.hid (callOk_yes h1 h2 h3 h4);go_enter Tryz.func97, Tryz.ntmps97;go_wp2_with (first | (go_at_call 152; refine (within_c _ _ _ _).mono ?_; rintro e w' ⟨rfl, rfl⟩) | go_in);go_ret;exact ⟨by rw [HS.out]; rfl, (by repeat (first | exact Below.refl _ _ | assumption | refine Below.alloc ?_ (by simp <;> omega) _ | refine Below.setCell ?_ (by simp <;> omega) _ | refine Below.drew ?_))⟩
    ·have HS := Lib.hid (callOk_4 (x := x) (by omega));have d1 : decide ((x.text.size : Int) ≤ 64) = false := by simp; omega
     go_enter Tryz.func97, Tryz.ntmps97;go_wp2_with (first | (go_at_call 152; refine (within_c _ _ _ _).mono ?_; rintro e w' ⟨rfl, rfl⟩) | go_in);go_ret;exact ⟨by rw [HS.out]; rfl, (by repeat (first | exact Below.refl _ _ | assumption | refine Below.alloc ?_ (by simp <;> omega) _ | refine Below.setCell ?_ (by simp <;> omega) _ | refine Below.drew ?_))⟩
   ·have HS := Lib.hid (callOk_3 (x := x) (by omega));have d1 : decide ((x.dest.size : Int) ≤ 20) = false := by simp; omega
    go_enter Tryz.func97, Tryz.ntmps97;go_wp2_with (first | (go_at_call 152; refine (within_c _ _ _ _).mono ?_; rintro e w' ⟨rfl, rfl⟩) | go_in);go_ret;exact ⟨by rw [HS.out]; rfl, (by repeat (first | exact Below.refl _ _ | assumption | refine Below.alloc ?_ (by simp <;> omega) _ | refine Below.setCell ?_ (by simp <;> omega) _ | refine Below.drew ?_))⟩
  ·have HS := Lib.hid (callOk_2 (x := x) (by omega));have d1 : decide ((x.name.size : Int) ≤ 20) = false := by simp; omega
   go_enter Tryz.func97, Tryz.ntmps97;go_wp2_with (first | (go_at_call 152; refine (within_c _ _ _ _).mono ?_; rintro e w' ⟨rfl, rfl⟩) | go_in);go_ret;exact ⟨by rw [HS.out]; rfl, (by repeat (first | exact Below.refl _ _ | assumption | refine Below.alloc ?_ (by simp <;> omega) _ | refine Below.setCell ?_ (by simp <;> omega) _ | refine Below.drew ?_))⟩
def starK (p : ByteArray) : ByteArray := p ++ ⟨#[42]⟩
inductive Pg (α : Type) : Type where
 | ret : α → Pg α
 | look : ByteArray → (ByteArray → Pg α) → Pg α
 | lay : ByteArray → ByteArray → Pg α → Pg α
 | under : ByteArray → (List ByteArray → Pg α) → Pg α
namespace Pg
variable {α β : Type}
def bind : Pg α → (α → Pg β) → Pg β
 | .ret a, g => g a
 | .look k f, g => .look k (fun v => bind (f v) g)
 | .lay k v f, g => .lay k v (bind f g)
 | .under p f, g => .under p (fun v => bind (f v) g)
instance : Monad Pg where
 pure := Pg.ret
 bind := Pg.bind
def run : Pg α → Mch → Mch × α
 | .ret a, m => (m, a)
 | .look k f, m => run (f (getKeyS m.st k)) (lookM m k)
 | .lay k v f, m => run f (layM m k v)
 | .under p f, m => run (f (keysU m.st p)) (lookM m (starK p))
theorem run_ret (a : α) (m : Mch) : (Pg.ret a).run m = (m, a) := rfl
theorem run_pure (a : α) (m : Mch) : (pure a : Pg α).run m = (m, a) := rfl
theorem run_bind' (x : Pg α) (g : α → Pg β) : ∀ m : Mch, (Pg.bind x g).run m = (g (x.run m).2).run (x.run m).1 := by
 induction x with
 | ret a => intro m; rfl
 | look k f ih => intro m; exact ih _ _
 | lay k v f ih => intro m; exact ih _
 | under p f ih => intro m; exact ih _ _
theorem run_bind (x : Pg α) (g : α → Pg β) (m : Mch) : (x >>= g).run m = (g (x.run m).2).run (x.run m).1 := run_bind' x g m
end Pg
def noB : ByteArray := ⟨#[]⟩
def lookP (k : ByteArray) : Pg ByteArray := .look k .ret
def layP (k v : ByteArray) : Pg Unit := .lay k v (.ret ())
def underP (p : ByteArray) : Pg (List ByteArray) := .under p .ret
noncomputable def numP (k : ByteArray) : Pg Int := .look k fun v => .ret (numOfV v)
def setP (k : ByteArray) (n : Int) : Pg Unit := .lay k (numText n) (.ret ())
noncomputable def bumpP (k : ByteArray) : Pg Int := do
 let n ← numP k
 if 999 < n + 1 then pure 0 else do
  setP k (n + 1)
  pure (n + 1)
noncomputable def msgP (k : ByteArray) : Pg ByteArray := .look k fun v => .ret (msgV v)
def layAll : List ByteArray → Pg Unit
 | [] => .ret ()
 | k :: ks => .lay k noB (layAll ks)
def wipeP (p : ByteArray) : Pg Unit := .under p layAll
def nK (name : ByteArray) : ByteArray := ⟨#[110, 47]⟩ ++ name
def nHead : ByteArray := ⟨#[110, 47]⟩
def linksK (id : Int) : ByteArray := keyNumS ⟨#[105, 47]⟩ id ⟨#[47, 108]⟩
def sizeK (id : Int) : ByteArray := keyNumS ⟨#[105, 47]⟩ id ⟨#[47, 115]⟩
def fileK (id : Int) : ByteArray := keyNumS ⟨#[105, 47]⟩ id ⟨#[47]⟩
def blockK (id place : Int) : ByteArray := keyNumS (keyNumS ⟨#[105, 47]⟩ id ⟨#[47, 98, 47]⟩) place ⟨#[]⟩
def pipeK (id : Int) (t : ByteArray) : ByteArray := keyNumS ⟨#[112, 47]⟩ id t
def pipeQ (id k : Int) : ByteArray := keyNumS (pipeK id ⟨#[47, 113, 47]⟩) k ⟨#[]⟩
def sigK (id : Int) (t : ByteArray) : ByteArray := keyNumS ⟨#[103, 47]⟩ id t
def sigQ (id k : Int) : ByteArray := keyNumS (sigK id ⟨#[47, 113, 47]⟩) k ⟨#[]⟩
def timerK (id : Int) : ByteArray := keyNumS ⟨#[116, 47]⟩ id ⟨#[]⟩
def pagesK (id : Int) : ByteArray := keyNumS ⟨#[109, 47]⟩ id ⟨#[47]⟩
def pageK (id page : Int) : ByteArray := keyNumS (pagesK id) page ⟨#[]⟩
def outK1 (n : Int) : ByteArray := keyNumS dK n ⟨#[]⟩
def cFile : ByteArray := ⟨#[99, 47, 102, 105, 108, 101]⟩
def cPipe : ByteArray := ⟨#[99, 47, 112, 105, 112, 101]⟩
def cProc : ByteArray := ⟨#[99, 47, 112, 114, 111, 99]⟩
def cClock : ByteArray := ⟨#[99, 47, 99, 108, 111, 99, 107]⟩
def tO : ByteArray := ⟨#[47, 111]⟩
def tT : ByteArray := ⟨#[47, 116]⟩
def tH : ByteArray := ⟨#[47, 104]⟩
def tS : ByteArray := ⟨#[47, 115]⟩
def tP : ByteArray := ⟨#[47, 112]⟩
def tX : ByteArray := ⟨#[47, 120]⟩
def tSl : ByteArray := ⟨#[47]⟩
def tHead : ByteArray := ⟨#[116, 47]⟩
def rHead : ByteArray := ⟨#[114, 47]⟩
def hyphenS (s : ByteArray) : ByteArray := ⟨#[45]⟩ ++ s
noncomputable def fileOfP (name : ByteArray) : Pg Int := if nameOkB name = true then numP (nK name) else pure 0
noncomputable def makeP (name : ByteArray) : Pg (Int × Int) :=
 if nameOkB name = true then do
  let id ← fileOfP name
  if id = 0 then do
   let many ← numP cFile
   if 20 ≤ many then pure (0, 3) else do
    let id2 ← bumpP cFile
    setP (nK name) id2
    setP (linksK id2) 1
    pure (id2, 0)
  else pure (0, 1)
 else pure (0, 4)
noncomputable def linkP (a b : ByteArray) : Pg Int :=
 if (nameOkB a && nameOkB b) = true then do
  let id ← fileOfP a
  if id = 0 then pure 2 else do
   let o ← fileOfP b
   if o = 0 then do
    let n ← numP (linksK id)
    if 4 ≤ n then pure 3 else do
     setP (nK b) id
     setP (linksK id) (n + 1)
     pure 0
   else pure 1
 else pure 4
noncomputable def unlinkP (name : ByteArray) : Pg Int :=
 if nameOkB name = true then do
  let id ← fileOfP name
  if id = 0 then pure 2 else do
   layP (nK name) noB
   let n ← numP (linksK id)
   if 1 < n then do
    setP (linksK id) (n - 1)
    pure 0
   else do
    wipeP (fileK id)
    pure 0
 else pure 4
noncomputable def renameP (a b : ByteArray) : Pg Int :=
 if (nameOkB a && nameOkB b) = true then do
  let id ← fileOfP a
  if id = 0 then pure 2 else do
   let o ← fileOfP b
   if o = id then pure 0 else
    if o = 0 then do
     setP (nK b) id
     layP (nK a) noB
     pure 0
    else do
     let _ ← unlinkP b
     setP (nK b) id
     layP (nK a) noB
     pure 0
 else pure 4
def drop2 (k : ByteArray) : ByteArray := k.extract 2 k.size
def namesP : Pg (List ByteArray) := .under nHead fun ks => .ret (ks.map drop2)
noncomputable def blockP (id place : Int) : Pg ByteArray := .look (blockK id place) fun v => .ret (unhexV v)
def pieceOf (b : ByteArray) (place at_ end_ : Int) : ByteArray := b.extract (max (at_ - place * 8) 0).toNat (min (end_ - place * 8) (min 8 b.size)).toNat
noncomputable def readL (id at_ end_ : Int) : Nat → Int → ByteArray → Pg ByteArray
 | 0, _, acc => .ret acc
 | n + 1, place, acc => if place * 8 < end_ then do
  let b ← blockP id place
  readL id at_ end_ n (place + 1) (acc ++ pieceOf b place at_ end_)
  else .ret acc
noncomputable def readP (id at_ n : Int) : Pg ByteArray := do
 let size ← numP (sizeK id)
 if at_ < 0 ∨ n < 1 ∨ size ≤ at_ then pure noB else readL id at_ (at_ + min n (size - at_)) 200 (at_ / 8) noB
def padB (b : List UInt8) (n : Nat) : List UInt8 := b ++ List.replicate (n - b.length) 0
def stepB (text : ByteArray) (place at_ end_ : Int) (b : List UInt8) (i : Nat) : List UInt8 :=
 if at_ ≤ place * 8 + i ∧ place * 8 + i < end_ then (padB b (i + 1)).set i (text.data.toList.getD (place * 8 + i - at_).toNat 0) else b
def newBlock (old text : ByteArray) (place at_ end_ : Int) : ByteArray := ⟨((List.range 8).foldl (stepB text place at_ end_) old.data.toList).toArray⟩
noncomputable def writeL (id at_ end_ : Int) (text : ByteArray) : Nat → Int → Pg Unit
 | 0, _ => .ret ()
 | n + 1, place => if place * 8 < end_ then do
  let b ← blockP id place
  layP (blockK id place) (hexV (newBlock b text place at_ end_))
  writeL id at_ end_ text n (place + 1)
  else .ret ()
noncomputable def writeP (id at_ : Int) (text : ByteArray) : Pg Int := do
 let size ← numP (sizeK id)
 if (inB at_ 0 size && decide (0 < text.size)) = true then
  if 64 < at_ + text.size then pure 3 else do
   writeL id at_ (at_ + text.size) text 20 (at_ / 8)
   if size < at_ + text.size then do
    setP (sizeK id) (at_ + text.size)
    pure 0
   else pure 0
 else pure 4
def cutL (id size : Int) : Nat → Int → Pg Unit
 | 0, _ => .ret ()
 | n + 1, place => if place * 8 < size then .lay (blockK id place) noB (cutL id size n (place + 1)) else .ret ()
noncomputable def cutP (id n : Int) : Pg Int := do
 let size ← numP (sizeK id)
 if inB n 0 size = true then
  if 0 < n % 8 then do
   let b ← blockP id (n / 8)
   layP (blockK id (n / 8)) (hexV (b.extract 0 (min (n % 8) b.size).toNat))
   cutL id size 200 (n / 8 + 1)
   setP (sizeK id) n
   pure 0
  else do
   cutL id size 200 (n / 8)
   setP (sizeK id) n
   pure 0
 else pure 4
noncomputable def mkPipeP : Pg (Int × Int) := do
 let many ← numP cPipe
 if 8 ≤ many then pure (0, 3) else do
  let id ← bumpP cPipe
  setP (pipeK id tO) 1
  pure (id, 0)
noncomputable def isPipeP (id : Int) : Pg Bool := do
 let n ← numP (pipeK id tO)
 pure (decide (n = 1))
noncomputable def putPipeP (id : Int) (text : ByteArray) : Pg Int := do
 let ok ← isPipeP id
 if ok = true then
  if 20 < text.size then pure 4 else do
   let t ← numP (pipeK id tT)
   let h ← numP (pipeK id tH)
   if 4 ≤ t - h then pure 5 else
    if 999 ≤ t then pure 3 else do
     setP (pipeK id tT) (t + 1)
     layP (pipeQ id (t + 1)) (hyphenS (hexV text))
     pure 0
 else pure 2
noncomputable def takePipeP (id : Int) : Pg (ByteArray × Int) := do
 let ok ← isPipeP id
 if ok = true then do
  let h ← numP (pipeK id tH)
  let t ← numP (pipeK id tT)
  if t = h then pure (noB, 5) else do
   let x ← msgP (pipeQ id (h + 1))
   layP (pipeQ id (h + 1)) noB
   setP (pipeK id tH) (h + 1)
   pure (x, 0)
 else pure (noB, 2)
noncomputable def stateP (id : Int) : Pg Int := numP (procK id tS)
noncomputable def spawnP (parent : Int) : Pg (Int × Int) := do
 let many ← numP cProc
 if 12 ≤ many then pure (0, 3) else do
  let id ← bumpP cProc
  setP (procK id tS) 1
  setP (procK id tP) parent
  pure (id, 0)
noncomputable def endP (id n : Int) : Pg Int := do
 let s ← stateP id
 if s = 1 then
  if inB n 0 100 = true then do
   setP (procK id tS) 2
   setP (procK id tX) (n + 1)
   pure 0
  else pure 4
 else pure 2
noncomputable def reapP (parent id : Int) : Pg (Int × Int) := do
 let own ← numP (procK id tP)
 if own = 0 ∨ own ≠ parent then pure (0, 2) else do
  let s ← stateP id
  if s = 1 then pure (0, 5) else
   if s = 2 then do
    let x ← numP (procK id tX)
    wipeP (procK id tSl)
    pure (x - 1, 0)
   else pure (0, 2)
def kidKey (k : ByteArray) : Bool := decide (5 ≤ k.size) && Lib.hasSuffix k.data.toList [47, 112]
noncomputable def kidsL (parent : Int) : List ByteArray → List Int → Pg (List Int)
 | [], out => .ret out
 | k :: ks, out => if kidKey k = true then do
  let up ← numP k
  kidsL parent ks (if up = parent then out ++ [numOfV (k.extract 2 (k.size - 2))] else out)
  else kidsL parent ks out
noncomputable def kidsP (parent : Int) : Pg (List Int) := .under rHead fun ks => kidsL parent ks []
noncomputable def sendP (dest n : Int) : Pg Int := do
 let s ← stateP dest
 if s = 1 then
  if inB n 1 31 = true then do
   let t ← numP (sigK dest tT)
   let h ← numP (sigK dest tH)
   if 4 ≤ t - h then pure 5 else
    if 999 ≤ t then pure 3 else do
     setP (sigK dest tT) (t + 1)
     setP (sigQ dest (t + 1)) n
     pure 0
  else pure 4
 else pure 2
noncomputable def takeSigP (id : Int) : Pg (Int × Int) := do
 let h ← numP (sigK id tH)
 let t ← numP (sigK id tT)
 if t = h then pure (0, 5) else do
  let n ← numP (sigQ id (h + 1))
  layP (sigQ id (h + 1)) noB
  setP (sigK id tH) (h + 1)
  pure (n, 0)
def timerP (id at_ : Int) : Pg Int :=
 if inB at_ 0 999 = true then do
  setP (timerK id) at_
  pure 0
 else pure 4
noncomputable def tickL (clock : Int) : List ByteArray → Int → Pg Int
 | [], n => .ret n
 | k :: ks, n => do
  let at_ ← numP k
  if clock < at_ then tickL clock ks n else do
   layP k noB
   let _ ← sendP (numOfV (drop2 k)) 14
   tickL clock ks (n + 1)
noncomputable def tickP (n : Int) : Pg (Int × Int) :=
 if n < 1 then pure (0, 4) else do
  let clock ← numP cClock
  if 999 - clock < n then pure (0, 3) else do
   setP cClock (clock + n)
   let ks ← underP tHead
   let x ← tickL (clock + n) ks 0
   pure (x, 0)
def storeP (id page : Int) (text : ByteArray) : Pg Int :=
 if (inB page 0 3 && decide (text.size ≤ 20)) = true then do
  layP (pageK id page) (if text.size = 0 then noB else hyphenS (hexV text))
  pure 0
 else pure 4
noncomputable def loadP (id page : Int) : Pg (ByteArray × Int) :=
 if inB page 0 3 = true then do
  let x ← msgP (pageK id page)
  pure (x, 0)
 else pure (noB, 4)
def forkL (a b : ByteArray) : List ByteArray → Pg Unit
 | [] => .ret ()
 | k :: ks => .look k fun v => .lay (b ++ k.extract a.size k.size) v (forkL a b ks)
def forkP (a b : Int) : Pg Unit := .under (pagesK a) (forkL (pagesK a) (pagesK b))
def dropPagesP (id : Int) : Pg Unit := wipeP (pagesK id)
noncomputable def putOutP (text : ByteArray) : Pg Int :=
 if inB text.size 1 20 = true then do
  let n ← numP dnK
  if 40 ≤ n then pure 3 else do
   setP dnK (n + 1)
   layP (outK1 (n + 1)) (hyphenS (hexV text))
   pure 0
 else pure 4
def spaceS : ByteArray := ⟨#[32]⟩
def wordsS (xs : List ByteArray) : ByteArray := xs.foldl (fun a x => a ++ x ++ spaceS) noB
noncomputable def fileP (c : Cal) : Pg Ans := do
 let id ← fileOfP c.name
 if id = 0 then pure ⟨2, 0, noB⟩ else
  if c.kind = 6 then do
   let t ← readP id c.a c.b
   pure ⟨0, 0, t⟩
  else
   if c.kind = 7 then do
    let x ← writeP id c.a c.text
    pure ⟨x, 0, noB⟩
   else do
    let x ← cutP id c.a
    pure ⟨x, 0, noB⟩
def ansN (x : Int × Int) : Ans := ⟨x.2, x.1, noB⟩
def ansT (x : ByteArray × Int) : Ans := ⟨x.2, 0, x.1⟩
def ansC (x : Int) : Ans := ⟨x, 0, noB⟩
noncomputable def spawnAllP (proc : Int) : Pg Ans := do
 let x ← spawnP proc
 if x.2 = 0 then do
  forkP proc x.1
  pure (ansN x)
 else pure (ansN x)
noncomputable def endAllP (proc n : Int) : Pg Ans := do
 let x ← endP proc n
 if x = 0 then do
  dropPagesP proc
  pure (ansC x)
 else pure (ansC x)
noncomputable def kindP (proc : Int) (c : Cal) : Pg Ans :=
 if c.kind = 1 then (do let x ← makeP c.name; pure (ansN x))
 else if c.kind = 2 then (do let x ← linkP c.name c.dest; pure (ansC x))
 else if c.kind = 3 then (do let x ← unlinkP c.name; pure (ansC x))
 else if c.kind = 4 then (do let x ← renameP c.name c.dest; pure (ansC x))
 else if c.kind = 5 then (do let x ← namesP; pure ⟨0, 0, wordsS x⟩)
 else if c.kind = 6 ∨ c.kind = 7 ∨ c.kind = 8 then fileP c
 else if c.kind = 9 then (do let x ← mkPipeP; pure (ansN x))
 else if c.kind = 10 then (do let x ← putPipeP c.a c.text; pure (ansC x))
 else if c.kind = 11 then (do let x ← takePipeP c.a; pure (ansT x))
 else if c.kind = 12 then spawnAllP proc
 else if c.kind = 13 then endAllP proc c.a
 else if c.kind = 14 then (do let x ← reapP proc c.a; pure (ansN x))
 else if c.kind = 15 then (do let x ← kidsP proc; pure ⟨0, 0, wordsS (x.map decS)⟩)
 else if c.kind = 16 then (do let x ← sendP c.a c.b; pure (ansC x))
 else if c.kind = 17 then (do let x ← takeSigP proc; pure (ansN x))
 else if c.kind = 18 then (do let x ← timerP proc c.a; pure (ansC x))
 else if c.kind = 19 then (do let x ← tickP c.a; pure (ansN x))
 else if c.kind = 20 then (do let x ← storeP proc c.a c.text; pure (ansC x))
 else if c.kind = 21 then (do let x ← loadP proc c.a; pure (ansT x))
 else (do let x ← putOutP c.text; pure (ansC x))
noncomputable def callP (proc : Int) (c : Cal) : Pg Ans := do
 let s ← stateP proc
 if s = 1 then
  if callOkB c = true then kindP proc c else pure ⟨4, 0, noB⟩
 else pure ⟨2, 0, noB⟩
end Go.Proofs.YtihghflppegnmaaGreatDoor
namespace Go.Proofs.YtihghflppegnmaaGreatDoor
open Go.RowKit
namespace Pg
variable {α β : Type}
def Cost : Pg α → Nat → Nat → Prop
 | .ret _, _, _ => True
 | .look _ f, n, c => ∃ d, c = d + 1 ∧ ∀ v, Cost (f v) (n + 1) d
 | .lay _ _ f, n, c => ∃ d, c = d + 1 ∧ Cost f (n + 1) d
 | .under _ f, n, c => ∃ d, c = d + 1 ∧ ∀ ks : List ByteArray, ks.length ≤ n → Cost (f ks) (n + 1) d
theorem Cost.mono2 {x : Pg α} : ∀ {n n' c d : Nat}, Cost x n c → n' ≤ n → c ≤ d → Cost x n' d := by
 induction x with
 | ret a => intro n n' c d _ _ _; exact trivial
 | look k f ih =>
  rintro n n' c d ⟨e, rfl, h⟩ hn hd;exact ⟨d - 1, by omega, fun v => ih v (h v) (by omega) (by omega)⟩
 | lay k v f ih =>
  rintro n n' c d ⟨e, rfl, h⟩ hn hd;exact ⟨d - 1, by omega, ih h (by omega) (by omega)⟩
 | under p f ih =>
  rintro n n' c d ⟨e, rfl, h⟩ hn hd;exact ⟨d - 1, by omega, fun v hv => ih v (h v (by omega)) (by omega) (by omega)⟩
theorem Cost.mono {x : Pg α} {n c d : Nat} (h : Cost x n c) (hd : c ≤ d) : Cost x n d := h.mono2 (Nat.le_refl _) hd
theorem Cost.bind0 {x : Pg α} {g : α → Pg β} {d : Nat} : ∀ {n c : Nat}, Cost x n c → (∀ v, Cost (g v) (n + c) d) → Cost (x >>= g) n (c + d) := by
 induction x with
 | ret a => intro n c _ h; exact (h a).mono2 (by omega) (by omega)
 | look k f ih =>
  rintro n c ⟨e, rfl, h⟩ hg;exact ⟨e + d, by omega, fun v => ih v (h v) (fun v => (hg v).mono2 (by omega) (by omega))⟩
 | lay k v f ih =>
  rintro n c ⟨e, rfl, h⟩ hg;exact ⟨e + d, by omega, ih h (fun v => (hg v).mono2 (by omega) (by omega))⟩
 | under p f ih =>
  rintro n c ⟨e, rfl, h⟩ hg;exact ⟨e + d, by omega, fun v hv => ih v (h v hv) (fun v => (hg v).mono2 (by omega) (by omega))⟩
theorem Cost.bind {x : Pg α} {g : α → Pg β} {n c d : Nat} (h : Cost x n c) (hc : c ≤ d) (hg : ∀ v, Cost (g v) (n + c) (d - c)) : Cost (x >>= g) n d := (Cost.bind0 h hg).mono (by omega)
theorem Cost.pure {n c : Nat} (a : α) : Cost (Pure.pure a : Pg α) n c := trivial
theorem Cost.ite {p : Prop} [Decidable p] {x y : Pg α} {n c : Nat} (hx : Cost x n c) (hy : Cost y n c) : Cost (if p then x else y) n c := by
 split
 ·exact hx
 ·exact hy
theorem Cost.ok {x : Pg α} : ∀ {n c : Nat} {m : Mch}, Cost x n c → MOk n m → MOk (n + c) (x.run m).1 := by
 induction x with
 | ret a => intro n c m _ h; exact h.mono (by omega)
 | look k f ih =>
  rintro n c m ⟨e, rfl, h⟩ ho;exact (ih _ (h _) (ho.look k)).mono (by omega)
 | lay k v f ih =>
  rintro n c m ⟨e, rfl, h⟩ ho;exact (ih h (ho.lay k v)).mono (by omega)
 | under p f ih =>
  rintro n c m ⟨e, rfl, h⟩ ho;exact (ih _ (h _ (Nat.le_trans (keysU_len _ _) ho.l1)) (ho.look _)).mono (by omega)
theorem Cost.okE {x : Pg α} {v : α} {n c : Nat} {m m' : Mch} (h : Cost x n c) (ho : MOk n m) (E : x.run m = (m', v)) : MOk (n + c) m' := by
 have := h.ok ho;rw [E] at this;exact this
end Pg
open Pg
variable {N : Nat}
theorem lookP_cost (k : ByteArray) : Cost (lookP k) N 1 := ⟨0, rfl, fun _ => trivial⟩
theorem layP_cost (k v : ByteArray) : Cost (layP k v) N 1 := ⟨0, rfl, trivial⟩
theorem underP_cost (p : ByteArray) : Cost (underP p) N 1 := ⟨0, rfl, fun _ _ => trivial⟩
theorem numP_cost (k : ByteArray) : Cost (numP k) N 1 := ⟨0, rfl, fun _ => trivial⟩
theorem msgP_cost (k : ByteArray) : Cost (msgP k) N 1 := ⟨0, rfl, fun _ => trivial⟩
theorem blockP_cost (i j : Int) : Cost (blockP i j) N 1 := ⟨0, rfl, fun _ => trivial⟩
theorem setP_cost (k : ByteArray) (n : Int) : Cost (setP k n) N 1 := ⟨0, rfl, trivial⟩
theorem layAll_cost : ∀ (ks : List ByteArray) {N : Nat}, Cost (layAll ks) N ks.length
 | [], _ => trivial
 | _ :: ks, _ => ⟨ks.length, rfl, layAll_cost ks⟩
theorem wipeP_cost (p : ByteArray) : Cost (wipeP p) N (N + 1) := ⟨N, rfl, fun ks h => (layAll_cost ks).mono h⟩
theorem namesP_cost : Cost namesP N 1 := ⟨0, rfl, fun _ _ => trivial⟩
theorem fileOfP_cost (a : ByteArray) : Cost (fileOfP a) N (1) := by
 unfold fileOfP
 repeat' first | exact Cost.pure _ | with_reducible refine Cost.bind (numP_cost _) (by omega) (fun _ => ?_) | exact (numP_cost _).mono (by omega) | exact trivial | with_reducible refine Cost.ite ?_ ?_
theorem bumpP_cost (a : ByteArray) : Cost (bumpP a) N (2) := by
 unfold bumpP
 repeat' first | exact Cost.pure _ | with_reducible refine Cost.bind (numP_cost _) (by omega) (fun _ => ?_) | exact (numP_cost _).mono (by omega) | with_reducible refine Cost.bind (setP_cost _ _) (by omega) (fun _ => ?_) | exact (setP_cost _ _).mono (by omega) | exact trivial | with_reducible refine Cost.ite ?_ ?_
theorem makeP_cost (a : ByteArray) : Cost (makeP a) N (6) := by
 unfold makeP
 repeat' first | exact Cost.pure _ | with_reducible refine Cost.bind (numP_cost _) (by omega) (fun _ => ?_) | exact (numP_cost _).mono (by omega) | with_reducible refine Cost.bind (setP_cost _ _) (by omega) (fun _ => ?_) | exact (setP_cost _ _).mono (by omega) | with_reducible refine Cost.bind (fileOfP_cost _) (by omega) (fun _ => ?_) | exact (fileOfP_cost _).mono (by omega) | with_reducible refine Cost.bind (bumpP_cost _) (by omega) (fun _ => ?_) | exact (bumpP_cost _).mono (by omega) | exact trivial | with_reducible refine Cost.ite ?_ ?_
theorem linkP_cost (a b : ByteArray) : Cost (linkP a b) N (5) := by
 unfold linkP
 repeat' first | exact Cost.pure _ | with_reducible refine Cost.bind (numP_cost _) (by omega) (fun _ => ?_) | exact (numP_cost _).mono (by omega) | with_reducible refine Cost.bind (setP_cost _ _) (by omega) (fun _ => ?_) | exact (setP_cost _ _).mono (by omega) | with_reducible refine Cost.bind (fileOfP_cost _) (by omega) (fun _ => ?_) | exact (fileOfP_cost _).mono (by omega) | exact trivial | with_reducible refine Cost.ite ?_ ?_
theorem unlinkP_cost (a : ByteArray) : Cost (unlinkP a) N (N + 7) := by
 unfold unlinkP
 repeat' first | exact Cost.pure _ | with_reducible refine Cost.bind (layP_cost _ _) (by omega) (fun _ => ?_) | exact (layP_cost _ _).mono (by omega) | with_reducible refine Cost.bind (numP_cost _) (by omega) (fun _ => ?_) | exact (numP_cost _).mono (by omega) | with_reducible refine Cost.bind (setP_cost _ _) (by omega) (fun _ => ?_) | exact (setP_cost _ _).mono (by omega) | with_reducible refine Cost.bind (wipeP_cost _) (by omega) (fun _ => ?_) | exact (wipeP_cost _).mono (by omega) | with_reducible refine Cost.bind (fileOfP_cost _) (by omega) (fun _ => ?_) | exact (fileOfP_cost _).mono (by omega) | exact trivial | with_reducible refine Cost.ite ?_ ?_
theorem renameP_cost (a b : ByteArray) : Cost (renameP a b) N (N + 13) := by
 unfold renameP
 repeat' first | exact Cost.pure _ | with_reducible refine Cost.bind (layP_cost _ _) (by omega) (fun _ => ?_) | exact (layP_cost _ _).mono (by omega) | with_reducible refine Cost.bind (setP_cost _ _) (by omega) (fun _ => ?_) | exact (setP_cost _ _).mono (by omega) | with_reducible refine Cost.bind (fileOfP_cost _) (by omega) (fun _ => ?_) | exact (fileOfP_cost _).mono (by omega) | with_reducible refine Cost.bind (unlinkP_cost _) (by omega) (fun _ => ?_) | exact (unlinkP_cost _).mono (by omega) | exact trivial | with_reducible refine Cost.ite ?_ ?_
theorem readL_cost (id a e : Int) : ∀ (n : Nat) (p : Int) (s : ByteArray) {N : Nat}, Cost (readL id a e n p s) N n
 | 0, _, _, _ => trivial
 | n + 1, _, _, _ => by
  unfold readL;refine Cost.ite ?_ trivial;exact Cost.bind (blockP_cost _ _) (by omega) (fun _ => readL_cost id a e n _ _)
theorem writeL_cost (id a e : Int) (t : ByteArray) : ∀ (n : Nat) (p : Int) {N : Nat}, Cost (writeL id a e t n p) N (2 * n)
 | 0, _, _ => trivial
 | n + 1, _, _ => by
  unfold writeL;refine Cost.ite ?_ trivial;refine Cost.bind (blockP_cost _ _) (by omega) (fun _ => ?_);refine Cost.bind (layP_cost _ _) (by omega) (fun _ => ?_);exact (writeL_cost id a e t n _).mono (by omega)
theorem cutL_cost (id s : Int) : ∀ (n : Nat) (p : Int) {N : Nat}, Cost (cutL id s n p) N n
 | 0, _, _ => trivial
 | n + 1, _, _ => by
  unfold cutL;exact Cost.ite ⟨n, rfl, cutL_cost id s n _⟩ trivial
theorem readP_cost (a b c : Int) : Cost (readP a b c) N (201) := by
 unfold readP
 repeat' first | exact Cost.pure _ | with_reducible refine Cost.bind (numP_cost _) (by omega) (fun _ => ?_) | exact (numP_cost _).mono (by omega) | with_reducible refine Cost.bind (readL_cost _ _ _ _ _ _) (by omega) (fun _ => ?_) | exact (readL_cost _ _ _ _ _ _).mono (by omega) | exact trivial | with_reducible refine Cost.ite ?_ ?_
theorem writeP_cost (a b : Int) (t : ByteArray) : Cost (writeP a b t) N (42) := by
 unfold writeP
 repeat' first | exact Cost.pure _ | with_reducible refine Cost.bind (numP_cost _) (by omega) (fun _ => ?_) | exact (numP_cost _).mono (by omega) | with_reducible refine Cost.bind (setP_cost _ _) (by omega) (fun _ => ?_) | exact (setP_cost _ _).mono (by omega) | with_reducible refine Cost.bind (writeL_cost _ _ _ _ _ _) (by omega) (fun _ => ?_) | exact (writeL_cost _ _ _ _ _ _).mono (by omega) | exact trivial | with_reducible refine Cost.ite ?_ ?_
theorem cutP_cost (a b : Int) : Cost (cutP a b) N (204) := by
 unfold cutP
 repeat' first | exact Cost.pure _ | with_reducible refine Cost.bind (layP_cost _ _) (by omega) (fun _ => ?_) | exact (layP_cost _ _).mono (by omega) | with_reducible refine Cost.bind (numP_cost _) (by omega) (fun _ => ?_) | exact (numP_cost _).mono (by omega) | with_reducible refine Cost.bind (blockP_cost _ _) (by omega) (fun _ => ?_) | exact (blockP_cost _ _).mono (by omega) | with_reducible refine Cost.bind (setP_cost _ _) (by omega) (fun _ => ?_) | exact (setP_cost _ _).mono (by omega) | with_reducible refine Cost.bind (cutL_cost _ _ _ _) (by omega) (fun _ => ?_) | exact (cutL_cost _ _ _ _).mono (by omega) | exact trivial | with_reducible refine Cost.ite ?_ ?_
theorem mkPipeP_cost  : Cost (mkPipeP ) N (4) := by
 unfold mkPipeP
 repeat' first | exact Cost.pure _ | with_reducible refine Cost.bind (numP_cost _) (by omega) (fun _ => ?_) | exact (numP_cost _).mono (by omega) | with_reducible refine Cost.bind (setP_cost _ _) (by omega) (fun _ => ?_) | exact (setP_cost _ _).mono (by omega) | with_reducible refine Cost.bind (bumpP_cost _) (by omega) (fun _ => ?_) | exact (bumpP_cost _).mono (by omega) | exact trivial | with_reducible refine Cost.ite ?_ ?_
theorem isPipeP_cost (a : Int) : Cost (isPipeP a) N (1) := by
 unfold isPipeP
 repeat' first | exact Cost.pure _ | with_reducible refine Cost.bind (numP_cost _) (by omega) (fun _ => ?_) | exact (numP_cost _).mono (by omega) | exact trivial | with_reducible refine Cost.ite ?_ ?_
theorem putPipeP_cost (a : Int) (t : ByteArray) : Cost (putPipeP a t) N (5) := by
 unfold putPipeP
 repeat' first | exact Cost.pure _ | with_reducible refine Cost.bind (layP_cost _ _) (by omega) (fun _ => ?_) | exact (layP_cost _ _).mono (by omega) | with_reducible refine Cost.bind (numP_cost _) (by omega) (fun _ => ?_) | exact (numP_cost _).mono (by omega) | with_reducible refine Cost.bind (setP_cost _ _) (by omega) (fun _ => ?_) | exact (setP_cost _ _).mono (by omega) | with_reducible refine Cost.bind (isPipeP_cost _) (by omega) (fun _ => ?_) | exact (isPipeP_cost _).mono (by omega) | exact trivial | with_reducible refine Cost.ite ?_ ?_
theorem takePipeP_cost (a : Int) : Cost (takePipeP a) N (6) := by
 unfold takePipeP
 repeat' first | exact Cost.pure _ | with_reducible refine Cost.bind (layP_cost _ _) (by omega) (fun _ => ?_) | exact (layP_cost _ _).mono (by omega) | with_reducible refine Cost.bind (numP_cost _) (by omega) (fun _ => ?_) | exact (numP_cost _).mono (by omega) | with_reducible refine Cost.bind (msgP_cost _) (by omega) (fun _ => ?_) | exact (msgP_cost _).mono (by omega) | with_reducible refine Cost.bind (setP_cost _ _) (by omega) (fun _ => ?_) | exact (setP_cost _ _).mono (by omega) | with_reducible refine Cost.bind (isPipeP_cost _) (by omega) (fun _ => ?_) | exact (isPipeP_cost _).mono (by omega) | exact trivial | with_reducible refine Cost.ite ?_ ?_
theorem stateP_cost (a : Int) : Cost (stateP a) N (1) := by
 unfold stateP
 repeat' first | exact Cost.pure _ | with_reducible refine Cost.bind (numP_cost _) (by omega) (fun _ => ?_) | exact (numP_cost _).mono (by omega) | exact trivial | with_reducible refine Cost.ite ?_ ?_
theorem spawnP_cost (a : Int) : Cost (spawnP a) N (5) := by
 unfold spawnP
 repeat' first | exact Cost.pure _ | with_reducible refine Cost.bind (numP_cost _) (by omega) (fun _ => ?_) | exact (numP_cost _).mono (by omega) | with_reducible refine Cost.bind (setP_cost _ _) (by omega) (fun _ => ?_) | exact (setP_cost _ _).mono (by omega) | with_reducible refine Cost.bind (bumpP_cost _) (by omega) (fun _ => ?_) | exact (bumpP_cost _).mono (by omega) | exact trivial | with_reducible refine Cost.ite ?_ ?_
theorem endP_cost (a b : Int) : Cost (endP a b) N (3) := by
 unfold endP
 repeat' first | exact Cost.pure _ | with_reducible refine Cost.bind (setP_cost _ _) (by omega) (fun _ => ?_) | exact (setP_cost _ _).mono (by omega) | with_reducible refine Cost.bind (stateP_cost _) (by omega) (fun _ => ?_) | exact (stateP_cost _).mono (by omega) | exact trivial | with_reducible refine Cost.ite ?_ ?_
theorem reapP_cost (a b : Int) : Cost (reapP a b) N (N + 7) := by
 unfold reapP
 repeat' first | exact Cost.pure _ | with_reducible refine Cost.bind (numP_cost _) (by omega) (fun _ => ?_) | exact (numP_cost _).mono (by omega) | with_reducible refine Cost.bind (wipeP_cost _) (by omega) (fun _ => ?_) | exact (wipeP_cost _).mono (by omega) | with_reducible refine Cost.bind (stateP_cost _) (by omega) (fun _ => ?_) | exact (stateP_cost _).mono (by omega) | exact trivial | with_reducible refine Cost.ite ?_ ?_
theorem kidsL_cost (p : Int) : ∀ (ks : List ByteArray) (o : List Int) {N : Nat}, Cost (kidsL p ks o) N ks.length
 | [], _, _ => trivial
 | k :: ks, _, _ => by
  unfold kidsL;refine Cost.ite ?_ ((kidsL_cost p ks _).mono (by simp));refine Cost.bind (numP_cost _) (by simp) (fun _ => ?_);exact (kidsL_cost p ks _).mono (by simp)
theorem kidsP_cost (p : Int) : Cost (kidsP p) N (N + 1) := ⟨N, rfl, fun ks h => (kidsL_cost p ks []).mono h⟩
theorem sendP_cost (a b : Int) : Cost (sendP a b) N (5) := by
 unfold sendP
 repeat' first | exact Cost.pure _ | with_reducible refine Cost.bind (numP_cost _) (by omega) (fun _ => ?_) | exact (numP_cost _).mono (by omega) | with_reducible refine Cost.bind (setP_cost _ _) (by omega) (fun _ => ?_) | exact (setP_cost _ _).mono (by omega) | with_reducible refine Cost.bind (stateP_cost _) (by omega) (fun _ => ?_) | exact (stateP_cost _).mono (by omega) | exact trivial | with_reducible refine Cost.ite ?_ ?_
theorem takeSigP_cost (a : Int) : Cost (takeSigP a) N (5) := by
 unfold takeSigP
 repeat' first | exact Cost.pure _ | with_reducible refine Cost.bind (layP_cost _ _) (by omega) (fun _ => ?_) | exact (layP_cost _ _).mono (by omega) | with_reducible refine Cost.bind (numP_cost _) (by omega) (fun _ => ?_) | exact (numP_cost _).mono (by omega) | with_reducible refine Cost.bind (setP_cost _ _) (by omega) (fun _ => ?_) | exact (setP_cost _ _).mono (by omega) | exact trivial | with_reducible refine Cost.ite ?_ ?_
theorem timerP_cost (a b : Int) : Cost (timerP a b) N (1) := by
 unfold timerP
 repeat' first | exact Cost.pure _ | with_reducible refine Cost.bind (setP_cost _ _) (by omega) (fun _ => ?_) | exact (setP_cost _ _).mono (by omega) | exact trivial | with_reducible refine Cost.ite ?_ ?_
theorem tickL_cost (c : Int) : ∀ (ks : List ByteArray) (o : Int) {N : Nat}, Cost (tickL c ks o) N (7 * ks.length)
 | [], _, _ => trivial
 | k :: ks, _, _ => by
  unfold tickL;simp only [List.length_cons];refine Cost.bind (numP_cost _) (by omega) (fun _ => ?_);refine Cost.ite ((tickL_cost c ks _).mono (by omega)) ?_;refine Cost.bind (layP_cost _ _) (by omega) (fun _ => ?_);refine Cost.bind (sendP_cost _ _) (by omega) (fun _ => ?_);exact (tickL_cost c ks _).mono (by omega)
theorem tickP_cost (n : Int) : Cost (tickP n) N (7 * N + 17) := by
 unfold tickP;refine Cost.ite (Cost.pure _) ?_;refine Cost.bind (numP_cost _) (by omega) (fun _ => ?_);refine Cost.ite (Cost.pure _) ?_;refine Cost.bind (setP_cost _ _) (by omega) (fun _ => ?_);refine ⟨7 * N + 14, by omega, fun ks h => ?_⟩;refine Cost.bind0 (c := 7 * ks.length) (d := 0) (tickL_cost _ ks 0) (fun _ => Cost.pure _) |>.mono ?_
 omega
theorem storeP_cost (a b : Int) (t : ByteArray) : Cost (storeP a b t) N (1) := by
 unfold storeP
 repeat' first | exact Cost.pure _ | with_reducible refine Cost.bind (layP_cost _ _) (by omega) (fun _ => ?_) | exact (layP_cost _ _).mono (by omega) | exact trivial | with_reducible refine Cost.ite ?_ ?_
theorem loadP_cost (a b : Int) : Cost (loadP a b) N (1) := by
 unfold loadP
 repeat' first | exact Cost.pure _ | with_reducible refine Cost.bind (msgP_cost _) (by omega) (fun _ => ?_) | exact (msgP_cost _).mono (by omega) | exact trivial | with_reducible refine Cost.ite ?_ ?_
theorem forkL_cost (a b : ByteArray) : ∀ (ks : List ByteArray) {N : Nat}, Cost (forkL a b ks) N (2 * ks.length)
 | [], _ => trivial
 | _ :: ks, _ => ⟨2 * ks.length + 1, by simp; omega, fun _ => ⟨2 * ks.length, rfl, forkL_cost a b ks⟩⟩
theorem forkP_cost (a b : Int) : Cost (forkP a b) N (2 * N + 1) := ⟨2 * N, rfl, fun ks h => (forkL_cost _ _ ks).mono (by omega)⟩
theorem dropPagesP_cost (a : Int) : Cost (dropPagesP a) N (N + 1) := by
 unfold dropPagesP
 repeat' first | exact Cost.pure _ | with_reducible refine Cost.bind (wipeP_cost _) (by omega) (fun _ => ?_) | exact (wipeP_cost _).mono (by omega) | exact trivial | with_reducible refine Cost.ite ?_ ?_
theorem putOutP_cost (t : ByteArray) : Cost (putOutP t) N (3) := by
 unfold putOutP
 repeat' first | exact Cost.pure _ | with_reducible refine Cost.bind (layP_cost _ _) (by omega) (fun _ => ?_) | exact (layP_cost _ _).mono (by omega) | with_reducible refine Cost.bind (numP_cost _) (by omega) (fun _ => ?_) | exact (numP_cost _).mono (by omega) | with_reducible refine Cost.bind (setP_cost _ _) (by omega) (fun _ => ?_) | exact (setP_cost _ _).mono (by omega) | exact trivial | with_reducible refine Cost.ite ?_ ?_
theorem fileP_cost (c : Cal) : Cost (fileP c) N (205) := by
 unfold fileP
 repeat' first | exact Cost.pure _ | with_reducible refine Cost.bind (fileOfP_cost _) (by omega) (fun _ => ?_) | exact (fileOfP_cost _).mono (by omega) | with_reducible refine Cost.bind (readP_cost _ _ _) (by omega) (fun _ => ?_) | exact (readP_cost _ _ _).mono (by omega) | with_reducible refine Cost.bind (writeP_cost _ _ _) (by omega) (fun _ => ?_) | exact (writeP_cost _ _ _).mono (by omega) | with_reducible refine Cost.bind (cutP_cost _ _) (by omega) (fun _ => ?_) | exact (cutP_cost _ _).mono (by omega) | exact trivial | with_reducible refine Cost.ite ?_ ?_
theorem spawnAllP_cost (a : Int) : Cost (spawnAllP a) N (2 * N + 16) := by
 unfold spawnAllP
 repeat' first | exact Cost.pure _ | with_reducible refine Cost.bind (spawnP_cost _) (by omega) (fun _ => ?_) | exact (spawnP_cost _).mono (by omega) | with_reducible refine Cost.bind (forkP_cost _ _) (by omega) (fun _ => ?_) | exact (forkP_cost _ _).mono (by omega) | exact trivial | with_reducible refine Cost.ite ?_ ?_
theorem endAllP_cost (a b : Int) : Cost (endAllP a b) N (N + 7) := by
 unfold endAllP
 repeat' first | exact Cost.pure _ | with_reducible refine Cost.bind (endP_cost _ _) (by omega) (fun _ => ?_) | exact (endP_cost _ _).mono (by omega) | with_reducible refine Cost.bind (dropPagesP_cost _) (by omega) (fun _ => ?_) | exact (dropPagesP_cost _).mono (by omega) | exact trivial | with_reducible refine Cost.ite ?_ ?_
theorem kindP_cost (p : Int) (c : Cal) : Cost (kindP p c) N (7 * N + 300) := by
 unfold kindP
 repeat' first | exact Cost.pure _ | with_reducible refine Cost.bind (namesP_cost) (by omega) (fun _ => ?_) | exact (namesP_cost).mono (by omega) | with_reducible refine Cost.bind (makeP_cost _) (by omega) (fun _ => ?_) | exact (makeP_cost _).mono (by omega) | with_reducible refine Cost.bind (linkP_cost _ _) (by omega) (fun _ => ?_) | exact (linkP_cost _ _).mono (by omega) | with_reducible refine Cost.bind (unlinkP_cost _) (by omega) (fun _ => ?_) | exact (unlinkP_cost _).mono (by omega) | with_reducible refine Cost.bind (renameP_cost _ _) (by omega) (fun _ => ?_) | exact (renameP_cost _ _).mono (by omega) | with_reducible refine Cost.bind (mkPipeP_cost) (by omega) (fun _ => ?_) | exact (mkPipeP_cost).mono (by omega) | with_reducible refine Cost.bind (putPipeP_cost _ _) (by omega) (fun _ => ?_) | exact (putPipeP_cost _ _).mono (by omega) | with_reducible refine Cost.bind (takePipeP_cost _) (by omega) (fun _ => ?_) | exact (takePipeP_cost _).mono (by omega) | with_reducible refine Cost.bind (reapP_cost _ _) (by omega) (fun _ => ?_) | exact (reapP_cost _ _).mono (by omega) | with_reducible refine Cost.bind (kidsP_cost _) (by omega) (fun _ => ?_) | exact (kidsP_cost _).mono (by omega) | with_reducible refine Cost.bind (sendP_cost _ _) (by omega) (fun _ => ?_) | exact (sendP_cost _ _).mono (by omega) | with_reducible refine Cost.bind (takeSigP_cost _) (by omega) (fun _ => ?_) | exact (takeSigP_cost _).mono (by omega) | with_reducible refine Cost.bind (timerP_cost _ _) (by omega) (fun _ => ?_) | exact (timerP_cost _ _).mono (by omega) | with_reducible refine Cost.bind (tickP_cost _) (by omega) (fun _ => ?_) | exact (tickP_cost _).mono (by omega) | with_reducible refine Cost.bind (storeP_cost _ _ _) (by omega) (fun _ => ?_) | exact (storeP_cost _ _ _).mono (by omega) | with_reducible refine Cost.bind (loadP_cost _ _) (by omega) (fun _ => ?_) | exact (loadP_cost _ _).mono (by omega) | with_reducible refine Cost.bind (putOutP_cost _) (by omega) (fun _ => ?_) | exact (putOutP_cost _).mono (by omega) | with_reducible refine Cost.bind (fileP_cost _) (by omega) (fun _ => ?_) | exact (fileP_cost _).mono (by omega) | with_reducible refine Cost.bind (spawnAllP_cost _) (by omega) (fun _ => ?_) | exact (spawnAllP_cost _).mono (by omega) | with_reducible refine Cost.bind (endAllP_cost _ _) (by omega) (fun _ => ?_) | exact (endAllP_cost _ _).mono (by omega) | exact trivial | with_reducible refine Cost.ite ?_ ?_
theorem callP_cost (p : Int) (c : Cal) : Cost (callP p c) N (7 * N + 308) := by
 unfold callP
 repeat' first | exact Cost.pure _ | with_reducible refine Cost.bind (stateP_cost _) (by omega) (fun _ => ?_) | exact (stateP_cost _).mono (by omega) | with_reducible refine Cost.bind (kindP_cost _ _) (by omega) (fun _ => ?_) | exact (kindP_cost _ _).mono (by omega) | exact trivial | with_reducible refine Cost.ite ?_ ?_
theorem numP_bounds {m m' : Mch} {k : ByteArray} {x : Int} (E : (numP k).run m = (m', x)) : 0 ≤ x ∧ x ≤ 999 := by
 have h := numOf_bounds (getKeyS m.st k);have e : numOfV (getKeyS m.st k) = x := congrArg Prod.snd E;omega
theorem bump_run (m : Mch) (k : ByteArray) : (bumpP k).run m = (bumpM m k, bumpN m k) := by
 unfold bumpP bumpM bumpN nextN;rw [Pg.run_bind];show Pg.run (if 999 < numOfV (getKeyS m.st k) + 1 then _ else _) (lookM m k) = _;split
 ·rfl
 ·rfl
theorem bumpP_bounds {m m' : Mch} {k : ByteArray} {x : Int} (E : (bumpP k).run m = (m', x)) : 0 ≤ x ∧ x ≤ 999 := by
 rw [bump_run] at E;have h := bumpN_bounds m k;have e : bumpN m k = x := congrArg Prod.snd E;omega
theorem fileOfP_bounds {m m' : Mch} {k : ByteArray} {x : Int} (E : (fileOfP k).run m = (m', x)) : 0 ≤ x ∧ x ≤ 999 := by
 unfold fileOfP at E;split at E
 ·exact numP_bounds E
 ·cases E; omega
end Go.Proofs.YtihghflppegnmaaGreatDoor
namespace Go.Proofs.YtihghflppegnmaaGreatDoor
open Go.RowKit
attribute [local go_sem ↓] Go.wp_at_zero Go.wp_at_succ
structure I64 (n : Int) : Prop where
 lo : -9223372036854775808 ≤ n
 hi : n ≤ 9223372036854775807
theorem i64_of {n : Int} (h : 0 ≤ n ∧ n ≤ 999) : I64 n := ⟨by omega, by omega⟩
theorem i64_succ {n : Int} (h : 0 ≤ n ∧ n ≤ 999) : I64 (n + 1) := ⟨by omega, by omega⟩
theorem linksK_size {id : Int} (hn : I64 id) : (linksK id).size ≤ 1000 := by
 have h := keyNumS_size ⟨#[105, 47]⟩ id ⟨#[47, 108]⟩ hn.lo hn.hi;have e1 : (⟨#[105, 47]⟩ : ByteArray).size = 2 := rfl;have e2 : (⟨#[47, 108]⟩ : ByteArray).size = 2 := rfl;unfold linksK; omega
theorem sizeK_size {id : Int} (hn : I64 id) : (sizeK id).size ≤ 1000 := by
 have h := keyNumS_size ⟨#[105, 47]⟩ id ⟨#[47, 115]⟩ hn.lo hn.hi;have e1 : (⟨#[105, 47]⟩ : ByteArray).size = 2 := rfl;have e2 : (⟨#[47, 115]⟩ : ByteArray).size = 2 := rfl;unfold sizeK; omega
theorem fileK_size {id : Int} (hn : I64 id) : (fileK id).size ≤ 1000 := by
 have h := keyNumS_size ⟨#[105, 47]⟩ id ⟨#[47]⟩ hn.lo hn.hi;have e1 : (⟨#[105, 47]⟩ : ByteArray).size = 2 := rfl;have e2 : (⟨#[47]⟩ : ByteArray).size = 1 := rfl;unfold fileK; omega
theorem timerK_size {id : Int} (hn : I64 id) : (timerK id).size ≤ 1000 := by
 have h := keyNumS_size ⟨#[116, 47]⟩ id ⟨#[]⟩ hn.lo hn.hi;have e1 : (⟨#[116, 47]⟩ : ByteArray).size = 2 := rfl;have e2 : (⟨#[]⟩ : ByteArray).size = 0 := rfl;unfold timerK; omega
theorem pagesK_size {id : Int} (hn : I64 id) : (pagesK id).size ≤ 1000 := by
 have h := keyNumS_size ⟨#[109, 47]⟩ id ⟨#[47]⟩ hn.lo hn.hi;have e1 : (⟨#[109, 47]⟩ : ByteArray).size = 2 := rfl;have e2 : (⟨#[47]⟩ : ByteArray).size = 1 := rfl;unfold pagesK; omega
theorem pipeK_size {id : Int} {t : ByteArray} (hn : I64 id) (ht : t.size ≤ 100) : (pipeK id t).size ≤ 1000 := by
 have h := keyNumS_size ⟨#[112, 47]⟩ id t hn.lo hn.hi;have e1 : (⟨#[112, 47]⟩ : ByteArray).size = 2 := rfl;unfold pipeK; omega
theorem sigK_size {id : Int} {t : ByteArray} (hn : I64 id) (ht : t.size ≤ 100) : (sigK id t).size ≤ 1000 := by
 have h := keyNumS_size ⟨#[103, 47]⟩ id t hn.lo hn.hi;have e1 : (⟨#[103, 47]⟩ : ByteArray).size = 2 := rfl;unfold sigK; omega
theorem procK_size2 {id : Int} {t : ByteArray} (hn : I64 id) (ht : t.size ≤ 100) : (procK id t).size ≤ 1000 := procK_size id t hn.lo hn.hi ht
theorem blockK_size {id k : Int} (hn : I64 id) (hk : I64 k) : (blockK id k).size ≤ 1000 := by
 have h := keyNumS_size (keyNumS ⟨#[105, 47]⟩ id ⟨#[47, 98, 47]⟩) k ⟨#[]⟩ hk.lo hk.hi;have h2 := keyNumS_size ⟨#[105, 47]⟩ id ⟨#[47, 98, 47]⟩ hn.lo hn.hi;have e2 : (⟨#[105, 47]⟩ : ByteArray).size = 2 := rfl;have e3 : (⟨#[47, 98, 47]⟩ : ByteArray).size = 3 := rfl;have e1 : (⟨#[]⟩ : ByteArray).size = 0 := rfl;unfold blockK; omega
theorem pipeQ_size {id k : Int} (hn : I64 id) (hk : I64 k) : (pipeQ id k).size ≤ 1000 := by
 have h := keyNumS_size (pipeK id ⟨#[47, 113, 47]⟩) k ⟨#[]⟩ hk.lo hk.hi;have h2 : (pipeK id ⟨#[47, 113, 47]⟩).size ≤ _ := keyNumS_size ⟨#[112, 47]⟩ id ⟨#[47, 113, 47]⟩ hn.lo hn.hi;have e2 : (⟨#[112, 47]⟩ : ByteArray).size = 2 := rfl;have e3 : (⟨#[47, 113, 47]⟩ : ByteArray).size = 3 := rfl;have e1 : (⟨#[]⟩ : ByteArray).size = 0 := rfl;unfold pipeQ; omega
theorem sigQ_size {id k : Int} (hn : I64 id) (hk : I64 k) : (sigQ id k).size ≤ 1000 := by
 have h := keyNumS_size (sigK id ⟨#[47, 113, 47]⟩) k ⟨#[]⟩ hk.lo hk.hi;have h2 : (sigK id ⟨#[47, 113, 47]⟩).size ≤ _ := keyNumS_size ⟨#[103, 47]⟩ id ⟨#[47, 113, 47]⟩ hn.lo hn.hi;have e2 : (⟨#[103, 47]⟩ : ByteArray).size = 2 := rfl;have e3 : (⟨#[47, 113, 47]⟩ : ByteArray).size = 3 := rfl;have e1 : (⟨#[]⟩ : ByteArray).size = 0 := rfl;unfold sigQ; omega
theorem pageK_size {id k : Int} (hn : I64 id) (hk : I64 k) : (pageK id k).size ≤ 1000 := by
 have h := keyNumS_size (pagesK id) k ⟨#[]⟩ hk.lo hk.hi;have h2 : (pagesK id).size ≤ _ := keyNumS_size ⟨#[109, 47]⟩ id ⟨#[47]⟩ hn.lo hn.hi;have e2 : (⟨#[109, 47]⟩ : ByteArray).size = 2 := rfl;have e3 : (⟨#[47]⟩ : ByteArray).size = 1 := rfl;have e1 : (⟨#[]⟩ : ByteArray).size = 0 := rfl;unfold pageK; omega
theorem outK1_size {id : Int} (hn : I64 id) : (outK1 id).size ≤ 1000 := by
 have h := keyNumS_size dK id ⟨#[]⟩ hn.lo hn.hi;have e1 : dK.size = 2 := rfl;have e2 : (⟨#[]⟩ : ByteArray).size = 0 := rfl;unfold outK1; omega
theorem nK_size {s : ByteArray} : (nK s).size = 2 + s.size := by
 unfold nK; rw [ByteArray.size_append]; rfl
theorem hexV_size (s : ByteArray) : (hexV s).size ≤ 40000 := by
 unfold hexV;split
 ·rename_i h;have := hexS_size s;omega
 ·exact Nat.zero_le _
theorem hyphenS_size {s : ByteArray} : (hyphenS s).size = 1 + s.size := by
 unfold hyphenS; rw [ByteArray.size_append]; rfl
theorem linksKey_c (id : Int) (W : World) (hn : I64 id) (hT : Tabs W) :
 Calls Tryz.prog 156 #[.int .i64 id] W fun e w' => e = .returned (.string (linksK id)) ∧ Below W.heap.size W w' := by
 have K := Lib.hid (implKeyNum_c ⟨#[105, 47]⟩ id ⟨#[47, 108]⟩ W hn.lo hn.hi (by decide) (by decide) hT.1);clear hn hT;go_enter Tryz.func156, Tryz.ntmps156;go_wp2_with fail;refine K.out.mono ?_;rintro e w1 ⟨rfl, hb⟩;go_wp2;go_ret;exact ⟨rfl, hb⟩
theorem sizeKey_c (id : Int) (W : World) (hn : I64 id) (hT : Tabs W) :
 Calls Tryz.prog 204 #[.int .i64 id] W fun e w' => e = .returned (.string (sizeK id)) ∧ Below W.heap.size W w' := by
 have K := Lib.hid (implKeyNum_c ⟨#[105, 47]⟩ id ⟨#[47, 115]⟩ W hn.lo hn.hi (by decide) (by decide) hT.1);clear hn hT;go_enter Tryz.func204, Tryz.ntmps204;go_wp2_with fail;refine K.out.mono ?_;rintro e w1 ⟨rfl, hb⟩;go_wp2;go_ret;exact ⟨rfl, hb⟩
theorem pagesKey_c (id : Int) (W : World) (hn : I64 id) (hT : Tabs W) :
 Calls Tryz.prog 168 #[.int .i64 id] W fun e w' => e = .returned (.string (pagesK id)) ∧ Below W.heap.size W w' := by
 have K := Lib.hid (implKeyNum_c ⟨#[109, 47]⟩ id ⟨#[47]⟩ W hn.lo hn.hi (by decide) (by decide) hT.1);clear hn hT;go_enter Tryz.func168, Tryz.ntmps168;go_wp2_with fail;refine K.out.mono ?_;rintro e w1 ⟨rfl, hb⟩;go_wp2;go_ret;exact ⟨rfl, hb⟩
theorem pipeKey_c (id : Int) (t : ByteArray) (W : World) (hn : I64 id) (ht : t.size ≤ 100) (hT : Tabs W) :
 Calls Tryz.prog 164 #[.int .i64 id, .string t] W fun e w' => e = .returned (.string (pipeK id t)) ∧ Below W.heap.size W w' := by
 have K := Lib.hid (implKeyNum_c ⟨#[112, 47]⟩ id t W hn.lo hn.hi (by decide) (by omega) hT.1);clear hn hT;go_enter Tryz.func164, Tryz.ntmps164;go_wp2_with fail;refine K.out.mono ?_;rintro e w1 ⟨rfl, hb⟩;go_wp2;go_ret;exact ⟨rfl, hb⟩
theorem signalKey_c (id : Int) (t : ByteArray) (W : World) (hn : I64 id) (ht : t.size ≤ 100) (hT : Tabs W) :
 Calls Tryz.prog 173 #[.int .i64 id, .string t] W fun e w' => e = .returned (.string (sigK id t)) ∧ Below W.heap.size W w' := by
 have K := Lib.hid (implKeyNum_c ⟨#[103, 47]⟩ id t W hn.lo hn.hi (by decide) (by omega) hT.1);clear hn hT;go_enter Tryz.func173, Tryz.ntmps173;go_wp2_with fail;refine K.out.mono ?_;rintro e w1 ⟨rfl, hb⟩;go_wp2;go_ret;exact ⟨rfl, hb⟩
theorem l08Key_c (id : Int) (t : ByteArray) (W : World) (hn : I64 id) (ht : t.size ≤ 100) :
 Calls Tryz.prog 183 #[.int .i64 id, .string t] W fun e w' => e = .returned (.string (pipeK id t)) ∧ Below W.heap.size W w' := by
 have K := Lib.hid (specKeyNum_c ⟨#[112, 47]⟩ id t W hn.lo hn.hi (by decide) (by omega));clear hn;go_enter Tryz.func183, Tryz.ntmps183;go_wp2_with fail;refine K.out.mono ?_;rintro e w1 ⟨rfl, hb⟩;go_wp2;go_ret;exact ⟨rfl, hb⟩
theorem l09Key_c (id : Int) (t : ByteArray) (W : World) (hn : I64 id) (ht : t.size ≤ 100) :
 Calls Tryz.prog 150 #[.int .i64 id, .string t] W fun e w' => e = .returned (.string (procK id t)) ∧ Below W.heap.size W w' := by
 have K := Lib.hid (specKeyNum_c ⟨#[114, 47]⟩ id t W hn.lo hn.hi (by decide) (by omega));clear hn;go_enter Tryz.func150, Tryz.ntmps150;go_wp2_with fail;refine K.out.mono ?_;rintro e w1 ⟨rfl, hb⟩;go_wp2;go_ret;exact ⟨rfl, hb⟩
theorem l10Key_c (id : Int) (t : ByteArray) (W : World) (hn : I64 id) (ht : t.size ≤ 100) :
 Calls Tryz.prog 189 #[.int .i64 id, .string t] W fun e w' => e = .returned (.string (sigK id t)) ∧ Below W.heap.size W w' := by
 have K := Lib.hid (specKeyNum_c ⟨#[103, 47]⟩ id t W hn.lo hn.hi (by decide) (by omega));clear hn;go_enter Tryz.func189, Tryz.ntmps189;go_wp2_with fail;refine K.out.mono ?_;rintro e w1 ⟨rfl, hb⟩;go_wp2;go_ret;exact ⟨rfl, hb⟩
theorem l11Head_c (id : Int) (W : World) (hn : I64 id) :
 Calls Tryz.prog 193 #[.int .i64 id] W fun e w' => e = .returned (.string (pagesK id)) ∧ Below W.heap.size W w' := by
 have K := Lib.hid (specKeyNum_c ⟨#[109, 47]⟩ id ⟨#[47]⟩ W hn.lo hn.hi (by decide) (by decide));clear hn;go_enter Tryz.func193, Tryz.ntmps193;go_wp2_with fail;refine K.out.mono ?_;rintro e w1 ⟨rfl, hb⟩;go_wp2;go_ret;exact ⟨rfl, hb⟩
theorem blockKey_c (id k : Int) (W : World) (hn : I64 id) (hk : I64 k) (hT : Tabs W) :
 Calls Tryz.prog 206 #[.int .i64 id, .int .i64 k] W fun e w' => e = .returned (.string (blockK id k)) ∧ Below W.heap.size W w' := by
 have K := Lib.hid (implKeyNum_c ⟨#[105, 47]⟩ id ⟨#[47, 98, 47]⟩ W hn.lo hn.hi (by decide) (by decide) hT.1);obtain ⟨x, hx⟩ : ∃ x, keyNumS ⟨#[105, 47]⟩ id ⟨#[47, 98, 47]⟩ = x := ⟨_, rfl⟩;have hs : x.size ≤ 1000 := by rw [← hx]; have h2 := keyNumS_size ⟨#[105, 47]⟩ id ⟨#[47, 98, 47]⟩ hn.lo hn.hi; have e2 : (⟨#[105, 47]⟩ : ByteArray).size = 2 := rfl; have e3 : (⟨#[47, 98, 47]⟩ : ByteArray).size = 3 := rfl; omega
 have HK := Lib.hid (show blockK id k = keyNumS x k ⟨#[]⟩ by rw [← hx]; rfl);rw [hx] at K;have K2 := Lib.hid (fun w (hb : Below W.heap.size W w) => implKeyNum_c x k ⟨#[]⟩ w hk.lo hk.hi (by omega) (by decide) (hT.below hb).1);clear hn hk hx hs;go_enter Tryz.func206, Tryz.ntmps206;go_wp2_with fail;refine K.out.mono ?_;rintro e w1 ⟨rfl, hb⟩;have HB := Lib.hid hb;clear hb;go_wp2_with fail;refine (K2.out _ HB.out).mono ?_;rintro e w2 ⟨rfl, hb⟩;go_wp2;go_ret;exact ⟨by rw [HK.out]; rfl, HB.out.trans (hb.mono HB.out.size)⟩
theorem l07Block_c (id k : Int) (W : World) (hn : I64 id) (hk : I64 k) :
 Calls Tryz.prog 217 #[.int .i64 id, .int .i64 k] W fun e w' => e = .returned (.string (blockK id k)) ∧ Below W.heap.size W w' := by
 have K := Lib.hid (specKeyNum_c ⟨#[105, 47]⟩ id ⟨#[47, 98, 47]⟩ W hn.lo hn.hi (by decide) (by decide));obtain ⟨x, hx⟩ : ∃ x, keyNumS ⟨#[105, 47]⟩ id ⟨#[47, 98, 47]⟩ = x := ⟨_, rfl⟩;have hs : x.size ≤ 1000 := by rw [← hx]; have h2 := keyNumS_size ⟨#[105, 47]⟩ id ⟨#[47, 98, 47]⟩ hn.lo hn.hi; have e2 : (⟨#[105, 47]⟩ : ByteArray).size = 2 := rfl; have e3 : (⟨#[47, 98, 47]⟩ : ByteArray).size = 3 := rfl; omega
 have HK := Lib.hid (show blockK id k = keyNumS x k ⟨#[]⟩ by rw [← hx]; rfl);rw [hx] at K;have K2 := Lib.hid (fun w (hb : Below W.heap.size W w) => specKeyNum_c x k ⟨#[]⟩ w hk.lo hk.hi (by omega) (by decide));clear hn hk hx hs;go_enter Tryz.func217, Tryz.ntmps217;go_wp2_with fail;refine K.out.mono ?_;rintro e w1 ⟨rfl, hb⟩;have HB := Lib.hid hb;clear hb;go_wp2_with fail;refine (K2.out _ HB.out).mono ?_;rintro e w2 ⟨rfl, hb⟩;go_wp2;go_ret;exact ⟨by rw [HK.out]; rfl, HB.out.trans (hb.mono HB.out.size)⟩
theorem l08Message_c (id k : Int) (W : World) (hn : I64 id) (hk : I64 k) :
 Calls Tryz.prog 186 #[.int .i64 id, .int .i64 k] W fun e w' => e = .returned (.string (pipeQ id k)) ∧ Below W.heap.size W w' := by
 have K := Lib.hid (l08Key_c id ⟨#[47, 113, 47]⟩ W hn (by decide));obtain ⟨x, hx⟩ : ∃ x, pipeK id ⟨#[47, 113, 47]⟩ = x := ⟨_, rfl⟩;have hs : x.size ≤ 1000 := by rw [← hx]; exact pipeK_size hn (by decide)
 have HK := Lib.hid (show pipeQ id k = keyNumS x k ⟨#[]⟩ by rw [← hx]; rfl);rw [hx] at K;have K2 := Lib.hid (fun w (hb : Below W.heap.size W w) => specKeyNum_c x k ⟨#[]⟩ w hk.lo hk.hi (by omega) (by decide));clear hn hk hx hs;go_enter Tryz.func186, Tryz.ntmps186;go_wp2_with fail;refine K.out.mono ?_;rintro e w1 ⟨rfl, hb⟩;have HB := Lib.hid hb;clear hb;go_wp2_with fail;refine (K2.out _ HB.out).mono ?_;rintro e w2 ⟨rfl, hb⟩;go_wp2;go_ret;exact ⟨by rw [HK.out]; rfl, HB.out.trans (hb.mono HB.out.size)⟩
theorem l10Signal_c (id k : Int) (W : World) (hn : I64 id) (hk : I64 k) :
 Calls Tryz.prog 190 #[.int .i64 id, .int .i64 k] W fun e w' => e = .returned (.string (sigQ id k)) ∧ Below W.heap.size W w' := by
 have K := Lib.hid (l10Key_c id ⟨#[47, 113, 47]⟩ W hn (by decide));obtain ⟨x, hx⟩ : ∃ x, sigK id ⟨#[47, 113, 47]⟩ = x := ⟨_, rfl⟩;have hs : x.size ≤ 1000 := by rw [← hx]; exact sigK_size hn (by decide)
 have HK := Lib.hid (show sigQ id k = keyNumS x k ⟨#[]⟩ by rw [← hx]; rfl);rw [hx] at K;have K2 := Lib.hid (fun w (hb : Below W.heap.size W w) => specKeyNum_c x k ⟨#[]⟩ w hk.lo hk.hi (by omega) (by decide));clear hn hk hx hs;go_enter Tryz.func190, Tryz.ntmps190;go_wp2_with fail;refine K.out.mono ?_;rintro e w1 ⟨rfl, hb⟩;have HB := Lib.hid hb;clear hb;go_wp2_with fail;refine (K2.out _ HB.out).mono ?_;rintro e w2 ⟨rfl, hb⟩;go_wp2;go_ret;exact ⟨by rw [HK.out]; rfl, HB.out.trans (hb.mono HB.out.size)⟩
theorem nameKey_c (s : ByteArray) (W : World) (hs : s.size ≤ 281474976710656) :
 Calls Tryz.prog 155 #[.string s] W fun e w' => e = .returned (.string (nK s)) ∧ Below W.heap.size W w' := by
 have e2 : (⟨#[110, 47]⟩ : ByteArray).size = 2 := rfl;go_enter Tryz.func155, Tryz.ntmps155;go_wp2;go_ret;exact ⟨rfl, Below.refl _ _⟩
theorem hexOf_c (s : ByteArray) (W : World) :
 Calls Tryz.prog 166 #[.string s] W fun e w' => e = .returned (.string (hexV s)) ∧ Below W.heap.size W w' := by
 have K := Lib.hid (implHex_c s W);generalize hexV s = r at *;generalize hexOk s = b at *;go_enter Tryz.func166, Tryz.ntmps166;go_wp2_with fail;refine K.out.mono ?_;rintro e w1 ⟨rfl, hb⟩;go_wp2;go_ret;exact ⟨rfl, hb⟩
theorem procKey2_c (id : Int) (t : ByteArray) (W : World) (hn : I64 id) (ht : t.size ≤ 100) (hT : Tabs W) :
 Calls Tryz.prog 123 #[.int .i64 id, .string t] W fun e w' => e = .returned (.string (procK id t)) ∧ Below W.heap.size W w' := procKey_c id t W hn.lo hn.hi ht ⟨hT.1, hT.2.1⟩
theorem implKeyNum2_c (h : ByteArray) (n : Int) (t : ByteArray) (W : World) (hn : I64 n) (hh : h.size ≤ 4000) (htl : t.size ≤ 4000) (hT : Tabs W) :
 Calls Tryz.prog 159 #[.string h, .int .i64 n, .string t] W fun e w' => e = .returned (.string (keyNumS h n t)) ∧ Below W.heap.size W w' := implKeyNum_c h n t W hn.lo hn.hi (by omega) (by omega) hT.1
theorem specKeyNum2_c (h : ByteArray) (n : Int) (t : ByteArray) (W : World) (hn : I64 n) (hh : h.size ≤ 4000) (htl : t.size ≤ 4000) :
 Calls Tryz.prog 176 #[.string h, .int .i64 n, .string t] W fun e w' => e = .returned (.string (keyNumS h n t)) ∧ Below W.heap.size W w' := specKeyNum_c h n t W hn.lo hn.hi (by omega) (by omega)
end Go.Proofs.YtihghflppegnmaaGreatDoor
namespace Go.Proofs.YtihghflppegnmaaGreatDoor
open Go
section
variable {P : Program} {ops : Array Oper} {Q : Exit → Act → World → Prop} {md : Region.Mode} {S : World → Prop} {Y : List Nat}
def anyOf (Y : List Nat) (listed : Array Bool) : Bool := Y.any (fun y => listed.getD y false)
def wpAnyY (P : Program) (md : Region.Mode) (ops : Array Oper) (Q : Exit → Act → World → Prop) (S : World → Prop) (Y : List Nat) : Nat → Array Bool → Act → World → Prop
 | 0, listed, a, w => Region.ready md ops listed = [] ∧ Q .normal a w
 | fuel + 1, listed, a, w =>
  (Region.ready md ops listed = [] → Q .normal a w) ∧
  ∀ i ∈ Region.ready md ops listed, wpOp P ops Q i (fun a' w' => (anyOf Y (listed.setIfInBounds i true) = true ∨ S w') ∧ wpAnyY P md ops Q S Y fuel (listed.setIfInBounds i true) a' w') a w
theorem wpAny_of_Y : ∀ (fuel : Nat) (listed : Array Bool) (a : Act) (w : World), wpAnyY P md ops Q S Y fuel listed a w → wpAny P md ops Q fuel listed a w
 | 0, _, _, _, h => h
 | fuel + 1, _, _, _, h => ⟨h.1, fun i hi => wpOp_mono (fun a' w' h' => wpAny_of_Y fuel _ a' w' h'.2) (h.2 i hi)⟩
def Closed (md : Region.Mode) (ops : Array Oper) (listed : Array Bool) : Prop :=
 ∀ k o, ops[k]? = some o → listed.getD k false = true → ∀ e ∈ o.after, Region.binds md e = true → listed.getD e.on false = true
def closedB (md : Region.Mode) (ops : Array Oper) (listed : Array Bool) : Bool :=
 (List.range ops.size).all (fun k => match ops[k]? with
  | none => true
  | some o => !(listed.getD k false) || o.after.all (fun e => !(Region.binds md e) || listed.getD e.on false))
theorem closed_of_B {listed : Array Bool} (h : closedB md ops listed = true) : Closed md ops listed := by
 intro k o hk hl e he hb;have hlt : k < ops.size := (Array.getElem?_eq_some_iff.1 hk).1;have h1 := List.all_eq_true.1 h k (List.mem_range.2 hlt);simp only [hk, hl, Bool.not_true, Bool.false_or] at h1;have h2 := Array.all_eq_true_iff_forall_mem.1 h1 e he;simpa [hb] using h2
theorem Closed.set {listed : Array Bool} {j : Nat} (h : Closed md ops listed) (hj : j ∈ Region.ready md ops listed) : Closed md ops (listed.setIfInBounds j true) := by
 intro k o hk hl e he hb;by_cases hkj : k = j
 ·subst hkj;obtain ⟨_, o', ho', hall⟩ := mem_ready.1 hj;rw [hk] at ho';obtain rfl := Option.some.inj ho';exact getD_set_true (hall e he hb)
 ·rw [getD_set_ne false (Ne.symm hkj)] at hl;exact getD_set_true (h k o hk hl e he hb)
def waits (md : Region.Mode) (ops : Array Oper) : Nat → Nat → Nat → Bool
 | 0, _, _ => false
 | n + 1, y, i => match ops[y]? with
  | none => false
  | some o => o.after.any (fun e => Region.binds md e && (e.on == i || waits md ops n e.on i))
theorem any_mem {α : Type} {p : α → Bool} {xs : Array α} (h : xs.any p = true) : ∃ x, x ∈ xs ∧ p x = true := by
 obtain ⟨i, hi, hp⟩ := Array.any_eq_true.1 h;exact ⟨xs[i], Array.getElem_mem hi, hp⟩
theorem waits_listed {listed : Array Bool} {i : Nat} (h : Closed md ops listed) : ∀ (n y : Nat), waits md ops n y i = true → listed.getD y false = true → listed.getD i false = true
 | 0, _, hw, _ => by simp [waits] at hw
 | n + 1, y, hw, hl => by
  unfold waits at hw;cases ho : ops[y]? with
  | none => simp [ho] at hw
  | some o =>
   simp only [ho] at hw;obtain ⟨e, he, hq⟩ := any_mem hw;simp only [Bool.and_eq_true, Bool.or_eq_true, beq_iff_eq] at hq;have hon := h y o ho hl e he hq.1;rcases hq.2 with rfl | h2
   ·exact hon
   ·exact waits_listed h n _ h2 hon
theorem waits_ready {listed : Array Bool} {i n y : Nat} (h : Closed md ops listed) (hw : waits md ops n y i = true) (hr : y ∈ Region.ready md ops listed) : listed.getD i false = true := by
 obtain ⟨_, o, ho, hall⟩ := mem_ready.1 hr;cases n with
 | zero => simp [waits] at hw
 | succ n =>
  unfold waits at hw;simp only [ho] at hw;obtain ⟨e, he, hq⟩ := any_mem hw;simp only [Bool.and_eq_true, Bool.or_eq_true, beq_iff_eq] at hq;have hon := hall e he hq.1;rcases hq.2 with rfl | h2
  ·exact hon
  ·exact waits_listed h n _ h2 hon
theorem anyOf_set {listed : Array Bool} {i : Nat} (h : i ∉ Y) : anyOf Y (listed.setIfInBounds i true) = anyOf Y listed := by
 unfold anyOf;rw [Bool.eq_iff_iff, List.any_eq_true, List.any_eq_true];constructor
 ·rintro ⟨y, hy, hl⟩;exact ⟨y, hy, by rw [getD_set_ne false (fun e : i = y => h (by rw [e]; exact hy))] at hl; exact hl⟩
 ·rintro ⟨y, hy, hl⟩;exact ⟨y, hy, by rw [getD_set_ne false (fun e : i = y => h (by rw [e]; exact hy))]; exact hl⟩
theorem not_listed {listed : Array Bool} {i : Nat} (hr : i ∈ Region.ready md ops listed) : listed.getD i false = false := by
 have h0 := (mem_ready.1 hr).1;rcases Nat.lt_or_ge i listed.size with h' | h'
 ·simp [h'] at h0 ⊢; exact h0
 ·simp [Array.getElem?_eq_none h']
theorem wpAnyY_first {i n : Nat} {oi : Oper} {v : Value} (hi : ops[i]? = some oi) (hsel : ∀ (j : Nat) (o : Oper) cs b, ops[j]? = some o → o.op ≠ .select cs b)
 (hQ : ∀ c a w, Q (.panic c) (a.put oi.dst v) w → Q (.panic c) a w) (hiY : i ∉ Y) (hwt : ∀ y ∈ Y, waits md ops n y i = true) :
 ∀ (fuel : Nat) (listed : Array Bool) (a : Act) (w : World),
  (∀ j oj, ops[j]? = some oj → j ≠ i → listed.getD j true = false → (∀ e ∈ oj.after, Region.binds md e = true → e.on ≠ i) → oi.apart ops oj = true) →
  i ∈ Region.ready md ops listed → YieldsIf P ops S oi v a → S w → Closed md ops listed → anyOf Y listed = false →
  wpAnyY P md ops Q S Y fuel (listed.setIfInBounds i true) (a.put oi.dst v) w → wpAnyY P md ops Q S Y (fuel + 1) listed a w := by
 intro fuel
 induction fuel with
 | zero =>
  intro listed a w _ hr hy hS _ _ H;refine ⟨fun h => (by rw [h] at hr; cases hr), fun j hj => ?_⟩;by_cases hji : j = i
  ·subst hji; exact hy.wpOp hi hS ⟨.inr hS, H⟩
  ·have := ready_mono hj hji;rw [H.1] at this;cases this
 | succ fuel ih =>
  intro listed a w hfree hr hy hS hcl hnY H;refine ⟨fun h => (by rw [h] at hr; cases hr), fun j hj => ?_⟩;by_cases hji : j = i
  ·subst hji; exact hy.wpOp hi hS ⟨.inr hS, H⟩
  ·have h1 := H.2 j (ready_mono hj hji);obtain ⟨hjun, oj, hoj, hall⟩ := mem_ready.1 hj;have hin := not_listed hr;have hnot : ∀ e ∈ oj.after, Region.binds md e = true → e.on ≠ i := fun e he hb heq => by
    have h1 := hall e he hb;rw [heq, hin] at h1;cases h1
   have hjY : j ∉ Y := fun hjY => by
    have := waits_ready hcl (hwt j hjY) hj;rw [hin] at this;cases this
   have hno2 : anyOf Y ((listed.setIfInBounds i true).setIfInBounds j true) = false := by
    rw [anyOf_set hjY, anyOf_set hiY]; exact hnY
   have h2 := wpOp_putIf hoj (hfree j oj hoj hji hjun hnot) (fun cs b => hsel i oi cs b hi) (fun cs b => hsel j oj cs b hoj) hQ hy h1;have hfree' : ∀ k ok, ops[k]? = some ok → k ≠ i → (listed.setIfInBounds j true).getD k true = false →
    (∀ e ∈ ok.after, Region.binds md e = true → e.on ≠ i) → oi.apart ops ok = true := fun k ok hk hki hun hno => by
    refine hfree k ok hk hki ?_ hno;by_cases hjk : j = k
    ·subst hjk; exact hjun
    ·rw [getD_set_ne true hjk] at hun; exact hun
   refine wpOp_mono (fun a' w' h3 => ?_) h2;have hS' : S w' := by
    rcases h3.2.1 with h | h
    ·rw [hno2] at h; cases h
    ·exact h
   refine ⟨.inr hS', ih (listed.setIfInBounds j true) a' w' hfree' (ready_mono hr (Ne.symm hji)) h3.1 hS' (hcl.set hj) (by rw [anyOf_set hjY]; exact hnY) ?_⟩;rw [Array.setIfInBounds_comm _ _ hji];exact h3.2.2
theorem wpAnyY_first0 {i : Nat} {oi : Oper} {v : Value} (hi : ops[i]? = some oi) (hsel : ∀ (j : Nat) (o : Oper) cs b, ops[j]? = some o → o.op ≠ .select cs b)
 (hQ : ∀ c a w, Q (.panic c) (a.put oi.dst v) w → Q (.panic c) a w) (hiY : i ∉ Y) :
 ∀ (fuel : Nat) (listed : Array Bool) (a : Act) (w : World),
  (∀ j oj, ops[j]? = some oj → j ≠ i → listed.getD j true = false → (∀ e ∈ oj.after, Region.binds md e = true → e.on ≠ i) → oi.apart ops oj = true) →
  i ∈ Region.ready md ops listed → YieldsIf P ops (fun _ => True) oi v a → (anyOf Y listed = true ∨ S w) →
  wpAnyY P md ops Q S Y fuel (listed.setIfInBounds i true) (a.put oi.dst v) w → wpAnyY P md ops Q S Y (fuel + 1) listed a w := by
 intro fuel
 induction fuel with
 | zero =>
  intro listed a w _ hr hy hS H;refine ⟨fun h => (by rw [h] at hr; cases hr), fun j hj => ?_⟩;by_cases hji : j = i
  ·subst hji; exact hy.wpOp hi trivial ⟨by rw [anyOf_set hiY]; exact hS, H⟩
  ·have := ready_mono hj hji;rw [H.1] at this;cases this
 | succ fuel ih =>
  intro listed a w hfree hr hy hS H;refine ⟨fun h => (by rw [h] at hr; cases hr), fun j hj => ?_⟩;by_cases hji : j = i
  ·subst hji; exact hy.wpOp hi trivial ⟨by rw [anyOf_set hiY]; exact hS, H⟩
  ·have h1 := H.2 j (ready_mono hj hji);obtain ⟨hjun, oj, hoj, hall⟩ := mem_ready.1 hj;have hin := not_listed hr;have hnot : ∀ e ∈ oj.after, Region.binds md e = true → e.on ≠ i := fun e he hb heq => by
    have h1 := hall e he hb;rw [heq, hin] at h1;cases h1
   have h2 := wpOp_putIf (S := fun _ => True) hoj (hfree j oj hoj hji hjun hnot) (fun cs b => hsel i oi cs b hi) (fun cs b => hsel j oj cs b hoj) hQ hy h1;have hfree' : ∀ k ok, ops[k]? = some ok → k ≠ i → (listed.setIfInBounds j true).getD k true = false →
    (∀ e ∈ ok.after, Region.binds md e = true → e.on ≠ i) → oi.apart ops ok = true := fun k ok hk hki hun hno => by
    refine hfree k ok hk hki ?_ hno;by_cases hjk : j = k
    ·subst hjk; exact hjun
    ·rw [getD_set_ne true hjk] at hun; exact hun
   refine wpOp_mono (fun a' w' h3 => ?_) h2;have hS' : anyOf Y (listed.setIfInBounds j true) = true ∨ S w' := by
    have h4 := h3.2.1;rw [Array.setIfInBounds_comm _ _ (Ne.symm hji), anyOf_set hiY] at h4;exact h4
   refine ⟨hS', ih (listed.setIfInBounds j true) a' w' hfree' (ready_mono hr (Ne.symm hji)) h3.1 hS' ?_⟩;rw [Array.setIfInBounds_comm _ _ hji];exact h3.2.2
theorem not_of_contains {Y : List Nat} {i : Nat} (h : Y.contains i = false) : i ∉ Y := fun hm => by
 have : Y.contains i = true := by simpa using hm
 rw [h] at this; cases this
theorem wpAnyY_load {i : Nat} {oi : Oper} {v : Value} {fuel : Nat} {listed : Array Bool} {a : Act} {w : World} (n : Nat) (hi : ops[i]? = some oi)
 (hs : Region.noSelect ops = true) (hf : Region.free md ops listed i = true) (hr : (Region.ready md ops listed).contains i = true)
 (hst : (!(Y.contains i) && Y.all (fun y => waits md ops n y i) && closedB md ops listed && !(anyOf Y listed)) = true)
 (hQ : ∀ c a w, Q (.panic c) (a.put oi.dst v) w → Q (.panic c) a w) (hy : YieldsIf P ops S oi v a) (hS : S w)
 (h : S w → wpAnyY P md ops Q S Y fuel (listed.setIfInBounds i true) (a.put oi.dst v) w) : wpAnyY P md ops Q S Y (fuel + 1) listed a w := by
 simp only [Bool.and_eq_true, Bool.not_eq_true'] at hst;obtain ⟨⟨⟨h1, h2⟩, h3⟩, h4⟩ := hst;exact wpAnyY_first (n := n) hi (Region.noSelect_spec hs) hQ (not_of_contains h1) (fun y hy => List.all_eq_true.1 h2 y hy) fuel listed a w (Region.free_spec hi hf) (by simpa using hr) hy hS (closed_of_B h3) h4 (h hS)
theorem wpAnyY_pure {i : Nat} {oi : Oper} {v : Value} {fuel : Nat} {listed : Array Bool} {a : Act} {w : World} (hi : ops[i]? = some oi)
 (hs : Region.noSelect ops = true) (hf : Region.free md ops listed i = true) (hr : (Region.ready md ops listed).contains i = true) (hst : Y.contains i = false)
 (hQ : ∀ c a w, Q (.panic c) (a.put oi.dst v) w → Q (.panic c) a w) (hy : YieldsIf P ops (fun _ => True) oi v a) (hS : anyOf Y listed = true ∨ S w)
 (h : wpAnyY P md ops Q S Y fuel (listed.setIfInBounds i true) (a.put oi.dst v) w) : wpAnyY P md ops Q S Y (fuel + 1) listed a w :=
 wpAnyY_first0 hi (Region.noSelect_spec hs) hQ (not_of_contains hst) fuel listed a w (Region.free_spec hi hf) (by simpa using hr) hy hS h
theorem wpAnyY_one {i : Nat} {o : Oper} {fuel : Nat} {listed : Array Bool} {a : Act} {w : World} (hr : Region.ready md ops listed = [i]) (ho : ops[i]? = some o)
 (h : ∀ K' : Act → World → Prop, Shut (∀ a w, (anyOf Y (listed.setIfInBounds i true) = true ∨ S w) → wpAnyY P md ops Q S Y fuel (listed.setIfInBounds i true) a w → K' a w) → if Region.wanted o (yielded ops a.tmps) = true then Oper.wp P o a w K' Q else K' (a.put o.dst undef) w) :
 wpAnyY P md ops Q S Y (fuel + 1) listed a w :=
 ⟨fun h0 => (by rw [hr] at h0; cases h0), fun j hj => by
  rw [hr] at hj;obtain rfl := List.mem_singleton.1 hj;exact wpOp_step ho (fun K' hK => h K' (fun a w hS hW => hK a w ⟨hS, hW⟩))⟩
theorem wpAnyY_done {listed : Array Bool} {a : Act} {w : World} (hr : Region.ready md ops listed = []) (h : Q .normal a w) :
 ∀ fuel, wpAnyY P md ops Q S Y fuel listed a w
 | 0 => ⟨hr, h⟩
 | _ + 1 => ⟨fun _ => h, by rw [hr]; simp⟩
theorem wp_region_Y {id : Nat} {a : Act} {w : World} (S : World → Prop) (Y : List Nat) (hm : P.follows .mixedOrders = true) (hS : S w.drew)
 (h : S w.drew → wpAnyY P .any ops Q S Y ops.size (Array.replicate ops.size false) a w.drew) : (Code.region id ops true).wp P Q a w :=
 wp_region_any hm (wpAny_of_Y _ _ _ _ (h hS))
end
end Go.Proofs.YtihghflppegnmaaGreatDoor
