/- Contracts: Unhex of both sides: the text of which the figures are the encoding, at most 20000 bytes. Conditions: the bounds that any Go string meets; the library's variable of the odd length holds some error. -/
import Derived.Test.YtedbmmoddemngaaDoorHex
import Derived.Lib.ShelfFacts
namespace Go.Proofs.YtedbmmoddemngaaDoor
open Go.RowKit
attribute [local go_sem ↓] Go.wp_at_zero Go.wp_at_succ
open Classical in
noncomputable def unhexOk (s : ByteArray) : Bool := decide ((Lib.Hx.decode s.data.toList).1.length ≤ 20000 ∧ Lib.Hx.encode (Lib.Hx.decode s.data.toList).1 = s.data.toList)
noncomputable def unhexV (s : ByteArray) : ByteArray := if unhexOk s = true then ⟨(Lib.Hx.decode s.data.toList).1.toArray⟩ else ByteArray.empty
theorem unhex_yes {s : ByteArray} {r : List UInt8} (h : Lib.Hx.encode r = s.data.toList) (hl : r.length ≤ 20000) : unhexOk s = true ∧ unhexV s = ⟨r.toArray⟩ := by
  have hd : Lib.Hx.decode s.data.toList = (r, .ok) := by rw [← h]; exact Lib.Hx.decode_encode r
  have ho : unhexOk s = true := by unfold unhexOk; rw [hd]; simp [hl, h]
  exact ⟨ho, by unfold unhexV; rw [if_pos ho, hd]⟩
theorem unhex_no {s : ByteArray} (h : ∀ r : List UInt8, r.length ≤ 20000 → Lib.Hx.encode r ≠ s.data.toList) : unhexOk s = false ∧ unhexV s = ByteArray.empty := by
  have ho : unhexOk s = false := by
    rw [← Bool.not_eq_true]
    intro e
    unfold unhexOk at e
    have := of_decide_eq_true e
    exact h _ this.1 this.2
  exact ⟨ho, by unfold unhexV; rw [ho]; rfl⟩
theorem unhex_ok {s : ByteArray} (h : unhexOk s = true) : ∃ r : List UInt8, r.length ≤ 20000 ∧ Lib.Hx.encode r = s.data.toList ∧ unhexV s = ⟨r.toArray⟩ := by
  have e := h
  unfold unhexOk at e
  have := of_decide_eq_true e
  exact ⟨_, this.1, this.2, by unfold unhexV; rw [if_pos h]⟩
theorem unhexV_size (s : ByteArray) : (unhexV s).size ≤ s.size := by
  cases h : unhexOk s with
  | false => unfold unhexV; rw [h]; exact Nat.zero_le _
  | true =>
    obtain ⟨r, _, h2, h3⟩ := unhex_ok h
    rw [h3]
    have := congrArg List.length h2
    rw [Lib.Hx.encode_length] at this
    show r.toArray.size ≤ _
    simp at this ⊢
    omega
/-- What a byte is worth as a figure in lower case; -1 if it is none. -/
def lowV (b : UInt8) : Int := if 48 ≤ b.toNat ∧ b.toNat ≤ 57 then (b.toNat : Int) - 48 else if 97 ≤ b.toNat ∧ b.toNat ≤ 102 then (b.toNat : Int) - 87 else -1
theorem lowV_digit (d : Nat) (h : d < 16) : lowV (Lib.Hx.digit d) = d := by
  by_cases h1 : d < 10
  · have := digit_lo h1
    unfold lowV
    rw [if_pos (by omega)]; omega
  · have := digit_hi (Nat.not_lt.1 h1) h
    unfold lowV
    rw [if_neg (by omega), if_pos (by omega)]; omega
theorem digit_lowV {b : UInt8} (h : 0 ≤ lowV b) : ∃ d : Nat, d < 16 ∧ lowV b = d ∧ Lib.Hx.digit d = b := by
  unfold lowV at h ⊢
  split
  · refine ⟨b.toNat - 48, by omega, by omega, UInt8.toNat_inj.1 ?_⟩
    have := digit_lo (d := b.toNat - 48) (by omega)
    omega
  · split
    · refine ⟨b.toNat - 87, by omega, by omega, UInt8.toNat_inj.1 ?_⟩
      have := digit_hi (d := b.toNat - 87) (by omega) (by omega)
      omega
    · rename_i h1 h2
      rw [if_neg h1, if_neg h2] at h
      omega
theorem value_c (b : UInt8) (w : World) : Calls Tryd.prog 88 #[.int .u8 (b.toNat : Int)] w fun e w' => e = .returned (.int .i64 (lowV b)) ∧ w = w' := by
  have hlt := b.toNat_lt
  have q0 : (0 : Int) ≤ (b.toNat : Int) := by omega
  have q1 : (b.toNat : Int) ≤ 255 := by omega
  by_cases h1 : (48 : Int) ≤ (b.toNat : Int)
  · by_cases h2 : (b.toNat : Int) ≤ 57
    · have HL := Lib.hid (show lowV b = (b.toNat : Int) - 48 by unfold lowV; rw [if_pos (by omega)])
      go_enter Tryd.func88, Tryd.ntmps88
      go_wp2
      go_ret
      exact ⟨by rw [HL.out]; rfl, rfl⟩
    · by_cases h3 : (97 : Int) ≤ (b.toNat : Int)
      · by_cases h4 : (b.toNat : Int) ≤ 102
        · have HL := Lib.hid (show lowV b = (b.toNat : Int) - 97 + 10 by unfold lowV; rw [if_neg (by omega), if_pos (by omega)]; omega)
          go_enter Tryd.func88, Tryd.ntmps88
          go_wp2
          go_ret
          exact ⟨by rw [HL.out]; rfl, rfl⟩
        · have HL := Lib.hid (show lowV b = -1 by unfold lowV; rw [if_neg (by omega), if_neg (by omega)])
          go_enter Tryd.func88, Tryd.ntmps88
          go_wp2
          go_ret
          exact ⟨by rw [HL.out]; rfl, rfl⟩
      · have HL := Lib.hid (show lowV b = -1 by unfold lowV; rw [if_neg (by omega), if_neg (by omega)])
        go_enter Tryd.func88, Tryd.ntmps88
        go_wp2
        go_ret
        exact ⟨by rw [HL.out]; rfl, rfl⟩
  · have HL := Lib.hid (show lowV b = -1 by unfold lowV; rw [if_neg (by omega), if_neg (by omega)])
    go_enter Tryd.func88, Tryd.ntmps88
    go_wp2
    go_ret
    exact ⟨by rw [HL.out]; rfl, rfl⟩

theorem value_e (b : UInt8) (x : Int) (w : World) (hx : lowV b = x) : Calls Tryd.prog 88 #[.int .u8 (b.toNat : Int)] w fun e w' => e = .returned (.int .i64 x) ∧ w = w' := by
  rw [← hx]; exact value_c b w
theorem pair_not {l : List UInt8} {k : Nat} {p q : UInt8} (hp : l[2 * k]? = some p) (hq : l[2 * k + 1]? = some q) (h : lowV p < 0 ∨ lowV q < 0) (r : List UInt8) : Lib.Hx.encode r ≠ l := by
  intro e
  subst e
  have hl := (List.getElem?_eq_some_iff.1 hp).1
  rw [Lib.Hx.encode_length] at hl
  have hb : r[k]? = some r[k] := List.getElem?_eq_getElem (by omega)
  obtain ⟨e1, e2⟩ := Lib.Hx.encode_at r k _ hb
  rw [hp] at e1
  rw [hq] at e2
  cases e1
  cases e2
  have hlt := r[k].toNat_lt
  rw [lowV_digit _ (by omega), lowV_digit _ (by omega)] at h
  omega
theorem pair_step {l r : List UInt8} {k a b : Nat} {p q : UInt8} (hr : l.take (2 * k) = Lib.Hx.encode r) (hp : l[2 * k]? = some p) (hq : l[2 * k + 1]? = some q) (ha : a < 16) (hb : b < 16) (h1 : Lib.Hx.digit a = p) (h2 : Lib.Hx.digit b = q) :
    l.take (2 * (k + 1)) = Lib.Hx.encode (r ++ [UInt8.ofNat (16 * a + b)]) := by
  rw [show 2 * (k + 1) = 2 * k + 1 + 1 by omega, List.take_add_one, List.take_add_one, hq, hp, hr, encode_snoc]
  have e : (UInt8.ofNat (16 * a + b)).toNat = 16 * a + b := by rw [UInt8.toNat_ofNat', Nat.mod_eq_of_lt (by omega)]
  rw [e, show (16 * a + b) / 16 = a by omega, show (16 * a + b) % 16 = b by omega, h1, h2]
  simp

set_option maxRecDepth 100000 in
set_option maxHeartbeats 4000000 in
theorem specUnhex_c (s : ByteArray) (w : World) (hs : s.size ≤ maxLen) :
    Calls Tryd.prog 71 #[.string s] w fun e w' => e = .returned (.tuple #[.string (unhexV s), .bool (unhexOk s)]) ∧ Below w.heap.size w w' := by
  unfold maxLen at hs
  by_cases h : (40000 : Int) < (s.size : Int)
  · have HV := Lib.hid (unhex_no (s := s) (fun r hr e => by
      have := congrArg List.length e
      rw [Lib.Hx.encode_length] at this
      simp at this
      omega))
    go_enter Tryd.func71, Tryd.ntmps71
    go_wp2
    go_ret2
    exact ⟨by rw [HV.out.1, HV.out.2]; rfl, (by repeat (first | exact Below.refl _ _ | refine Below.drew ?_ | refine below_drewN ?_ _ | refine Below.allocC ?_ _ | refine Below.setCell ?_ (by first | (simp; done) | (simp; omega)) _ | refine Below.chain ?_ (by assumption)))⟩
  · by_cases ho : (s.size : Int) % 2 = 0
    · obtain ⟨n, hn⟩ : ∃ n, s.size = 2 * n := ⟨s.size / 2, by omega⟩
      have hd : ((s.size : Int) % 2 == 0) = true := by simp [ho]
      have hd2 : ((s.size : Int) % 2 != 0) = false := by simp [ho]
      obtain ⟨i0, hi, hzz⟩ := Option.map_eq_some_iff.1 infoByte
      simp only [Prod.mk.injEq] at hzz
      have HI := Lib.hid hi
      have HZ := Lib.hid hzz
      have HN := Lib.hid hn
      have hn1 : n ≤ 20000 := by omega
      clear hi hzz hn
      go_enter Tryd.func71, Tryd.ntmps71
      go_wp2
      go_loopw [4, 5] (fun v i wr => ∃ (k m : Nat) (r : List UInt8), k ≤ n ∧ r.length = k ∧ i = .int .i64 m ∧ m = 2 * k ∧ Hid (s.data.toList.take m = Lib.Hx.encode r) ∧ Hid (wr.ownsRow w.heap.size 5 1 v k (r.flatMap encB)) ∧ Below w.heap.size w wr) (fun _ i _ => s.size - (intOf i).toNat)
      case atStart => exact ⟨0, 0, [], Nat.zero_le _, rfl, rfl, rfl, Lib.hid rfl, Lib.hid ⟨rfl, .inr ⟨w.heap.size, 0, #[], rfl, Nat.le_refl _, heap_alloc_new w _, Nat.le_refl _, Nat.zero_le _, rfl, rfl⟩⟩, (by repeat (first | exact Below.refl _ _ | refine Below.drew ?_ | refine below_drewN ?_ _ | refine Below.allocC ?_ _ | refine Below.setCell ?_ (by first | (simp; done) | (simp; omega)) _ | refine Below.chain ?_ (by assumption)))⟩
      case round =>
        obtain ⟨k, m, r, hk, hrl, rfl, hm, HT, HW, hb⟩ := hrel
        have HM := Lib.hid hm
        have HRL := Lib.hid hrl
        have hsz := HN.out
        by_cases hlt : k < n
        · have p0 : (0 : Int) ≤ (m : Int) := by omega
          have p1 : (m : Int) < (s.size : Int) := by omega
          have p2 : (m : Int) + 1 < (s.size : Int) := by omega
          have p3 : m < s.size := by omega
          have p4 : m + 1 < s.size := by omega
          have hp : s.data.toList[2 * k]? = some s[m] := by rw [← hm, List.getElem?_eq_getElem (by simpa using p3)]; rfl
          have hq : s.data.toList[2 * k + 1]? = some s[m + 1] := by rw [← hm, List.getElem?_eq_getElem (by simpa using p4)]; rfl
          have HP := Lib.hid hp
          have HQ := Lib.hid hq
          have hmb : m ≤ 40000 := by omega
          have hkb : k ≤ 20000 := by omega
          have HC1 := Lib.hid (value_c s[m])
          have HC2 := Lib.hid (value_c s[m + 1])
          have HP3 := Lib.hid p3
          have HP4 := Lib.hid p4
          clear hp hq hsz hrl hm
          by_cases hv1 : lowV s[m] < 0
          · have HV := Lib.hid (unhex_no (s := s) (fun r _ => pair_not HP.out HQ.out (.inl hv1) r))
            generalize lowV s[m] = vp at *
            generalize lowV s[m + 1] = vq at *
            go_wp2_with fail
            refine (HC1.out _).mono ?_
            rintro e w1 ⟨rfl, rfl⟩
            go_wp2_with fail
            refine (HC2.out _).mono ?_
            rintro e w1 ⟨rfl, rfl⟩
            go_wp2
            go_ret2
            exact ⟨by rw [HV.out.1, HV.out.2]; rfl, hb⟩
          · by_cases hv2 : lowV s[m + 1] < 0
            · have HV := Lib.hid (unhex_no (s := s) (fun r _ => pair_not HP.out HQ.out (.inr hv2) r))
              generalize lowV s[m] = vp at *
              generalize lowV s[m + 1] = vq at *
              go_wp2_with fail
              refine (HC1.out _).mono ?_
              rintro e w1 ⟨rfl, rfl⟩
              go_wp2_with fail
              refine (HC2.out _).mono ?_
              rintro e w1 ⟨rfl, rfl⟩
              go_wp2
              go_ret2
              exact ⟨by rw [HV.out.1, HV.out.2]; rfl, hb⟩
            · obtain ⟨a, ha, ea, da⟩ := digit_lowV (b := s[m]) (by omega)
              obtain ⟨b, hb2, eb, db⟩ := digit_lowV (b := s[m + 1]) (by omega)
              have HS := Lib.hid (pair_step (by rw [← HM.out]; exact HT.out) HP.out HQ.out ha hb2 da db)
              have HE := Lib.hid (show (encB (UInt8.ofNat (16 * a + b))) = [.int .u8 (16 * (a : Int) + (b : Int))] from by
                unfold encB; rw [UInt8.toNat_ofNat', Nat.mod_eq_of_lt (by omega)]; congr 2 <;> omega)
              have HC1 := Lib.hid (fun W => value_e s[m] (a : Int) W ea)
              have HC2 := Lib.hid (fun W => value_e s[m + 1] (b : Int) W eb)
              clear ea eb da db hv1 hv2 HP HQ
              go_wp2_with fail
              refine (HC1.out _).mono ?_
              rintro e w1 ⟨rfl, rfl⟩
              go_wp2_with fail
              refine (HC2.out _).mono ?_
              rintro e w1 ⟨rfl, rfl⟩
              go_wp2_with (at_builtin; refine wpList_append_own2 _ rfl _ _ 37 rfl w.heap.size 5 i0 _ 1 1 Tryd.underlying37 HI.out HZ.out.1 HZ.out.2.1 HZ.out.2.2 rfl (by decide) _ _ _ rfl (HW.out.alloc _) ⟨wr.heap.size, 0, none⟩ 1 1 [.int .u8 (16 * (a : Int) + (b : Int))] rfl rfl (box_news (Box.new _ _ _)) (by intro u hu; simp at hu; subst hu; rfl) (by unfold maxLen; omega) (by omega) (by have := hb.size; simp; omega) ?_)
              intro v' w' o2 g2 or2
              have h := OwnStep.fresh (w := w) (W := wr.alloc (.cells #[.int .u8 (16 * (a : Int) + (b : Int))] 5)) (e := .returned v') (w' := w') ((by repeat (first | exact Below.refl _ _ | refine Below.drew ?_ | refine below_drewN ?_ _ | refine Below.allocC ?_ _ | refine Below.setCell ?_ (by first | (simp; done) | (simp; omega)) _ | refine Below.chain ?_ (by assumption)))) (HW.out.alloc _) ⟨v', rfl, o2, g2, or2⟩
              have B2 := Lib.hid (show Below w.heap.size w w' by obtain ⟨_, _, _, h⟩ := h; exact h)
              have HW2 := Lib.hid (show w'.ownsRow w.heap.size 5 1 v' (k + 1) ((r ++ [UInt8.ofNat (16 * a + b)]).flatMap encB) from by
                rw [List.flatMap_append, List.flatMap_cons, List.flatMap_nil, List.append_nil, HE.out]; exact o2)
              have HL2 := Lib.hid (show (r ++ [UInt8.ofNat (16 * a + b)]).length = k + 1 from by rw [List.length_append, HRL.out]; rfl)
              have HS2 := Lib.hid (show s.data.toList.take (m + 2) = Lib.Hx.encode (r ++ [UInt8.ofNat (16 * a + b)]) from by rw [HM.out]; exact HS.out)
              clear o2 g2 or2 h HW
              go_wp2
              go_roundw
              case rel => exact ⟨k + 1, m + 2, _, by omega, HL2.out, by go_num, by have := HM.out; omega, HS2, HW2, B2.out⟩
              case measure => simp [intOf]; have := HP4.out; omega
        · obtain rfl : k = n := by omega
          have hms : m = s.size := by omega
          subst hms
          have HV := Lib.hid (unhex_yes (s := s) (r := r) (by rw [← HT.out, List.take_of_length_le (by simp)]) (by omega))
          have p2 : ¬ (s.size : Int) < (s.size : Int) := by omega
          have hcv : (convert 37 9 u4).run Tryd.prog wr = .ok (.string ⟨r.toArray⟩) wr := convB wr w.heap.size 5 u4 r k HRL.out.symm HW.out
          clear hm hsz hrl HT HM
          go_wp2
          go_ret2
          exact ⟨by rw [HV.out.1, HV.out.2]; rfl, hb⟩
    · have hd : ((s.size : Int) % 2 == 0) = false := by simp [ho]
      have hd2 : ((s.size : Int) % 2 != 0) = true := by simp [ho]
      have HV := Lib.hid (unhex_no (s := s) (fun r hr e => by
        have := congrArg List.length e
        rw [Lib.Hx.encode_length] at this
        simp at this
        omega))
      go_enter Tryd.func71, Tryd.ntmps71
      go_wp2
      go_ret2
      exact ⟨by rw [HV.out.1, HV.out.2]; rfl, (by repeat (first | exact Below.refl _ _ | refine Below.drew ?_ | refine below_drewN ?_ _ | refine Below.allocC ?_ _ | refine Below.setCell ?_ (by first | (simp; done) | (simp; omega)) _ | refine Below.chain ?_ (by assumption)))⟩

theorem decode_le : ∀ l : List UInt8, 2 * (Lib.Hx.decode l).1.length ≤ l.length
  | [] => by rw [Lib.Hx.decode_nil]; simp
  | [c] => by rw [Lib.Hx.decode_one]; split <;> simp
  | p :: q :: t => by
    rw [Lib.Hx.decode_two]
    have := decode_le t
    split
    · simp
    · split
      · simp
      · simp; omega
/-- The library's variable of the odd length holds some error. -/
def OddErr (w : World) : Prop := ∃ T v, w.cell? ⟨1, 0, none⟩ = some (.iface T v)
theorem OddErr.below {w w' : World} (h : OddErr w) (hb : Below w.heap.size w w') : OddErr w' := by
  obtain ⟨T, a, h⟩ := h
  exact ⟨T, a, keepS hb h⟩

set_option maxRecDepth 100000 in
set_option maxHeartbeats 4000000 in
theorem implUnhex_c (s : ByteArray) (w : World) (hs : s.size ≤ 281474976710656) (hE : OddErr w) :
    Calls Tryd.prog 28 #[.string s] w fun e w' => e = .returned (.tuple #[.string (unhexV s), .bool (unhexOk s)]) ∧ Below w.heap.size w w' := by
  obtain ⟨ET, EA, hev⟩ := hE
  have K := Lib.hid (Tryd.hex_DecodeString s w _ hev hs)
  clear hev
  cases ho : (Lib.Hx.decode s.data.toList).2 with
  | bad c =>
    have HV := Lib.hid (unhex_no (s := s) (fun r _ e => by rw [← e, Lib.Hx.decode_encode] at ho; cases ho))
    rw [ho] at K
    clear ho
    go_enter Tryd.func28, Tryd.ntmps28
    go_wp2_with fail
    refine K.out.mono ?_
    rintro e w1 ⟨rfl, _, hb1⟩
    simp only [Lib.Hx.errVal]
    go_wp2
    go_ret2
    exact ⟨by rw [HV.out.1, HV.out.2]; rfl, hb1⟩
  | odd =>
    have HV := Lib.hid (unhex_no (s := s) (fun r _ e => by rw [← e, Lib.Hx.decode_encode] at ho; cases ho))
    rw [ho] at K
    clear ho
    go_enter Tryd.func28, Tryd.ntmps28
    go_wp2_with fail
    refine K.out.mono ?_
    rintro e w1 ⟨rfl, _, hb1⟩
    simp only [Lib.Hx.errVal]
    go_wp2
    go_ret2
    exact ⟨by rw [HV.out.1, HV.out.2]; rfl, hb1⟩
  | ok =>
    rw [ho] at K
    obtain ⟨r, hr⟩ : ∃ r, (Lib.Hx.decode s.data.toList).1 = r := ⟨_, rfl⟩
    have HD := Lib.hid (show Lib.Hx.decode s.data.toList = (r, .ok) by rw [← hr, ← ho])
    rw [hr] at K
    clear hr ho
    have hne : ∀ r', Lib.Hx.encode r' = s.data.toList → r' = r := fun r' e => by
      have := HD.out
      rw [← e, Lib.Hx.decode_encode] at this
      exact congrArg Prod.fst this
    have hle : r.length ≤ s.size / 2 := by
      have := decode_le s.data.toList
      rw [HD.out] at this
      simp at this
      omega
    have HCell := Lib.hid (show ∀ (W : World), W.rowIs w.heap.size 5 (s.size / 2) (Lib.Hx.rowP (fun _ => .int .u8 0) 0 r) → ∀ i (h : i < r.length), W.cell? ⟨w.heap.size, 0 + i, none⟩ = some (.int .u8 ((r[i]'h).toNat : Int)) from fun W hW i hi => by
      rw [Nat.zero_add, World.rowIs.cell hW (by omega)]
      unfold Lib.Hx.rowP
      rw [if_pos (by omega)]
      simp [hi])
    by_cases hl : r.length ≤ 20000
    · have p : ¬ (20000 : Int) < (r.length : Int) := by omega
      have KE := Lib.hid (fun (W : World) (hW : W.rowIs w.heap.size 5 (s.size / 2) (Lib.Hx.rowP (fun _ => .int .u8 0) 0 r)) => Tryd.hex_EncodeToString_bytes w.heap.size 0 (s.size / 2) r W (HCell.out W hW) (World.rowIs.lt hW) (by omega))
      by_cases he : Lib.Hx.encode r = s.data.toList
      · have HV := Lib.hid (unhex_yes he hl)
        have hx : ((⟨(Lib.Hx.encode r).toArray⟩ : ByteArray)) = s := by rw [he]
        rw [hx] at KE
        clear hx he hne
        go_enter Tryd.func28, Tryd.ntmps28
        go_wp2_with fail
        refine K.out.mono ?_
        rintro e w1 ⟨rfl, hrow, hb1⟩
        have HROW := Lib.hid hrow
        clear hrow
        simp only [Lib.Hx.errVal]
        go_wp2_with fail
        refine (KE.out w1 HROW.out).mono ?_
        rintro e w2 ⟨rfl, hb2⟩
        have B2 : Below w.heap.size w w2 := hb1.trans (hb2.mono hb1.size)
        have hcv : (convert 37 9 (.slice (some ⟨w.heap.size, 0, none⟩) r.length (s.size / 2))).run Tryd.prog w2 = .ok (.string ⟨r.toArray⟩) w2 :=
          run_convert_bytes_back w2 _ _ 5 ⟨w.heap.size, 0, none⟩ (s.size / 2) r Tryd.underlying37 Tryd.underlying5 Tryd.underlying9 (fun j hj => by
            have := HCell.out w1 HROW.out j hj
            rw [Nat.zero_add] at this
            rw [add_none, Nat.zero_add]
            exact keepS hb2 this)
        go_wp2
        go_ret2
        exact ⟨by rw [HV.out.1, HV.out.2]; rfl, B2⟩
      · have HV := Lib.hid (unhex_no (s := s) (fun r' h' e => he (by rw [← hne r' e]; exact e)))
        obtain ⟨t, ht⟩ : ∃ t : ByteArray, (⟨(Lib.Hx.encode r).toArray⟩ : ByteArray) = t := ⟨_, rfl⟩
        have htn : t ≠ s := fun e => he (by rw [← e, ← ht])
        have f1 := beq_toList_false htn
        have f2 := bne_toList_true htn
        have f3 := toList_ne htn
        rw [ht] at KE
        clear ht htn he hne
        go_enter Tryd.func28, Tryd.ntmps28
        go_wp2_with fail
        refine K.out.mono ?_
        rintro e w1 ⟨rfl, hrow, hb1⟩
        have HROW := Lib.hid hrow
        clear hrow
        simp only [Lib.Hx.errVal]
        go_wp2_with fail
        refine (KE.out w1 HROW.out).mono ?_
        rintro e w2 ⟨rfl, hb2⟩
        have B2 : Below w.heap.size w w2 := hb1.trans (hb2.mono hb1.size)
        go_wp2
        go_ret2
        exact ⟨by rw [HV.out.1, HV.out.2]; rfl, B2⟩
    · have p : (20000 : Int) < (r.length : Int) := by omega
      have HV := Lib.hid (unhex_no (s := s) (fun r' h' e => hl (by rw [← hne r' e]; exact h')))
      clear hne hl
      go_enter Tryd.func28, Tryd.ntmps28
      go_wp2_with fail
      refine K.out.mono ?_
      rintro e w1 ⟨rfl, _, hb1⟩
      simp only [Lib.Hx.errVal]
      go_wp2
      go_ret2
      exact ⟨by rw [HV.out.1, HV.out.2]; rfl, hb1⟩
end Go.Proofs.YtedbmmoddemngaaDoor
