/- Contracts: OutCount, OutsIn and OutsFrom of both sides: the messages that a store holds. Conditions: the bounds that any Go slice and string meets; the library's variables hold what their texts lay. -/
import Derived.Test.YtedbmmoddemngaaDoorNumOf
import Derived.Test.YtedbmmoddemngaaDoorUnhex
import Derived.Test.YtedbmmoddemngaaDoorKeyAt
import Derived.Test.YtedbmmoddemngaaDoorClone
import Derived.Test.YtedbmmoddemngaaDoorShelf
import Derived.OwnWalk
namespace Go.Proofs.YtedbmmoddemngaaDoor
open Go.RowKit
attribute [local go_sem ↓] Go.wp_at_zero Go.wp_at_succ
/-- What the library's variables hold. -/
def Tabs (w : World) : Prop := DecTab w ∧ NumErr w ∧ OddErr w
theorem Tabs.below {w W : World} (h : Tabs w) (hb : Below w.heap.size w W) : Tabs W := ⟨h.1.below hb, h.2.1.below hb, h.2.2.below hb⟩
/-- The text of a message: behind a hyphen, in hexadecimal. -/
noncomputable def msgV (v : ByteArray) : ByteArray := if Lib.hasPrefix v.data.toList [45] = true then unhexV (v.extract 1 v.size) else ByteArray.empty
theorem extract1_size (v : ByteArray) : (v.extract 1 v.size).size ≤ v.size := by
  rw [ByteArray.size_extract]; omega
theorem hyphen_size {v : ByteArray} (h : Lib.hasPrefix v.data.toList [45] = true) : ∃ h0 : 0 < v.size, v[0] = 45 := by
  unfold Lib.hasPrefix at h
  obtain ⟨t, ht⟩ := List.isPrefixOf_iff_prefix.1 h
  have hs : 0 < v.size := by
    have h1 := congrArg List.length ht
    have h2 : v.data.toList.length = v.size := Array.length_toList
    rw [h2, List.length_append] at h1
    have h3 : [(45 : UInt8)].length = 1 := rfl
    omega
  refine ⟨hs, ?_⟩
  have : v.data.toList[0]? = some 45 := by rw [← ht]; rfl
  rw [List.getElem?_eq_getElem (by simpa using hs)] at this
  exact Option.some.inj this
theorem no_hyphen {v : ByteArray} (h : Lib.hasPrefix v.data.toList [45] = false) (h0 : 0 < v.size) : v[0] ≠ 45 := by
  intro e
  have hl : v.data.toList ≠ [] := by
    intro e
    have h1 := congrArg List.length e
    have h2 : v.data.toList.length = v.size := Array.length_toList
    rw [h2] at h1
    have h3 : ([] : List UInt8).length = 0 := rfl
    omega
  obtain ⟨c, t, ht⟩ := List.exists_cons_of_ne_nil hl
  have : v.data.toList[0]? = some 45 := by
    rw [List.getElem?_eq_getElem (by simpa using h0)]
    exact congrArg some e
  rw [ht] at this
  cases this
  rw [ht] at h
  unfold Lib.hasPrefix at h
  simp at h
/-- The key of the counter, the beginning of the messages' keys. -/
def dnK : ByteArray := ⟨#[100, 47, 110]⟩
def dK : ByteArray := ⟨#[100, 47]⟩
noncomputable def outN (xs : List (ByteArray × ByteArray)) : Nat := min (numOfV (getKeyS xs dnK)).toNat 40
noncomputable def outAt (xs : List (ByteArray × ByteArray)) (i : Int) : ByteArray := msgV (getKeyS xs (keyNumS dK i ⟨#[]⟩))
noncomputable def outsUp (xs : List (ByteArray × ByteArray)) (k : Nat) : List ByteArray := (List.range k).map (fun (j : Nat) => outAt xs ((j : Int) + 1))
noncomputable def outsL (xs : List (ByteArray × ByteArray)) : List ByteArray := outsUp xs (outN xs)
theorem outsUp_len (xs : List (ByteArray × ByteArray)) (k : Nat) : (outsUp xs k).length = k := by unfold outsUp; simp
theorem outsL_len (xs : List (ByteArray × ByteArray)) : (outsL xs).length = outN xs := outsUp_len _ _
theorem outsUp_succ (xs : List (ByteArray × ByteArray)) (k : Nat) : outsUp xs (k + 1) = outsUp xs k ++ [outAt xs ((k : Int) + 1)] := by
  unfold outsUp; rw [List.range_succ, List.map_append]; rfl
theorem outN_le (xs : List (ByteArray × ByteArray)) : outN xs ≤ 40 := Nat.min_le_right _ _
theorem outN_int (xs : List (ByteArray × ByteArray)) : (outN xs : Int) = min (numOfV (getKeyS xs dnK)) 40 := by
  unfold outN
  have := numOf_bounds (getKeyS xs dnK)
  omega
theorem getKeyS_size {xs : List (ByteArray × ByteArray)} {n : Nat} (h : ∀ x ∈ xs, x.2.size ≤ n) (k : ByteArray) : (getKeyS xs k).size ≤ n := by
  unfold getKeyS
  split
  · rename_i c hc
    exact h c (List.mem_of_getElem? hc)
  · exact Nat.zero_le _

/-- A number brought into a range. -/
def broughtV (n l m : Int) : Int := max l (min n m)
theorem specBrought_c (n l m : Int) (w : World) : Calls Tryd.prog 69 #[.int .i64 n, .int .i64 l, .int .i64 m] w fun e w' => e = .returned (.int .i64 (broughtV n l m)) ∧ w = w' := by
  by_cases h1 : m < l
  · have H := Lib.hid (show broughtV n l m = l by unfold broughtV; omega)
    go_enter Tryd.func69, Tryd.ntmps69
    go_wp2
    go_ret
    exact ⟨by rw [H.out]; rfl, rfl⟩
  · by_cases h2 : n < l
    · have H := Lib.hid (show broughtV n l m = l by unfold broughtV; omega)
      go_enter Tryd.func69, Tryd.ntmps69
      go_wp2
      go_ret
      exact ⟨by rw [H.out]; rfl, rfl⟩
    · by_cases h3 : m < n
      · have H := Lib.hid (show broughtV n l m = m by unfold broughtV; omega)
        go_enter Tryd.func69, Tryd.ntmps69
        go_wp2
        go_ret
        exact ⟨by rw [H.out]; rfl, rfl⟩
      · have H := Lib.hid (show broughtV n l m = n by unfold broughtV; omega)
        go_enter Tryd.func69, Tryd.ntmps69
        go_wp2
        go_ret
        exact ⟨by rw [H.out]; rfl, rfl⟩
theorem implBrought_c (n l m : Int) (w : World) : Calls Tryd.prog 29 #[.int .i64 n, .int .i64 l, .int .i64 m] w fun e w' => e = .returned (.int .i64 (broughtV n l m)) ∧ w = w' := by
  go_enter Tryd.func29, Tryd.ntmps29
  go_wp2
  go_ret
  exact ⟨rfl, rfl⟩

theorem slHas_c (v p : ByteArray) (w : World) (hs : v.size ≤ maxLen) (hp : p.size ≤ maxLen) :
    Calls Tryd.prog 111 #[.string v, .string p] w fun e w' => e = .returned (.bool (Lib.hasPrefix v.data.toList p.data.toList)) ∧ w = w' := by
  unfold maxLen at hs hp
  have hr := Lib.hasPrefix_raw v p
  by_cases h : p.size ≤ v.size
  · have h' : (p.size : Int) ≤ (v.size : Int) := by omega
    rw [decide_eq_true h, Bool.true_and] at hr
    have HR := Lib.hid hr.symm
    clear hr
    generalize hx : ((v.extract 0 p.size).toList == p.toList) = r at *
    cases r
    · go_enter Tryd.func111, Tryd.ntmps111
      go_wp2
      go_ret
      exact ⟨by rw [HR.out]; rfl, rfl⟩
    · go_enter Tryd.func111, Tryd.ntmps111
      go_wp2
      go_ret
      exact ⟨by rw [HR.out]; rfl, rfl⟩
  · have h' : ¬ (p.size : Int) ≤ (v.size : Int) := by omega
    rw [decide_eq_false h, Bool.false_and] at hr
    have HR := Lib.hid hr.symm
    clear hr
    go_enter Tryd.func111, Tryd.ntmps111
    go_wp2
    go_ret
    exact ⟨by rw [HR.out]; rfl, rfl⟩
theorem cutHyphen_c (v : ByteArray) (w : World) (hs : v.size ≤ maxLen) :
    Calls Tryd.prog 89 #[.string v, .string ⟨#[45]⟩] w fun e w' => e = .returned (.tuple #[.string (if Lib.hasPrefix v.data.toList [45] = true then v.extract 1 v.size else v), .bool (Lib.hasPrefix v.data.toList [45])]) ∧ w = w' := by
  have K : Calls Tryd.prog 102 #[.string v, .string ⟨#[45]⟩] w fun e w' => e = .returned (.tuple #[.string (if Lib.hasPrefix v.data.toList [45] = true then v.extract 1 v.size else v), .bool (Lib.hasPrefix v.data.toList [45])]) ∧ w = w' := by
    have KH := Lib.hid (slHas_c v ⟨#[45]⟩ w hs (by decide))
    rw [show Lib.hasPrefix v.data.toList (ByteArray.mk #[45]).data.toList = Lib.hasPrefix v.data.toList [45] from rfl] at KH
    unfold maxLen at hs
    cases hp : Lib.hasPrefix v.data.toList [45] with
    | false =>
      rw [hp] at KH
      clear hp
      go_enter Tryd.func102, Tryd.ntmps102
      go_wp2_with fail
      refine KH.out.mono ?_
      rintro e w1 ⟨rfl, rfl⟩
      go_wp2
      go_ret2
      exact ⟨rfl, rfl⟩
    | true =>
      obtain ⟨h0, _⟩ := hyphen_size hp
      rw [hp] at KH
      have h1 : (1 : Int) ≤ (v.size : Int) := by omega
      clear hp
      go_enter Tryd.func102, Tryd.ntmps102
      go_wp2_with fail
      refine KH.out.mono ?_
      rintro e w1 ⟨rfl, rfl⟩
      go_wp2
      go_ret2
      exact ⟨rfl, rfl⟩
  have KH := Lib.hid K
  clear K
  generalize (if Lib.hasPrefix v.data.toList [45] = true then v.extract 1 v.size else v) = t at *
  generalize Lib.hasPrefix v.data.toList [45] = b at *
  go_enter Tryd.func89, Tryd.ntmps89
  go_wp2_with fail
  refine KH.out.mono ?_
  rintro e w1 ⟨rfl, rfl⟩
  go_wp2
  go_ret2
  exact ⟨rfl, rfl⟩
theorem messageOf_c (v : ByteArray) (w : World) (hs : v.size ≤ 281474976710656) (hE : OddErr w) :
    Calls Tryd.prog 72 #[.string v] w fun e w' => e = .returned (.string (msgV v)) ∧ Below w.heap.size w w' := by
  have K := Lib.hid (cutHyphen_c v w (by unfold maxLen; omega))
  cases hp : Lib.hasPrefix v.data.toList [45] with
  | false =>
    have HV := Lib.hid (show msgV v = ByteArray.empty by unfold msgV; rw [hp]; rfl)
    rw [hp] at K
    clear hp hE
    go_enter Tryd.func72, Tryd.ntmps72
    go_wp2_with fail
    refine K.out.mono ?_
    rintro e w1 ⟨rfl, rfl⟩
    go_wp2
    go_ret
    exact ⟨by rw [HV.out]; rfl, Below.refl _ _⟩
  | true =>
    have HV := Lib.hid (show msgV v = unhexV (v.extract 1 v.size) by unfold msgV; rw [hp]; rfl)
    rw [hp, if_pos rfl] at K
    have KU := Lib.hid (implUnhex_c (v.extract 1 v.size) w (Nat.le_trans (extract1_size v) hs) hE)
    generalize v.extract 1 v.size = t at *
    clear hp hE
    generalize unhexV t = r at *
    generalize unhexOk t = b at *
    go_enter Tryd.func72, Tryd.ntmps72
    go_wp2_with fail
    refine K.out.mono ?_
    rintro e w1 ⟨rfl, rfl⟩
    go_wp2_with fail
    refine KU.out.mono ?_
    rintro e w1 ⟨rfl, hb1⟩
    go_wp2
    go_ret
    exact ⟨by rw [HV.out]; rfl, hb1⟩

theorem implOutCount_c (a : Option Addr) (cap : Nat) (xs : List (ByteArray × ByteArray)) (w : World) (hlen : xs.length ≤ 1048576) (hr : Reads w a 2 encC xs) (ho : ∀ x ∈ xs, x.2.size ≤ 281474976710656) (hT : DecTab w ∧ NumErr w) :
    Calls Tryd.prog 33 #[.slice a xs.length cap] w fun e w' => e = .returned (.int .i64 (outN xs : Int)) ∧ Below w.heap.size w w' := by
  have KG := Lib.hid (implGetKey_c a cap xs dnK w (by unfold maxLen; omega) hr)
  have HT := Lib.hid hT
  have KN := Lib.hid (fun W (h : (DecTab w ∧ NumErr w) ∧ Below w.heap.size w W) => implNumOf_c (getKeyS xs dnK) W (getKeyS_size ho _) (DecTab.below h.1.1 h.2) (NumErr.below h.1.2 h.2))
  have HN := Lib.hid (outN_int xs)
  clear hr ho hT
  generalize numOfV (getKeyS xs dnK) = n at *
  generalize getKeyS xs dnK = v at *
  unfold dnK at *
  go_enter Tryd.func33, Tryd.ntmps33
  go_wp2_with fail
  refine KG.out.mono ?_
  rintro e w1 ⟨rfl, hb1⟩
  go_wp2_with fail
  refine (KN.out w1 ⟨HT.out, hb1⟩).mono ?_
  rintro e w2 ⟨rfl, hb2⟩
  have HB := Lib.hid (hb1.trans (hb2.mono hb1.size))
  go_wp2
  go_ret
  exact ⟨by rw [HN.out]; rfl, HB.out⟩
theorem empty_iff0 {s : ByteArray} : s.toList = [] ↔ s.size = 0 := by
  rw [Lib.toList_data]
  constructor
  · intro h
    have := congrArg List.length h
    simpa using this
  · intro h
    apply List.eq_nil_of_length_eq_zero
    simpa using h
theorem neq_empty {v : ByteArray} {t : TypeId} (h : 0 < v.size) : binOp .neq t (.string v) (.string ⟨#[]⟩) = pure (.bool true) := by
  rw [binOp_string_neq]
  refine congrArg (fun b => pure (Value.bool (!b))) (beq_eq_false_iff_ne.2 (fun e => ?_))
  have := empty_iff0.1 (e.trans (show (ByteArray.mk #[]).toList = [] from by kernel_rfl))
  omega
theorem eq_empty {v : ByteArray} {t : TypeId} (h : v.size = 0) : binOp .neq t (.string v) (.string ⟨#[]⟩) = pure (.bool false) := by
  rw [binOp_string_neq, empty_iff0.2 h, show (ByteArray.mk #[]).toList = [] from by kernel_rfl]
  rfl
theorem own_empty0 (W : World) (T K : Nat) : (W.alloc (.cells #[] T)).ownsRow W.heap.size T K (.slice (some ⟨W.heap.size, 0, none⟩) 0 0) 0 [] :=
  ⟨by simp, .inr ⟨W.heap.size, 0, #[], rfl, Nat.le_refl _, heap_alloc_new W _, Nat.le_refl _, Nat.zero_le _, by simp, by simp⟩⟩

set_option maxRecDepth 100000 in
set_option maxHeartbeats 4000000 in
theorem specOutsIn_c (a : Option Addr) (cap : Nat) (xs : List (ByteArray × ByteArray)) (w : World) (hlen : xs.length ≤ 1048576) (hr : Reads w a 2 encC xs) (ho : ∀ x ∈ xs, x.2.size ≤ 1048576) :
    Calls Tryd.prog 35 #[.slice a xs.length cap] w (Fresh 9 1 ((outsL xs).flatMap encS) (outsL xs).length w) := by
  obtain ⟨i0, hi, hzz⟩ := Option.map_eq_some_iff.1 infoString
  simp only [Prod.mk.injEq] at hzz
  have HI := Lib.hid hi
  have HZ := Lib.hid hzz
  have HR := Lib.hid hr
  have KG := Lib.hid (fun W k (h : Below w.heap.size w W) => specGetKey_c a cap xs k W (by unfold maxLen; omega) (hr.below h))
  have KD := Lib.hid (fun W (h : Below w.heap.size w W) => specGetKey_c a cap xs ⟨#[100, 47, 110]⟩ W (by unfold maxLen; omega) (hr.below h))
  have KN := Lib.hid (fun W => specNumOf_c (getKeyS xs ⟨#[100, 47, 110]⟩) W)
  have KB := Lib.hid (fun W => specBrought_c (numOfV (getKeyS xs ⟨#[100, 47, 110]⟩)) 0 40 W)
  rw [show broughtV (numOfV (getKeyS xs ⟨#[100, 47, 110]⟩)) 0 40 = (outN xs : Int) by rw [outN_int]; unfold broughtV dnK; have := numOf_bounds (getKeyS xs ⟨#[100, 47, 110]⟩); omega] at KB
  have HS := Lib.hid (fun k => getKeyS_size ho k)
  have HEND := Lib.hid (outsL_len xs)
  have HLL := Lib.hid (show outsL xs = outsUp xs (outN xs) from rfl)
  have hN := outN_le xs
  have HO := Lib.hid (own_empty0 w 9 1)
  clear hi hzz hr ho
  generalize outN xs = N at *
  generalize numOfV (getKeyS xs ⟨#[100, 47, 110]⟩) = n at *
  generalize getKeyS xs ⟨#[100, 47, 110]⟩ = vn at *
  go_enter Tryd.func35, Tryd.ntmps35
  go_wp2_with fail
  refine (KD.out _ (by repeat (first | exact Below.refl _ _ | refine Below.drew ?_ | refine below_drewN ?_ _ | refine Below.allocC ?_ _ | refine Below.setCell ?_ (by first | (simp; done) | (simp; omega)) _ | refine Below.chain ?_ (by assumption)))).mono ?_
  rintro e w1 ⟨rfl, hb1⟩
  have HB1 := Lib.hid (show Below w.heap.size w w1 from (by repeat (first | exact Below.refl _ _ | refine Below.drew ?_ | refine below_drewN ?_ _ | refine Below.allocC ?_ _ | refine Below.setCell ?_ (by first | (simp; done) | (simp; omega)) _ | refine Below.chain ?_ (by assumption))))
  have HO1 := Lib.hid (ownsRow_below HO.out hb1)
  clear hb1 HO KD
  go_wp2_with fail
  refine (KN.out _).mono ?_
  rintro e w2 ⟨rfl, hb2⟩
  have HB2 := Lib.hid (HB1.out.trans (hb2.mono HB1.out.size))
  have HO2 := Lib.hid (ownsRow_below HO1.out hb2)
  clear hb2 HO1 HB1 KN
  go_wp2_with fail
  refine (KB.out _).mono ?_
  rintro e w3 ⟨rfl, rfl⟩
  go_wp2
  go_loopw [3, 5] (fun v i wr => ∃ k : Nat, k ≤ N ∧ i = .int .i64 ((k : Int) + 1) ∧ Hid (wr.ownsRow w.heap.size 9 1 v k ((outsUp xs k).flatMap encS)) ∧ Below w.heap.size w wr) (fun _ i _ => N + 1 - (intOf i).toNat)
  case atStart => exact ⟨0, Nat.zero_le _, rfl, HO2, HB2.out⟩
  case round =>
    obtain ⟨k, hk, rfl, HW, hb⟩ := hrel
    have HB := Lib.hid hb
    clear hb
    by_cases hlt : k < N
    · have p1 : (k : Int) + 1 ≤ (N : Int) := by omega
      obtain ⟨ky, hky⟩ : ∃ ky, keyNumS ⟨#[100, 47]⟩ ((k : Int) + 1) ⟨#[]⟩ = ky := ⟨_, rfl⟩
      have K1 := Lib.hid (specKeyNum_c ⟨#[100, 47]⟩ ((k : Int) + 1) ⟨#[]⟩ wr (by omega) (by omega) (by decide) (by decide))
      rw [hky] at K1
      have K2 := Lib.hid (fun W h => KG.out W ky h)
      obtain ⟨v0, hv0⟩ : ∃ v0, getKeyS xs ky = v0 := ⟨_, rfl⟩
      have hsz : v0.size ≤ 1048576 := by rw [← hv0]; exact HS.out ky
      rw [hv0] at K2
      obtain ⟨r, hrr⟩ : ∃ r, msgV v0 = r := ⟨_, rfl⟩
      have HSU := Lib.hid (show outsUp xs (k + 1) = outsUp xs k ++ [r] by rw [outsUp_succ]; unfold outAt dK; rw [hky, hv0, hrr])
      clear hky hv0
      cases hp : Lib.hasPrefix v0.data.toList [45] with
      | true =>
        obtain ⟨h0, h45⟩ := hyphen_size hp
        have KU := Lib.hid (fun W => specUnhex_c (v0.extract 1 v0.size) W (Nat.le_trans (extract1_size v0) (by unfold maxLen; omega)))
        rw [show unhexV (v0.extract 1 v0.size) = r by rw [← hrr]; unfold msgV; rw [hp]; rfl] at KU
        generalize unhexOk (v0.extract 1 v0.size) = b at *
        have q1 : ∀ t, binOp .neq t (.string v0) (.string ⟨#[]⟩) = pure (.bool true) := fun t => neq_empty (by omega)
        have q0 : (0 : Int) < (v0.size : Int) := by omega
        have q2 : ∀ t, binOp .eql t (.int .u8 (v0[0].toNat : Int)) (.int .u8 45) = pure (.bool true) := fun t => by rw [binOp_eql, h45]; rfl
        have q3 : (1 : Int) ≤ (v0.size : Int) := by omega
        clear hp hrr
        go_wp2_with fail
        refine K1.out.mono ?_
        rintro e w4 ⟨rfl, hb4⟩
        have HB4 := Lib.hid (HB.out.trans (hb4.mono HB.out.size))
        have HW4 := Lib.hid (ownsRow_below HW.out hb4)
        clear hb4 HW HB K1
        go_wp2_with fail
        refine (K2.out _ HB4.out).mono ?_
        rintro e w5 ⟨rfl, hb5⟩
        have HB5 := Lib.hid (HB4.out.trans (hb5.mono HB4.out.size))
        have HW5 := Lib.hid (ownsRow_below HW4.out hb5)
        clear hb5 HW4 HB4 K2
        go_wp2_with fail
        refine (KU.out _).mono ?_
        rintro e w6 ⟨rfl, hb6⟩
        have HB6 := HB5.out.trans (hb6.mono HB5.out.size)
        have HW6 := Lib.hid (ownsRow_below HW5.out hb6)
        have hs6 := HB6.size
        clear hb6 HW5 HB5 KU
        go_wp2_with (at_builtin; refine wpList_append_own2 _ rfl _ _ 51 rfl w.heap.size 9 i0 _ 1 16 Tryd.underlying51 HI.out HZ.out.1 HZ.out.2.1 HZ.out.2.2 rfl (by decide) _ _ _ rfl (HW6.out.alloc _) ⟨w6.heap.size, 0, none⟩ 1 1 [.string r] rfl rfl (box_news (Box.new _ _ _)) (by intro u hu; simp at hu; subst hu; rfl) (by unfold maxLen; omega) (by omega) (by simp; omega) ?_)
        intro v' w' o2 g2 or2
        have HB4 := Lib.hid (below_of_own0 (show Below w.heap.size w (w6.alloc (.cells #[.string r] 9)) from (by repeat (first | exact Below.refl _ _ | refine Below.drew ?_ | refine below_drewN ?_ _ | refine Below.allocC ?_ _ | refine Below.setCell ?_ (by first | (simp; done) | (simp; omega)) _ | refine Below.chain ?_ (by assumption)))) (HW6.out.alloc _) g2)
        have HW4 := Lib.hid (show w'.ownsRow w.heap.size 9 1 v' (k + 1) ((outsUp xs (k + 1)).flatMap encS) from by
          rw [HSU.out, List.flatMap_append]; exact o2)
        clear o2 g2 or2 HW6
        go_wp2
        go_roundw
        case rel => exact ⟨k + 1, by omega, by go_num, HW4, HB4.out⟩
        case measure => simp [intOf]; omega
      | false =>
        have hre : r = ⟨#[]⟩ := by rw [← hrr]; unfold msgV; rw [hp]; rfl
        by_cases h0 : v0.size = 0
        · have q1 : ∀ t, binOp .neq t (.string v0) (.string ⟨#[]⟩) = pure (.bool false) := fun t => eq_empty h0
          clear hp hrr
          go_wp2_with fail
          refine K1.out.mono ?_
          rintro e w4 ⟨rfl, hb4⟩
          have HB4 := Lib.hid (HB.out.trans (hb4.mono HB.out.size))
          have HW4 := Lib.hid (ownsRow_below HW.out hb4)
          clear hb4 HW HB K1
          go_wp2_with fail
          refine (K2.out _ HB4.out).mono ?_
          rintro e w5 ⟨rfl, hb5⟩
          have HB5 := HB4.out.trans (hb5.mono HB4.out.size)
          have HW5 := Lib.hid (ownsRow_below HW4.out hb5)
          have hs5 := HB5.size
          clear hb5 HW4 HB4 K2
          subst hre
          go_wp2_with (at_builtin; refine wpList_append_own2 _ rfl _ _ 51 rfl w.heap.size 9 i0 _ 1 16 Tryd.underlying51 HI.out HZ.out.1 HZ.out.2.1 HZ.out.2.2 rfl (by decide) _ _ _ rfl (HW5.out.alloc _) ⟨w5.heap.size, 0, none⟩ 1 1 [.string ⟨#[]⟩] rfl rfl (box_news (Box.new _ _ _)) (by intro u hu; simp at hu; subst hu; rfl) (by unfold maxLen; omega) (by omega) (by simp; omega) ?_)
          intro v' w' o2 g2 or2
          have HB4 := Lib.hid (below_of_own0 (show Below w.heap.size w (w5.alloc (.cells #[.string ⟨#[]⟩] 9)) from (by repeat (first | exact Below.refl _ _ | refine Below.drew ?_ | refine below_drewN ?_ _ | refine Below.allocC ?_ _ | refine Below.setCell ?_ (by first | (simp; done) | (simp; omega)) _ | refine Below.chain ?_ (by assumption)))) (HW5.out.alloc _) g2)
          have HW4 := Lib.hid (show w'.ownsRow w.heap.size 9 1 v' (k + 1) ((outsUp xs (k + 1)).flatMap encS) from by
            rw [HSU.out, List.flatMap_append]; exact o2)
          clear o2 g2 or2 HW5
          go_wp2
          go_roundw
          case rel => exact ⟨k + 1, by omega, by go_num, HW4, HB4.out⟩
          case measure => simp [intOf]; omega
        · have hlt0 : 0 < v0.size := by omega
          have hne := no_hyphen hp hlt0
          have q1 : ∀ t, binOp .neq t (.string v0) (.string ⟨#[]⟩) = pure (.bool true) := fun t => neq_empty (by omega)
          have q0 : (0 : Int) < (v0.size : Int) := by omega
          have q2 : ∀ t, binOp .eql t (.int .u8 (v0[0].toNat : Int)) (.int .u8 45) = pure (.bool false) := fun t => by
            rw [binOp_eql]
            refine congrArg (fun b => pure (Value.bool b)) (beq_eq_false_iff_ne.2 (fun e => hne (UInt8.toNat_inj.1 (show v0[0].toNat = (45 : UInt8).toNat from by have h45 : (45 : UInt8).toNat = 45 := rfl; omega))))
          clear hp hrr hne
          go_wp2_with fail
          refine K1.out.mono ?_
          rintro e w4 ⟨rfl, hb4⟩
          have HB4 := Lib.hid (HB.out.trans (hb4.mono HB.out.size))
          have HW4 := Lib.hid (ownsRow_below HW.out hb4)
          clear hb4 HW HB K1
          go_wp2_with fail
          refine (K2.out _ HB4.out).mono ?_
          rintro e w5 ⟨rfl, hb5⟩
          have HB5 := HB4.out.trans (hb5.mono HB4.out.size)
          have HW5 := Lib.hid (ownsRow_below HW4.out hb5)
          have hs5 := HB5.size
          clear hb5 HW4 HB4 K2
          subst hre
          go_wp2_with (at_builtin; refine wpList_append_own2 _ rfl _ _ 51 rfl w.heap.size 9 i0 _ 1 16 Tryd.underlying51 HI.out HZ.out.1 HZ.out.2.1 HZ.out.2.2 rfl (by decide) _ _ _ rfl (HW5.out.alloc _) ⟨w5.heap.size, 0, none⟩ 1 1 [.string ⟨#[]⟩] rfl rfl (box_news (Box.new _ _ _)) (by intro u hu; simp at hu; subst hu; rfl) (by unfold maxLen; omega) (by omega) (by simp; omega) ?_)
          intro v' w' o2 g2 or2
          have HB4 := Lib.hid (below_of_own0 (show Below w.heap.size w (w5.alloc (.cells #[.string ⟨#[]⟩] 9)) from (by repeat (first | exact Below.refl _ _ | refine Below.drew ?_ | refine below_drewN ?_ _ | refine Below.allocC ?_ _ | refine Below.setCell ?_ (by first | (simp; done) | (simp; omega)) _ | refine Below.chain ?_ (by assumption)))) (HW5.out.alloc _) g2)
          have HW4 := Lib.hid (show w'.ownsRow w.heap.size 9 1 v' (k + 1) ((outsUp xs (k + 1)).flatMap encS) from by
            rw [HSU.out, List.flatMap_append]; exact o2)
          clear o2 g2 or2 HW5
          go_wp2
          go_roundw
          case rel => exact ⟨k + 1, by omega, by go_num, HW4, HB4.out⟩
          case measure => simp [intOf]; omega
    · obtain rfl : k = N := by omega
      have p1 : ¬ (k : Int) + 1 ≤ (k : Int) := by omega
      have HF := Lib.hid (show Fresh 9 1 ((outsL xs).flatMap encS) (outsL xs).length w (.returned u3) wr from ⟨_, rfl, by rw [HEND.out, HLL.out]; exact HW.out, HB.out⟩)
      clear HW HB
      go_wp2
      go_ret
      exact HF.out

set_option maxRecDepth 100000 in
set_option maxHeartbeats 4000000 in
theorem implOutsIn_c (a : Option Addr) (cap : Nat) (xs : List (ByteArray × ByteArray)) (w : World) (hlen : xs.length ≤ 1048576) (hr : Reads w a 2 encC xs) (ho : ∀ x ∈ xs, x.2.size ≤ 1048576) (hT : Tabs w) :
    Calls Tryd.prog 36 #[.slice a xs.length cap] w (Fresh 9 1 ((outsL xs).flatMap encS) (outsL xs).length w) := by
  obtain ⟨i0, hi, hzz⟩ := Option.map_eq_some_iff.1 infoString
  simp only [Prod.mk.injEq] at hzz
  have HI := Lib.hid hi
  have HZ := Lib.hid hzz
  have HR := Lib.hid hr
  have KG := Lib.hid (fun W k (h : Below w.heap.size w W) => implGetKey_c a cap xs k W (by unfold maxLen; omega) (hr.below h))
  have KC := Lib.hid (fun W (h : Below w.heap.size w W) => implOutCount_c a cap xs W hlen (hr.below h) (fun x hx => Nat.le_trans (ho x hx) (by decide)) ⟨(hT.below h).1, (hT.below h).2.1⟩)
  have HT := Lib.hid (fun W (h : Below w.heap.size w W) => hT.below h)
  have HS := Lib.hid (fun k => getKeyS_size ho k)
  have HEND := Lib.hid (outsL_len xs)
  have HLL := Lib.hid (show outsL xs = outsUp xs (outN xs) from rfl)
  have hN := outN_le xs
  clear hi hzz hr ho hT
  generalize outN xs = N at *
  go_enter Tryd.func36, Tryd.ntmps36
  go_wp2
  go_loopw [3, 4] (fun v i wr => ∃ k : Nat, k ≤ N ∧ i = .int .i64 ((k : Int) + 1) ∧ Hid (wr.ownsRow w.heap.size 9 1 v k ((outsUp xs k).flatMap encS)) ∧ Below w.heap.size w wr) (fun _ i _ => N + 1 - (intOf i).toNat)
  case atStart => exact ⟨0, Nat.zero_le _, rfl, Lib.hid (World.ownsRow_nil _ _ _ _), (by repeat (first | exact Below.refl _ _ | refine Below.drew ?_ | refine below_drewN ?_ _ | refine Below.allocC ?_ _ | refine Below.setCell ?_ (by first | (simp; done) | (simp; omega)) _ | refine Below.chain ?_ (by assumption)))⟩
  case round =>
    obtain ⟨k, hk, rfl, HW, hb⟩ := hrel
    have K0 := Lib.hid (KC.out wr hb)
    have HB := Lib.hid hb
    clear hb
    by_cases hlt : k < N
    · have p1 : (k : Int) + 1 ≤ (N : Int) := by omega
      obtain ⟨ky, hky⟩ : ∃ ky, keyNumS ⟨#[100, 47]⟩ ((k : Int) + 1) ⟨#[]⟩ = ky := ⟨_, rfl⟩
      have K1 := Lib.hid (fun W (h : Below w.heap.size w W) => implKeyNum_c ⟨#[100, 47]⟩ ((k : Int) + 1) ⟨#[]⟩ W (by omega) (by omega) (by decide) (by decide) (HT.out W h).1)
      rw [hky] at K1
      have K2 := Lib.hid (fun W h => KG.out W ky h)
      obtain ⟨v0, hv0⟩ : ∃ v0, getKeyS xs ky = v0 := ⟨_, rfl⟩
      have hsz : v0.size ≤ 281474976710656 := by rw [← hv0]; exact Nat.le_trans (HS.out ky) (by decide)
      rw [hv0] at K2
      have K3 := Lib.hid (fun W (h : Below w.heap.size w W) => messageOf_c v0 W hsz (HT.out W h).2.2)
      obtain ⟨r, hrr⟩ : ∃ r, msgV v0 = r := ⟨_, rfl⟩
      rw [hrr] at K3
      have HSU := Lib.hid (show outsUp xs (k + 1) = outsUp xs k ++ [r] by rw [outsUp_succ]; unfold outAt dK; rw [hky, hv0, hrr])
      clear hky hv0 hrr
      go_wp2_with fail
      refine K0.out.mono ?_
      rintro e w3 ⟨rfl, hb3⟩
      have HB3 := Lib.hid (HB.out.trans (hb3.mono HB.out.size))
      have HW3 := Lib.hid (ownsRow_below HW.out hb3)
      clear hb3 HW HB K0
      go_wp2_with fail
      refine (K1.out _ HB3.out).mono ?_
      rintro e w4 ⟨rfl, hb4⟩
      have HB4 := Lib.hid (HB3.out.trans (hb4.mono HB3.out.size))
      have HW4 := Lib.hid (ownsRow_below HW3.out hb4)
      clear hb4 HW3 HB3 K1
      go_wp2_with fail
      refine (K2.out _ HB4.out).mono ?_
      rintro e w5 ⟨rfl, hb5⟩
      have HB5 := Lib.hid (HB4.out.trans (hb5.mono HB4.out.size))
      have HW5 := Lib.hid (ownsRow_below HW4.out hb5)
      clear hb5 HW4 HB4 K2
      go_wp2_with fail
      refine (K3.out _ HB5.out).mono ?_
      rintro e w6 ⟨rfl, hb6⟩
      have HB6 := HB5.out.trans (hb6.mono HB5.out.size)
      have HW6 := Lib.hid (ownsRow_below HW5.out hb6)
      have hs6 := HB6.size
      clear hb6 HW5 HB5 K3
      go_wp2_with (at_builtin; refine wpList_append_own2 _ rfl _ _ 51 rfl w.heap.size 9 i0 _ 1 16 Tryd.underlying51 HI.out HZ.out.1 HZ.out.2.1 HZ.out.2.2 rfl (by decide) _ _ _ rfl (HW6.out.alloc _) ⟨w6.heap.size, 0, none⟩ 1 1 [.string r] rfl rfl (box_news (Box.new _ _ _)) (by intro u hu; simp at hu; subst hu; rfl) (by unfold maxLen; omega) (by omega) (by simp; omega) ?_)
      intro v' w' o2 g2 or2
      have HB4 := Lib.hid (below_of_own0 (show Below w.heap.size w (w6.alloc (.cells #[.string r] 9)) from (by repeat (first | exact Below.refl _ _ | refine Below.drew ?_ | refine below_drewN ?_ _ | refine Below.allocC ?_ _ | refine Below.setCell ?_ (by first | (simp; done) | (simp; omega)) _ | refine Below.chain ?_ (by assumption)))) (HW6.out.alloc _) g2)
      have HW4 := Lib.hid (show w'.ownsRow w.heap.size 9 1 v' (k + 1) ((outsUp xs (k + 1)).flatMap encS) from by
        rw [HSU.out, List.flatMap_append]; exact o2)
      clear o2 g2 or2 HW6
      go_wp2
      go_roundw
      case rel => exact ⟨k + 1, by omega, by go_num, HW4, HB4.out⟩
      case measure => simp [intOf]; omega
    · obtain rfl : k = N := by omega
      have p1 : ¬ (k : Int) + 1 ≤ (k : Int) := by omega
      go_wp2_with fail
      refine K0.out.mono ?_
      rintro e w3 ⟨rfl, hb3⟩
      have HF := Lib.hid (show Fresh 9 1 ((outsL xs).flatMap encS) (outsL xs).length w (.returned u3) w3 from ⟨_, rfl, by rw [HEND.out, HLL.out]; exact ownsRow_below HW.out hb3, HB.out.trans (hb3.mono HB.out.size)⟩)
      clear HW HB hb3
      go_wp2
      go_ret
      exact HF.out
end Go.Proofs.YtedbmmoddemngaaDoor
