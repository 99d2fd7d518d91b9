/- Lemmas and contracts that the last text leans on, joined: PutKey, MachAt, KeyAt, Hex, Mark, MarkS, OwnKeepS, Dec, ReadDec, NumOf. Conditions: as each theorem says. -/
import Derived.Test.YtihghflppegnmaaGreatDoorNk2
import Derived.Test.YtihghflppegnmaaGreatDoorNk1
import Derived.Test.YtihghflppegnmaaGreatDoorShelf
import Derived.Laws.IdiomStrings
import Derived.Shelf.Hex.Encode
import Derived.Shelf.Hex.More
import Derived.Test.YtihghflppegnmaaGreatDoorProg
import Derived.WalkKit
import Derived.WalkSpells
import Derived.WalkLawsBesides
import Derived.Lib.Hide
import Derived.Deep.RegionHeld3
import Derived.Deep.DrawnRows
import Derived.Lib.LaidTab
import Derived.Lib.ItoaNum
import Derived.Lib.AtoiAll
set_option linter.unusedSimpArgs false
set_option linter.unusedVariables false
namespace Go.Proofs.YtihghflppegnmaaGreatDoor
open Go.RowKit
attribute [local go_sem ↓] Go.wp_at_zero Go.wp_at_succ
/-- A value put into a store, if the key and the value are right. -/
def putKeyS (xs : List (ByteArray × ByteArray)) (key val : ByteArray) : List (ByteArray × ByteArray) := if keyOkB key = false ∨ 60 < val.size then xs else putV xs key val
theorem putKey_bad {xs : List (ByteArray × ByteArray)} {key val : ByteArray} (h : keyOkB key = false ∨ 60 < val.size) : putKeyS xs key val = xs := by unfold putKeyS; rw [if_pos h]
theorem putKey_good {xs : List (ByteArray × ByteArray)} {key val : ByteArray} (h : keyOkB key = true) (h2 : val.size ≤ 60) : putKeyS xs key val = putV xs key val := by unfold putKeyS; rw [if_neg]; simp [h]; exact h2
theorem putV_del {xs : List (ByteArray × ByteArray)} {key val : ByteArray} (h : val.size = 0) : putV xs key val = delK xs key := by unfold putV; rw [if_pos h]
theorem putV_ins {xs : List (ByteArray × ByteArray)} {key val : ByteArray} (h : val.size ≠ 0) : putV xs key val = insK (key, val) (delK xs key) := by unfold putV; rw [if_neg h]
theorem putKeyS_len (xs : List (ByteArray × ByteArray)) (key val : ByteArray) : (putKeyS xs key val).length ≤ xs.length + 1 := by
  unfold putKeyS; split
  · omega
  · exact putV_len _ _ _
theorem insK_at {c : ByteArray × ByteArray} {xs : List (ByteArray × ByteArray)} {k : Nat} (h : xs.findIdx (gtP c.1) = k) : insK c xs = xs.take k ++ c :: xs.drop k := by rw [insK_is, h]
theorem empty_iff {s : ByteArray} : s.toList = [] ↔ s.size = 0 := by
  rw [Lib.toList_data]
  exact ⟨fun h => by have := congrArg List.length h; simpa using this, fun h => List.eq_nil_of_length_eq_zero (by simpa using h)⟩

set_option maxRecDepth 100000 in
set_option maxHeartbeats 4000000 in
theorem put_c (v : Value) (base : Nat) (xs : List (ByteArray × ByteArray)) (key val : ByteArray) (w : World) (hlen : xs.length ≤ 2150000000000) (ho : w.ownsRow base 99 2 v xs.length (xs.flatMap encC)) (hbase : base ≤ w.heap.size) (hk : key.size ≤ maxLen) (hv : val.size ≤ maxLen) :
    Calls Tryz.prog 202 #[v, .string key, .string val] w (OwnStep 99 2 base v (putKeyS xs key val).length ((putKeyS xs key val).flatMap encC) w) := by
  have HO := Lib.hid ho
  have HLT := Lib.hid ho.lt
  have HK := Lib.hid (fun W => implKeyOk_c key W hk)
  unfold maxLen at hv
  clear ho
  obtain ⟨TT, hTT⟩ : ∃ TT, TT = putKeyS xs key val := ⟨_, rfl⟩
  have HT := Lib.hid hTT
  rw [← hTT]
  clear hTT
  cases hq : keyOkB key with
  | false =>
    have HE := Lib.hid (HT.out.trans (putKey_bad (.inl hq)))
    rw [hq] at HK
    clear hq
    go_enter Tryz.func202, Tryz.ntmps202
    go_wp2_with fail
    refine (HK.out _).mono ?_
    rintro e w1 ⟨rfl, rfl⟩
    go_wp2
    go_ret
    rw [HE.out]
    exact OwnStep.stay HO.out (by repeat (first | exact Below.refl _ _ | refine Below.drew ?_ | refine below_drewN ?_ _ | refine Below.allocC ?_ _ | refine Below.setCell ?_ (by first | (simp; done) | (simp; omega)) _ | refine Below.chain ?_ (by assumption)))
  | true =>
    rw [hq] at HK
    by_cases h60 : 60 < val.size
    · have HE := Lib.hid (HT.out.trans (putKey_bad (.inr h60)))
      have p60 : (60 : Int) < (val.size : Int) := by omega
      clear hq h60
      go_enter Tryz.func202, Tryz.ntmps202
      go_wp2_with fail
      refine (HK.out _).mono ?_
      rintro e w1 ⟨rfl, rfl⟩
      go_wp2
      go_ret
      rw [HE.out]
      exact OwnStep.stay HO.out (by repeat (first | exact Below.refl _ _ | refine Below.drew ?_ | refine below_drewN ?_ _ | refine Below.allocC ?_ _ | refine Below.setCell ?_ (by first | (simp; done) | (simp; omega)) _ | refine Below.chain ?_ (by assumption)))
    · have p60 : ¬ (60 : Int) < (val.size : Int) := by omega
      have HE0 := Lib.hid (HT.out.trans (putKey_good hq (by omega)))
      have HD := Lib.hid (fun (W : World) (hW : Below w.heap.size w W) (hc : W.cell? ⟨w.heap.size, 0, none⟩ = some (.string key)) => deleteC_c v base w.heap.size xs key W (by omega) (ownsRow_below HO.out hW) hc (fun k hk => by have := (HLT.out k hk).2; omega) (Nat.le_trans hbase hW.size))
      have hdl := delK_len xs key
      obtain ⟨D, hDD⟩ : ∃ D, D = delK xs key := ⟨_, rfl⟩
      rw [← hDD] at hdl HD
      have HDD := Lib.hid hDD
      clear hq h60 hDD
      by_cases hz : val.size = 0
      · have HE := Lib.hid (HE0.out.trans (putV_del hz))
        have q : (val.toList == []) = true := by simp [empty_iff, hz]
        have q2 : val.toList = [] := empty_iff.2 hz
        clear hz
        go_enter Tryz.func202, Tryz.ntmps202
        go_wp2_with fail
        refine (HK.out _).mono ?_
        rintro e w1 ⟨rfl, rfl⟩
        go_wp2_with fail
        refine (HD.out _ (by repeat (first | exact Below.refl _ _ | refine Below.drew ?_ | refine below_drewN ?_ _ | refine Below.allocC ?_ _ | refine Below.setCell ?_ (by first | (simp; done) | (simp; omega)) _ | refine Below.chain ?_ (by assumption))) (by simp)).mono ?_
        intro e w2 hs
        obtain ⟨v2, rfl, h1, h2, h3⟩ := hs.after (w := w) (by repeat (first | exact Below.refl _ _ | refine Below.drew ?_ | refine below_drewN ?_ _ | refine Below.allocC ?_ _ | refine Below.setCell ?_ (by first | (simp; done) | (simp; omega)) _ | refine Below.chain ?_ (by assumption)))
        have H2 := Lib.hid (show OwnStep 99 2 base v TT.length (TT.flatMap encC) w (.returned v2) w2 from ⟨v2, rfl, by rw [HE.out, ← HDD.out]; exact h1, h2, h3⟩)
        clear h1 h2 h3 hs
        go_wp2
        go_ret
        exact H2.out
      · have HE := Lib.hid (HE0.out.trans (putV_ins hz))
        have q : (val.toList == []) = false := by simp [empty_iff, hz]
        have q2 : ¬ val.toList = [] := fun e => hz (empty_iff.1 e)
        clear hz
        go_enter Tryz.func202, Tryz.ntmps202
        go_wp2_with fail
        refine (HK.out _).mono ?_
        rintro e w1 ⟨rfl, rfl⟩
        go_wp2_with fail
        refine (HD.out _ (by repeat (first | exact Below.refl _ _ | refine Below.drew ?_ | refine below_drewN ?_ _ | refine Below.allocC ?_ _ | refine Below.setCell ?_ (by first | (simp; done) | (simp; omega)) _ | refine Below.chain ?_ (by assumption))) (by simp)).mono ?_
        intro e w2 hs
        obtain ⟨v2, rfl, h1, h2, h3⟩ := hs
        have hsz2 : w.heap.size < w2.heap.size := by have := h2.size; simp at this; omega
        have hcB : w2.cell? ⟨w.heap.size, 0, none⟩ = some (.string key) := by
          refine (World.cell?_of_block (h2.block w.heap.size (by simp) (fun e => ?_))).trans (by simp)
          have := (HLT.out _ e.symm).2
          omega
        have HcB := Lib.hid hcB
        obtain ⟨a2, cap2, rfl, r2⟩ := reads_of_owns encC_len h1
        have HO2 := Lib.hid h1
        have HR2 := Lib.hid r2
        have HG2 := Lib.hid (grownBy_trans (grownBy_of_below (show Below w.heap.size w (w.alloc (.cells #[.string key] 9)) from (by repeat (first | exact Below.refl _ _ | refine Below.drew ?_ | refine below_drewN ?_ _ | refine Below.allocC ?_ _ | refine Below.setCell ?_ (by first | (simp; done) | (simp; omega)) _ | refine Below.chain ?_ (by assumption)))) v.ownBlock) h2)
        have HOr := Lib.hid h3
        have K2 := Lib.hid (indexFuncC_c a2 cap2 D (gtP key) 231 #[.pointer (some ⟨w.heap.size, 0, none⟩)] (fun args w => enters_of Tryz.func231 (by kernel_rfl) rfl args w) w2
          (fun W' x _ hb => gtFn_c key w.heap.size W' (keepS hb HcB.out) x) (by unfold maxLen; omega) r2)
        have HW2 := Lib.hid (h2.size)
        clear h1 h2 h3 r2 hcB
        go_wp2_with fail
        refine K2.out.mono ?_
        rintro e w3 ⟨rfl, hb3⟩
        have B3 := Lib.hid hb3
        have hcB3 : w3.cell? ⟨w.heap.size, 0, none⟩ = some (.string key) := keepS hb3 HcB.out
        have hsz3 : w.heap.size < w3.heap.size := by have := hb3.size; omega
        clear hb3
        obtain ⟨k, hkk⟩ : ∃ k, D.findIdx (gtP key) = k := ⟨_, rfl⟩
        have HKK := Lib.hid hkk
        have hkl : k ≤ D.length := by rw [← hkk]; exact List.findIdx_le_length
        have HE2 := Lib.hid (show TT = D.take k ++ (key, val) :: D.drop k from HE.out.trans (by rw [← HDD.out]; exact insK_at (c := (key, val)) hkk))
        rw [hkk]
        clear hkk
        have HINS := Lib.hid (fun (W : World) (hW : Below w3.heap.size w3 W) (hx : Box W w3.heap.size [.string key, .string val]) => (insertC_c (.slice a2 D.length cap2) base k D (key, val) w3.heap.size W (by omega) (ownsRow_below (ownsRow_below HO2.out B3.out) hW) hkl hx (fun j hj => by
            have h := (HO2.out.lt j hj).2
            have h' := B3.out.size
            omega) (by have := B3.out.size; have := hW.size; omega)))
        by_cases hlt : k < D.length
        · have HI := Lib.hid (idxI_lt hlt)
          rw [HI.out]
          have p1 : (0 : Int) ≤ (k : Int) := by omega
          go_wp2_with fail
          refine (HINS.out _ (by repeat (first | exact Below.refl _ _ | refine Below.drew ?_ | refine below_drewN ?_ _ | refine Below.allocC ?_ _ | refine Below.setCell ?_ (by first | (simp; done) | (simp; omega)) _ | refine Below.chain ?_ (by assumption))) (Box.new _ [.string key, .string val] _)).mono ?_
          intro e w4 hs
          obtain ⟨v4, rfl, h1, h2, h3⟩ := OwnStep.next (w := w) (v := v) HG2.out (HOr.out.from (by simp)) (B3.out.trans (show Below w2.heap.size w3 (w3.alloc (.cells #[.string key, .string val] 99)) from Below.mono (by repeat (first | exact Below.refl _ _ | refine Below.drew ?_ | refine below_drewN ?_ _ | refine Below.allocC ?_ _ | refine Below.setCell ?_ (by first | (simp; done) | (simp; omega)) _ | refine Below.chain ?_ (by assumption))) B3.out.size)) hs
          have H2 := Lib.hid (show OwnStep 99 2 base v TT.length (TT.flatMap encC) w (.returned v4) w4 from ⟨v4, rfl, by
            have hl : TT.length = D.length + 1 := by rw [HE2.out, List.length_append, List.length_cons, List.length_take, List.length_drop]; omega
            rw [hl, HE2.out]; exact h1, h2, h3⟩)
          clear h1 h2 h3 hs
          go_wp2
          go_ret
          exact H2.out
        · have HI := Lib.hid (idxI_ge (Nat.not_lt.1 hlt))
          rw [HI.out]
          obtain rfl : D.length = k := by omega
          go_wp2_with fail
          refine (HINS.out _ (by repeat (first | exact Below.refl _ _ | refine Below.drew ?_ | refine below_drewN ?_ _ | refine Below.allocC ?_ _ | refine Below.setCell ?_ (by first | (simp; done) | (simp; omega)) _ | refine Below.chain ?_ (by assumption))) (Box.new _ [.string key, .string val] _)).mono ?_
          intro e w4 hs
          obtain ⟨v4, rfl, h1, h2, h3⟩ := OwnStep.next (w := w) (v := v) HG2.out (HOr.out.from (by simp)) (B3.out.trans (show Below w2.heap.size w3 (w3.alloc (.cells #[.string key, .string val] 99)) from Below.mono (by repeat (first | exact Below.refl _ _ | refine Below.drew ?_ | refine below_drewN ?_ _ | refine Below.allocC ?_ _ | refine Below.setCell ?_ (by first | (simp; done) | (simp; omega)) _ | refine Below.chain ?_ (by assumption))) B3.out.size)) hs
          have H2 := Lib.hid (show OwnStep 99 2 base v TT.length (TT.flatMap encC) w (.returned v4) w4 from ⟨v4, rfl, by
            have hl : TT.length = D.length + 1 := by rw [HE2.out, List.length_append, List.length_cons, List.length_take, List.length_drop]; omega
            rw [hl, HE2.out]; exact h1, h2, h3⟩)
          clear h1 h2 h3 hs
          go_wp2
          go_ret
          exact H2.out

/-- What the reference's loop has laid: with the new cell ('d'), or without. -/
def outK (xs : List (ByteArray × ByteArray)) (key val : ByteArray) (d : Bool) : List (ByteArray × ByteArray) := if d then putV xs key val else delK xs key
theorem insK_none {c : ByteArray × ByteArray} : ∀ {L : List (ByteArray × ByteArray)}, L.any (gtP c.1) = false → insK c L = L ++ [c]
  | [], _ => rfl
  | y :: L, h => by
    simp only [List.any_cons, Bool.or_eq_false_iff] at h
    unfold insK
    have h1 : ltB c.1 y.1 = false := h.1
    rw [h1, insK_none h.2]; rfl
theorem insK_snoc_hit {c : ByteArray × ByteArray} (y : ByteArray × ByteArray) : ∀ {L : List (ByteArray × ByteArray)}, L.any (gtP c.1) = true → insK c (L ++ [y]) = insK c L ++ [y]
  | [], h => by simp at h
  | z :: L, h => by
    rw [List.cons_append]
    unfold insK
    cases hz : ltB c.1 z.1 with
    | true => rfl
    | false =>
      have h2 : L.any (gtP c.1) = true := by
        simp only [List.any_cons, Bool.or_eq_true] at h
        rcases h with h | h
        · unfold gtP at h; rw [hz] at h; cases h
        · exact h
      simp [insK_snoc_hit y h2]
theorem insK_snoc_new {c y : ByteArray × ByteArray} (hy : gtP c.1 y = true) : ∀ {L : List (ByteArray × ByteArray)}, L.any (gtP c.1) = false → insK c (L ++ [y]) = L ++ [c, y]
  | [], _ => by
    have h : ltB c.1 y.1 = true := hy
    simp [insK, h]
  | z :: L, h => by
    simp only [List.any_cons, Bool.or_eq_false_iff] at h
    rw [List.cons_append]
    unfold insK
    have h1 : ltB c.1 z.1 = false := h.1
    rw [h1, insK_snoc_new hy h.2]; rfl
theorem gt_ne {key : ByteArray} {y : ByteArray × ByteArray} (h : gtP key y = true) : delP key y = false := by
  unfold delP; rw [eqB_false]; exact fun e => ltB_ne (show ltB key y.1 = true from h) e.symm
theorem any_delK (xs : List (ByteArray × ByteArray)) (key : ByteArray) : (delK xs key).any (gtP key) = xs.any (gtP key) := by
  induction xs with
  | nil => rfl
  | cons y xs ih =>
    unfold delK at ih ⊢
    rw [List.filter_cons]
    cases h : eqB y.1 key with
    | true =>
      have : gtP key y = false := by
        cases g : gtP key y with
        | false => rfl
        | true => have := gt_ne g; unfold delP at this; rw [h] at this; cases this
      simp [ih, this]
    | false => simp [ih]
/-- Is the new cell laid, or none to be laid? -/
def doneK (xs : List (ByteArray × ByteArray)) (key val : ByteArray) : Bool := decide (val.size = 0) || xs.any (gtP key)
theorem doneK_snoc {xs : List (ByteArray × ByteArray)} {key val : ByteArray} {k : Nat} {y : ByteArray × ByteArray} (hy : xs[k]? = some y) : doneK (xs.take (k + 1)) key val = (doneK (xs.take k) key val || gtP key y) := by
  unfold doneK; rw [take_snoc_of hy, List.any_append]; simp [Bool.or_assoc]
theorem outK_same {xs : List (ByteArray × ByteArray)} {key val : ByteArray} {k : Nat} {y : ByteArray × ByteArray} {d : Bool} (hy : xs[k]? = some y) (h : delP key y = true) : outK (xs.take (k + 1)) key val d = outK (xs.take k) key val d := by
  unfold outK putV; rw [delK_drop hy h]
theorem outK_off {xs : List (ByteArray × ByteArray)} {key val : ByteArray} {k : Nat} {y : ByteArray × ByteArray} (hy : xs[k]? = some y) (h : delP key y = false) : outK (xs.take (k + 1)) key val false = outK (xs.take k) key val false ++ [y] := by
  unfold outK; simp [delK_keep hy h]
theorem outK_on {xs : List (ByteArray × ByteArray)} {key val : ByteArray} {k : Nat} {y : ByteArray × ByteArray} (hy : xs[k]? = some y) (h : delP key y = false) (hd : doneK (xs.take k) key val = true) : outK (xs.take (k + 1)) key val true = outK (xs.take k) key val true ++ [y] := by
  unfold outK putV
  simp only [if_true]
  rw [delK_keep hy h]
  by_cases hz : val.size = 0
  · simp [hz]
  · have ha : (delK (xs.take k) key).any (gtP key) = true := by
      rw [any_delK]; unfold doneK at hd; simpa [hz] using hd
    simp only [hz, if_false]
    exact insK_snoc_hit y ha
theorem outK_new {xs : List (ByteArray × ByteArray)} {key val : ByteArray} {k : Nat} {y : ByteArray × ByteArray} (hy : xs[k]? = some y) (h : gtP key y = true) (hd : doneK (xs.take k) key val = false) : outK (xs.take (k + 1)) key val true = outK (xs.take k) key val false ++ [(key, val)] ++ [y] := by
  unfold doneK at hd
  simp only [Bool.or_eq_false_iff, decide_eq_false_iff_not] at hd
  unfold outK putV
  simp only [if_true, hd.1, if_false]
  rw [delK_keep hy (gt_ne h), insK_snoc_new h (by rw [any_delK]; exact hd.2)]
  simp
theorem outK_end {xs : List (ByteArray × ByteArray)} {key val : ByteArray} (hd : doneK xs key val = false) : putV xs key val = outK xs key val false ++ [(key, val)] := by
  unfold doneK at hd
  simp only [Bool.or_eq_false_iff, decide_eq_false_iff_not] at hd
  unfold outK putV
  simp only [hd.1, if_false]
  rw [insK_none (by rw [any_delK]; exact hd.2)]
  simp
theorem outK_len (xs : List (ByteArray × ByteArray)) (key val : ByteArray) (d : Bool) : (outK xs key val d).length ≤ xs.length + 1 := by
  unfold outK; split
  · exact putV_len _ _ _
  · have := delK_len xs key; omega

set_option maxRecDepth 100000 in
set_option maxHeartbeats 4000000 in
theorem specPutKey_c (a : Option Addr) (cap : Nat) (xs : List (ByteArray × ByteArray)) (key val : ByteArray) (w : World) (hlen : xs.length ≤ 2100000000000) (hr : Reads w a 2 encC xs) (_ho : ∀ x ∈ xs, x.1.size ≤ maxLen ∧ x.2.size ≤ maxLen) (hk : key.size ≤ maxLen) (hv : val.size ≤ maxLen) :
    Calls Tryz.prog 64 #[.slice a xs.length cap, .string key, .string val] w (Fresh 99 2 ((putKeyS xs key val).flatMap encC) (putKeyS xs key val).length w) := by
  obtain ⟨i0, hinf, hzz⟩ := Option.map_eq_some_iff.1 infoCell
  simp only [Prod.mk.injEq] at hzz
  have HI := Lib.hid hinf
  have HZ := Lib.hid hzz
  have HR := Lib.hid hr
  have HK := Lib.hid (fun W => specKeyOk_c key W hk)
  have HRN := Lib.hid (fun (W : World) => (show (W.alloc (.cells #[] 99)).ownsRow W.heap.size 99 2 (.slice (some ⟨W.heap.size, 0, none⟩) 0 0) 0 [] from ⟨rfl, .inr ⟨W.heap.size, 0, #[], rfl, Nat.le_refl _, heap_alloc_new W _, Nat.le_refl _, Nat.zero_le _, rfl, rfl⟩⟩))
  unfold maxLen at hv
  clear hr hinf hzz
  obtain ⟨TT, hTT⟩ : ∃ TT, TT = putKeyS xs key val := ⟨_, rfl⟩
  have HT := Lib.hid hTT
  rw [← hTT]
  clear hTT
  by_cases hbad : keyOkB key = false ∨ 60 < val.size
  · have HE := Lib.hid (HT.out.trans (putKey_bad hbad))
    have hfin : ∀ (v2 : Value) (w2 : World), w2.ownsRow w.heap.size 99 2 v2 xs.length (xs.flatMap encC) → (w.alloc (.cells #[] 99)).grownBy w2 (some w.heap.size) → Fresh 99 2 (TT.flatMap encC) TT.length w (.returned v2) w2 := fun v2 w2 o g => by
      rw [HE.out]
      exact ⟨v2, rfl, o, (show Below w.heap.size w (w.alloc (.cells #[] 99)) from (by repeat (first | exact Below.refl _ _ | refine Below.drew ?_ | refine below_drewN ?_ _ | refine Below.allocC ?_ _ | refine Below.setCell ?_ (by first | (simp; done) | (simp; omega)) _ | refine Below.chain ?_ (by assumption)))).trans (below_of_grown g (Nat.le_refl _) (by simp))⟩
    have HFIN := Lib.hid hfin
    clear hfin
    cases hq : keyOkB key with
    | false =>
      rw [hq] at HK
      clear hbad hq
      go_enter Tryz.func64, Tryz.ntmps64
      go_wp2_with fail
      refine (HK.out _).mono ?_
      rintro e w1 ⟨rfl, rfl⟩
      go_wp2_with (at_builtin; refine wpList_append_reads _ rfl _ _ 26 rfl w.heap.size 99 i0 (.agg #[.string ⟨#[]⟩, .string ⟨#[]⟩]) 2 32 Tryz.underlying26 HI.out HZ.out.1 HZ.out.2.1 HZ.out.2.2 rfl (by decide) encC_len encC_one _ 0 [] rfl (HRN.out w) _ _ _ xs rfl rfl (HR.out.below (by repeat (first | exact Below.refl _ _ | refine Below.drew ?_ | refine below_drewN ?_ _ | refine Below.allocC ?_ _ | refine Below.setCell ?_ (by first | (simp; done) | (simp; omega)) _ | refine Below.chain ?_ (by assumption)))) (by unfold maxLen; omega) (by omega) (by simp) ?_)
      intro v2 w2 o2 g2 or2
      have H2 := Lib.hid (HFIN.out v2 w2 (by first | exact o2 | simpa using o2) g2)
      clear o2 g2 or2
      go_wp2
      go_ret
      exact H2.out
    | true =>
      have h60 : 60 < val.size := by rcases hbad with h | h; · rw [hq] at h; cases h
                                     · exact h
      have p60 : (60 : Int) < (val.size : Int) := by omega
      rw [hq] at HK
      clear hbad hq h60
      go_enter Tryz.func64, Tryz.ntmps64
      go_wp2_with fail
      refine (HK.out _).mono ?_
      rintro e w1 ⟨rfl, rfl⟩
      go_wp2_with (at_builtin; refine wpList_append_reads _ rfl _ _ 26 rfl w.heap.size 99 i0 (.agg #[.string ⟨#[]⟩, .string ⟨#[]⟩]) 2 32 Tryz.underlying26 HI.out HZ.out.1 HZ.out.2.1 HZ.out.2.2 rfl (by decide) encC_len encC_one _ 0 [] rfl (HRN.out w) _ _ _ xs rfl rfl (HR.out.below (by repeat (first | exact Below.refl _ _ | refine Below.drew ?_ | refine below_drewN ?_ _ | refine Below.allocC ?_ _ | refine Below.setCell ?_ (by first | (simp; done) | (simp; omega)) _ | refine Below.chain ?_ (by assumption)))) (by unfold maxLen; omega) (by omega) (by simp) ?_)
      intro v2 w2 o2 g2 or2
      have H2 := Lib.hid (HFIN.out v2 w2 (by first | exact o2 | simpa using o2) g2)
      clear o2 g2 or2
      go_wp2
      go_ret
      exact H2.out
  · have hq : keyOkB key = true := by cases h : keyOkB key <;> simp_all
    have p60 : ¬ (60 : Int) < (val.size : Int) := by simp [hq] at hbad; omega
    have HE := Lib.hid (HT.out.trans (putKey_good hq (by omega)))
    rw [hq] at HK
    obtain ⟨z, hz⟩ : ∃ z : Bool, (val.toList == []) = z := ⟨_, rfl⟩
    have HZ0 := Lib.hid (show doneK (xs.take 0) key val = z from by
      rw [← hz]; unfold doneK
      simp only [List.take_zero, List.any_nil, Bool.or_false]
      by_cases h : val.size = 0
      · simp [h, empty_iff.2 h]
      · have : val.toList ≠ [] := fun e => h (empty_iff.1 e)
        simp [h, this])
    have HO0 := Lib.hid (show outK (xs.take 0) key val z = [] from by
      have h0 := HZ0.out
      unfold doneK at h0
      simp only [List.take_zero, List.any_nil, Bool.or_false] at h0
      unfold outK putV
      cases z with
      | false => rfl
      | true => simp only [decide_eq_true_eq] at h0; simp [h0, delK])
    clear hbad hq
    cases z
    all_goals
      go_enter Tryz.func64, Tryz.ntmps64
      go_wp2_with fail
      refine (HK.out _).mono ?_
      rintro e w1 ⟨rfl, rfl⟩
      go_wp2
      go_loopw [7, 8, 9] (fun v d i wr => ∃ (k : Nat) (b : Bool), k ≤ xs.length ∧ i = .int .i64 k ∧ d = .bool b ∧ Hid (doneK (xs.take k) key val = b) ∧ Hid (wr.ownsRow w.heap.size 99 2 v (outK (xs.take k) key val b).length ((outK (xs.take k) key val b).flatMap encC)) ∧ Below w.heap.size w wr) (fun _ _ i _ => xs.length - (intOf i).toNat)
      case atStart => exact ⟨0, _, Nat.zero_le _, rfl, rfl, HZ0, by rw [HO0.out]; exact HRN.out w, (by repeat (first | exact Below.refl _ _ | refine Below.drew ?_ | refine below_drewN ?_ _ | refine Below.allocC ?_ _ | refine Below.setCell ?_ (by first | (simp; done) | (simp; omega)) _ | refine Below.chain ?_ (by assumption)))⟩
      case round =>
        obtain ⟨k, b, hk, rfl, rfl, HD, HW, hb⟩ := hrel
        have hol := outK_len (xs.take k) key val b
        have htl : (xs.take k).length ≤ k := List.length_take_le _ _
        have HOL := Lib.hid (show (outK (xs.take k) key val b).length ≤ 2100000000001 by omega)
        clear hol htl
        have hol := HOL.out
        by_cases hlt : k < xs.length
        · obtain ⟨y, hy⟩ := some_of_lt hlt
          obtain ⟨bb, off, hab, c0, c1⟩ := readFC HR.out hb hy
          have HY := Lib.hid hy
          have p1 : (0 : Int) ≤ (k : Int) := by omega
          have p2 : (k : Int) < (xs.length : Int) := by omega
          obtain ⟨y0, y1⟩ := y
          dsimp only at c0 c1
          subst hab
          clear hy
          have HDN0 := Lib.hid (doneK_snoc (key := key) (val := val) HY.out)
          cases he : (y0.toList == key.toList) with
          | true =>
            have hdel : delP key (y0, y1) = true := he
            have hne2 : (y0.toList != key.toList) = false := by rw [bne, he]; rfl
            have hlt0 : Op.bytesLess y0.toList key.toList = false := by rw [beq_iff_eq.1 he]; exact less_irr _
            have hgt : gtP key (y0, y1) = false := by unfold gtP ltB; rw [← beq_iff_eq.1 he]; exact less_irr _
            have HS := Lib.hid (outK_same (val := val) (d := b) HY.out hdel)
            have HDN := Lib.hid (HDN0.out.trans (show _ = b by rw [HD.out, hgt, Bool.or_false]))
            clear hdel hgt
            cases b
            · go_wp2
              go_roundw
              case rel => exact ⟨k + 1, false, by omega, by go_num, rfl, HDN, by rw [HS.out]; exact HW, hb⟩
              case measure => simp [intOf]; omega
            · go_wp2
              go_roundw
              case rel => exact ⟨k + 1, true, by omega, by go_num, rfl, HDN, by rw [HS.out]; exact HW, hb⟩
              case measure => simp [intOf]; omega
          | false =>
            have hdel : delP key (y0, y1) = false := he
            have hne2 : (y0.toList != key.toList) = true := by rw [bne, he]; rfl
            cases hl : Op.bytesLess y0.toList key.toList with
            | true =>
              have hgt : gtP key (y0, y1) = false := ltB_asym (show ltB y0 key = true from hl)
              have HDN := Lib.hid (HDN0.out.trans (show _ = b by rw [HD.out, hgt, Bool.or_false]))
              clear hgt
              cases b
              · have HS := Lib.hid (outK_off (val := val) HY.out hdel)
                clear hdel
                go_wp2_with (at_builtin; refine wpList_append_own2 _ rfl _ _ 26 rfl w.heap.size 99 i0 (.agg #[.string ⟨#[]⟩, .string ⟨#[]⟩]) 2 32 Tryz.underlying26 HI.out HZ.out.1 HZ.out.2.1 HZ.out.2.2 rfl (by decide) _ _ _ rfl (HW.out.alloc _) ⟨wr.heap.size, 0, none⟩ 1 1 (encC (y0, y1)) rfl rfl (box_news (Box.new _ (encC (y0, y1)) _)) (encC_one _) (by unfold maxLen; omega) (by omega) (by have := hb.size; simp; omega) ?_)
                intro v' w' o2 g2 or2
                have h := OwnStep.fresh (w := w) (W := wr.alloc (.cells #[.string y0, .string y1] 99)) (e := .returned v') (w' := w') ((by repeat (first | exact Below.refl _ _ | refine Below.drew ?_ | refine below_drewN ?_ _ | refine Below.allocC ?_ _ | refine Below.setCell ?_ (by first | (simp; done) | (simp; omega)) _ | refine Below.chain ?_ (by assumption)))) (HW.out.alloc _) ⟨v', rfl, o2, g2, or2⟩
                have HB2 : Below w.heap.size w w' := by obtain ⟨_, _, _, h⟩ := h; exact h
                have HB3 := Lib.hid HB2
                have HW2 := Lib.hid (show w'.ownsRow w.heap.size 99 2 v' (outK (xs.take (k + 1)) key val false).length ((outK (xs.take (k + 1)) key val false).flatMap encC) from by rw [HS.out, List.length_append, List.flatMap_append]; exact o2)
                clear o2 g2 or2 h HB2 HW
                go_wp2
                go_roundw
                case rel => exact ⟨k + 1, false, by omega, by go_num, rfl, HDN, HW2, HB3.out⟩
                case measure => simp [intOf]; omega
              · have HS := Lib.hid (outK_on HY.out hdel HD.out)
                clear hdel
                go_wp2_with (at_builtin; refine wpList_append_own2 _ rfl _ _ 26 rfl w.heap.size 99 i0 (.agg #[.string ⟨#[]⟩, .string ⟨#[]⟩]) 2 32 Tryz.underlying26 HI.out HZ.out.1 HZ.out.2.1 HZ.out.2.2 rfl (by decide) _ _ _ rfl (HW.out.alloc _) ⟨wr.heap.size, 0, none⟩ 1 1 (encC (y0, y1)) rfl rfl (box_news (Box.new _ (encC (y0, y1)) _)) (encC_one _) (by unfold maxLen; omega) (by omega) (by have := hb.size; simp; omega) ?_)
                intro v' w' o2 g2 or2
                have h := OwnStep.fresh (w := w) (W := wr.alloc (.cells #[.string y0, .string y1] 99)) (e := .returned v') (w' := w') ((by repeat (first | exact Below.refl _ _ | refine Below.drew ?_ | refine below_drewN ?_ _ | refine Below.allocC ?_ _ | refine Below.setCell ?_ (by first | (simp; done) | (simp; omega)) _ | refine Below.chain ?_ (by assumption)))) (HW.out.alloc _) ⟨v', rfl, o2, g2, or2⟩
                have HB2 : Below w.heap.size w w' := by obtain ⟨_, _, _, h⟩ := h; exact h
                have HB3 := Lib.hid HB2
                have HW2 := Lib.hid (show w'.ownsRow w.heap.size 99 2 v' (outK (xs.take (k + 1)) key val true).length ((outK (xs.take (k + 1)) key val true).flatMap encC) from by rw [HS.out, List.length_append, List.flatMap_append]; exact o2)
                clear o2 g2 or2 h HB2 HW
                go_wp2
                go_roundw
                case rel => exact ⟨k + 1, true, by omega, by go_num, rfl, HDN, HW2, HB3.out⟩
                case measure => simp [intOf]; omega
            | false =>
              have hgt : gtP key (y0, y1) = true := by
                unfold gtP ltB
                rw [← gt_is, hl, he]; rfl
              have HDN := Lib.hid (HDN0.out.trans (show _ = true by rw [hgt, Bool.or_true]))
              cases b
              · have HS := Lib.hid (outK_new HY.out hgt HD.out)
                clear hdel hgt
                go_wp2_with (at_builtin; refine wpList_append_own2 _ rfl _ _ 26 rfl w.heap.size 99 i0 (.agg #[.string ⟨#[]⟩, .string ⟨#[]⟩]) 2 32 Tryz.underlying26 HI.out HZ.out.1 HZ.out.2.1 HZ.out.2.2 rfl (by decide) _ _ _ rfl (HW.out.alloc _) ⟨wr.heap.size, 0, none⟩ 1 1 (encC (key, val)) rfl rfl (box_news (Box.new _ (encC (key, val)) _)) (encC_one _) (by unfold maxLen; omega) (by omega) (by have := hb.size; simp; omega) ?_)
                intro v1 w1 o1 g1 or1
                have h := OwnStep.fresh (w := w) (W := wr.alloc (.cells #[.string key, .string val] 99)) (e := .returned v1) (w' := w1) ((by repeat (first | exact Below.refl _ _ | refine Below.drew ?_ | refine below_drewN ?_ _ | refine Below.allocC ?_ _ | refine Below.setCell ?_ (by first | (simp; done) | (simp; omega)) _ | refine Below.chain ?_ (by assumption)))) (HW.out.alloc _) ⟨v1, rfl, o1, g1, or1⟩
                have B1 : Below w.heap.size w w1 := by obtain ⟨_, _, _, h⟩ := h; exact h
                have HO1 := Lib.hid (show w1.ownsRow w.heap.size 99 2 v1 ((outK (xs.take k) key val false).length + 1) ((outK (xs.take k) key val false).flatMap encC ++ encC (key, val)) from o1)
                obtain ⟨_, _, e0, d0, d1⟩ := readFC HR.out B1 HY.out
                cases e0
                clear o1 g1 or1 h HW c0 c1
                go_wp2_with (at_builtin; refine wpList_append_own2 _ rfl _ _ 26 rfl w.heap.size 99 i0 (.agg #[.string ⟨#[]⟩, .string ⟨#[]⟩]) 2 32 Tryz.underlying26 HI.out HZ.out.1 HZ.out.2.1 HZ.out.2.2 rfl (by decide) _ _ _ rfl (HO1.out.alloc _) ⟨w1.heap.size, 0, none⟩ 1 1 (encC (y0, y1)) rfl rfl (box_news (Box.new _ (encC (y0, y1)) _)) (encC_one _) (by unfold maxLen; omega) (by omega) (by have := B1.size; simp; omega) ?_)
                intro v' w' o2 g2 or2
                have h := OwnStep.fresh (w := w) (W := w1.alloc (.cells #[.string y0, .string y1] 99)) (e := .returned v') (w' := w') ((by repeat (first | exact Below.refl _ _ | refine Below.drew ?_ | refine below_drewN ?_ _ | refine Below.allocC ?_ _ | refine Below.setCell ?_ (by first | (simp; done) | (simp; omega)) _ | refine Below.chain ?_ (by assumption)))) (HO1.out.alloc _) ⟨v', rfl, o2, g2, or2⟩
                have HB2 : Below w.heap.size w w' := by obtain ⟨_, _, _, h⟩ := h; exact h
                have HB3 := Lib.hid HB2
                have HW2 := Lib.hid (show w'.ownsRow w.heap.size 99 2 v' (outK (xs.take (k + 1)) key val true).length ((outK (xs.take (k + 1)) key val true).flatMap encC) from by rw [HS.out, List.length_append, List.length_append, List.flatMap_append, List.flatMap_append]; exact (by simpa using o2))
                clear o2 g2 or2 h HB2 HO1
                go_wp2
                go_roundw
                case rel => exact ⟨k + 1, true, by omega, by go_num, rfl, HDN, HW2, HB3.out⟩
                case measure => simp [intOf]; omega
              · have HS := Lib.hid (outK_on HY.out hdel HD.out)
                clear hdel hgt
                go_wp2_with (at_builtin; refine wpList_append_own2 _ rfl _ _ 26 rfl w.heap.size 99 i0 (.agg #[.string ⟨#[]⟩, .string ⟨#[]⟩]) 2 32 Tryz.underlying26 HI.out HZ.out.1 HZ.out.2.1 HZ.out.2.2 rfl (by decide) _ _ _ rfl (HW.out.alloc _) ⟨wr.heap.size, 0, none⟩ 1 1 (encC (y0, y1)) rfl rfl (box_news (Box.new _ (encC (y0, y1)) _)) (encC_one _) (by unfold maxLen; omega) (by omega) (by have := hb.size; simp; omega) ?_)
                intro v' w' o2 g2 or2
                have h := OwnStep.fresh (w := w) (W := wr.alloc (.cells #[.string y0, .string y1] 99)) (e := .returned v') (w' := w') ((by repeat (first | exact Below.refl _ _ | refine Below.drew ?_ | refine below_drewN ?_ _ | refine Below.allocC ?_ _ | refine Below.setCell ?_ (by first | (simp; done) | (simp; omega)) _ | refine Below.chain ?_ (by assumption)))) (HW.out.alloc _) ⟨v', rfl, o2, g2, or2⟩
                have HB2 : Below w.heap.size w w' := by obtain ⟨_, _, _, h⟩ := h; exact h
                have HB3 := Lib.hid HB2
                have HW2 := Lib.hid (show w'.ownsRow w.heap.size 99 2 v' (outK (xs.take (k + 1)) key val true).length ((outK (xs.take (k + 1)) key val true).flatMap encC) from by rw [HS.out, List.length_append, List.flatMap_append]; exact o2)
                clear o2 g2 or2 h HB2 HW
                go_wp2
                go_roundw
                case rel => exact ⟨k + 1, true, by omega, by go_num, rfl, HDN, HW2, HB3.out⟩
                case measure => simp [intOf]; omega
        · obtain rfl : k = xs.length := by omega
          have p2 : ¬ (xs.length : Int) < (xs.length : Int) := by omega
          rw [List.take_of_length_le (Nat.le_refl _)] at HD HW hol
          cases b
          · have HS := Lib.hid (HE.out.trans (outK_end HD.out))
            go_wp2_with (at_builtin; refine wpList_append_own2 _ rfl _ _ 26 rfl w.heap.size 99 i0 (.agg #[.string ⟨#[]⟩, .string ⟨#[]⟩]) 2 32 Tryz.underlying26 HI.out HZ.out.1 HZ.out.2.1 HZ.out.2.2 rfl (by decide) _ _ _ rfl (HW.out.alloc _) ⟨wr.heap.size, 0, none⟩ 1 1 (encC (key, val)) rfl rfl (box_news (Box.new _ (encC (key, val)) _)) (encC_one _) (by unfold maxLen; omega) (by omega) (by have := hb.size; simp; omega) ?_)
            intro v1 w1 o1 g1 or1
            have h := OwnStep.fresh (w := w) (W := wr.alloc (.cells #[.string key, .string val] 99)) (e := .returned v1) (w' := w1) (by repeat (first | exact Below.refl _ _ | refine Below.drew ?_ | refine below_drewN ?_ _ | refine Below.allocC ?_ _ | refine Below.setCell ?_ (by first | (simp; done) | (simp; omega)) _ | refine Below.chain ?_ (by assumption))) (HW.out.alloc _) ⟨v1, rfl, o1, g1, or1⟩
            have H2 := Lib.hid (show Fresh 99 2 (TT.flatMap encC) TT.length w (.returned v1) w1 from by rw [HS.out, List.length_append, List.flatMap_append]; exact (by simpa using h))
            clear o1 g1 or1 h
            go_wp2
            go_ret
            exact H2.out
          · have HS := Lib.hid (show TT = outK xs key val true from HE.out)
            go_wp2
            go_ret
            rw [HS.out]
            exact ⟨_, rfl, HW.out, hb⟩
end Go.Proofs.YtihghflppegnmaaGreatDoor
namespace Go.Proofs.YtihghflppegnmaaGreatDoor
open Go.ChangeShapes Go.WideShapes Go.ChangeAt Go.RowKit
/-- A machine: the store, the spans read, the spans written. -/
structure Mch where
  st : List (ByteArray × ByteArray)
  rs : List ByteArray
  ws : List ByteArray
/-- The machine m lies in block p; its rows are own rows, apart from each other. -/
structure MAt (w : World) (p base : Nat) (v1 v2 v3 : Value) (m : Mch) : Prop where
  box : Box w p [v1, v2, v3]
  o1 : w.ownsRow base 99 2 v1 m.st.length (m.st.flatMap encC)
  o2 : w.ownsRow base 9 1 v2 m.rs.length (m.rs.flatMap encS)
  o3 : w.ownsRow base 9 1 v3 m.ws.length (m.ws.flatMap encS)
  n1 : v1.ownBlock ≠ some p
  n2 : v2.ownBlock ≠ some p
  n3 : v3.ownBlock ≠ some p
  d12 : ∀ k, v1.ownBlock = some k → v2.ownBlock ≠ some k
  d13 : ∀ k, v1.ownBlock = some k → v3.ownBlock ≠ some k
  d23 : ∀ k, v2.ownBlock = some k → v3.ownBlock ≠ some k
  hp : base ≤ p
  hb : base ≤ w.heap.size
/-- Nothing that stood is touched but block p and the three rows. -/
structure Grow3 (w w' : World) (p : Nat) (v1 v2 v3 : Value) : Prop where
  os : w'.os = w.os
  tape : w'.tape = w.tape
  output : w'.output = w.output
  size : w.heap.size ≤ w'.heap.size
  block : ∀ k, k < w.heap.size → k ≠ p → v1.ownBlock ≠ some k → v2.ownBlock ≠ some k → v3.ownBlock ≠ some k → w'.heap[k]? = w.heap[k]?
theorem Grow3.of_below {w w' : World} {p : Nat} {v1 v2 v3 : Value} (hb : Below w.heap.size w w') : Grow3 w w' p v1 v2 v3 :=
  ⟨hb.os, hb.tape, hb.output, hb.size, fun k hk _ _ _ _ => hb.block k hk⟩
theorem OwnOr.ne {w : World} {v u : Value} (h : OwnOr w v u) {k : Nat} (hk : k < w.heap.size) (hv : v.ownBlock ≠ some k) : u.ownBlock ≠ some k := fun e => by
  rcases h with h | h
  · exact hv (h ▸ e)
  · have := h k e; omega
theorem OwnOr.trans {w W : World} {v u u' : Value} (h : OwnOr w v u) (h2 : OwnOr W u u') (hs : w.heap.size ≤ W.heap.size) : OwnOr w v u' := by
  rcases h2 with h2 | h2
  · rcases h with h | h
    · exact .inl (h2.trans h)
    · exact .inr (fun k hk => h k (h2 ▸ hk))
  · exact .inr (fun k hk => Nat.le_trans hs (h2 k hk))
theorem Grow3.trans {w W w' : World} {p : Nat} {v1 v2 v3 u1 u2 u3 : Value} (h : Grow3 w W p v1 v2 v3) (r1 : OwnOr w v1 u1) (r2 : OwnOr w v2 u2) (r3 : OwnOr w v3 u3) (h2 : Grow3 W w' p u1 u2 u3) : Grow3 w w' p v1 v2 v3 :=
  ⟨h2.os.trans h.os, h2.tape.trans h.tape, h2.output.trans h.output, Nat.le_trans h.size h2.size, fun k hk hne h1 h2' h3 =>
    (h2.block k (Nat.lt_of_lt_of_le hk h.size) hne (r1.ne hk h1) (r2.ne hk h2') (r3.ne hk h3)).trans (h.block k hk hne h1 h2' h3)⟩
theorem MAt.below {w w' : World} {p base : Nat} {v1 v2 v3 : Value} {m : Mch} (h : MAt w p base v1 v2 v3 m) (hb : Below w.heap.size w w') : MAt w' p base v1 v2 v3 m :=
  ⟨h.box.below hb, ownsRow_below h.o1 hb, ownsRow_below h.o2 hb, ownsRow_below h.o3 hb, h.n1, h.n2, h.n3, h.d12, h.d13, h.d23, h.hp, Nat.le_trans h.hb hb.size⟩
theorem box_put {w : World} {b : Nat} {xs : List Value} (h : Box w b xs) (i : Nat) (v : Value) : Box (w.setCell ⟨b, i, none⟩ v) b (xs.set i v) := by
  obtain ⟨h1, T, h2⟩ := h
  refine ⟨by simpa [World.setCell] using h1, T, ?_⟩
  have := heap_setCell_same w b i xs.toArray T v h2
  simpa using this
theorem ne_or {v u : Value} (h : ∀ k, v.ownBlock = some k → u.ownBlock ≠ some k) : v.ownBlock = none ∨ v.ownBlock ≠ u.ownBlock := by
  cases hv : v.ownBlock with
  | none => exact .inl rfl
  | some k => exact .inr (fun e => h k hv e.symm)
/-- What a method of the machine does: the machine steps to m', r is returned. -/
def MStep (p base : Nat) (v1 v2 v3 : Value) (m' : Mch) (r : Value) (w : World) (e : Ending) (w' : World) : Prop :=
  ∃ u1 u2 u3, e = .returned r ∧ MAt w' p base u1 u2 u3 m' ∧ Grow3 w w' p v1 v2 v3 ∧ OwnOr w v1 u1 ∧ OwnOr w v2 u2 ∧ OwnOr w v3 u3
theorem MStep.next {p base : Nat} {v1 v2 v3 u1 u2 u3 : Value} {m' : Mch} {r : Value} {w W w' : World} {e : Ending} (h : Grow3 w W p v1 v2 v3) (r1 : OwnOr w v1 u1) (r2 : OwnOr w v2 u2) (r3 : OwnOr w v3 u3) (h2 : MStep p base u1 u2 u3 m' r W e w') : MStep p base v1 v2 v3 m' r w e w' := by
  obtain ⟨x1, x2, x3, h3, h4, h5, q1, q2, q3⟩ := h2
  exact ⟨x1, x2, x3, h3, h4, h.trans r1 r2 r3 h5, r1.trans q1 h.size, r2.trans q2 h.size, r3.trans q3 h.size⟩
theorem MAt.step {w w' : World} {p base : Nat} {v1 v2 v3 : Value} {m : Mch} (h : MAt w p base v1 v2 v3 m) (hb : Below w.heap.size w w') (r : Value) : MStep p base v1 v2 v3 m r w (.returned r) w' :=
  ⟨v1, v2, v3, rfl, h.below hb, Grow3.of_below hb, .inl rfl, .inl rfl, .inl rfl⟩
theorem MAt.set1 {w W : World} {p base : Nat} {v1 v2 v3 u : Value} {m : Mch} {xs : List (ByteArray × ByteArray)} (h : MAt w p base v1 v2 v3 m) (ho : W.ownsRow base 99 2 u xs.length (xs.flatMap encC)) (hg : w.grownBy W v1.ownBlock) (hor : OwnOr w v1 u) :
    MAt (W.setCell ⟨p, 0, none⟩ u) p base u v2 v3 ⟨xs, m.rs, m.ws⟩ ∧ Grow3 w (W.setCell ⟨p, 0, none⟩ u) p v1 v2 v3 ∧ Box W p [v1, v2, v3] := by
  have gs : W.grownBy (W.setCell ⟨p, 0, none⟩ u) (some p) := grownBy_setCell W p 0 u
  have bW : Box W p [v1, v2, v3] := ⟨Nat.lt_of_lt_of_le h.box.1 hg.size, h.box.2.elim fun T hT => ⟨T, (hg.block p h.box.1 (fun e => h.n1 e.symm)).trans hT⟩⟩
  have nu : u.ownBlock ≠ some p := hor.ne h.box.1 h.n1
  refine ⟨⟨box_put bW 0 u, ho.kept gs (.inr nu), (h.o2.kept hg (ne_or (fun k hk e => h.d12 k e hk))).kept gs (.inr h.n2), (h.o3.kept hg (ne_or (fun k hk e => h.d13 k e hk))).kept gs (.inr h.n3), nu, h.n2, h.n3, (fun k hk e => (hor.ne (h.o2.lt k e).2 ((fun k hk e => h.d12 k e hk) k e)) hk), (fun k hk e => (hor.ne (h.o3.lt k e).2 ((fun k hk e => h.d13 k e hk) k e)) hk), h.d23, h.hp, Nat.le_trans h.hb (Nat.le_trans hg.size gs.size)⟩, ⟨gs.os.trans hg.os, gs.tape.trans hg.tape, gs.output.trans hg.output, Nat.le_trans hg.size gs.size, fun k hk hne h1 h2 h3 => ?_⟩, bW⟩
  exact (gs.block k (Nat.lt_of_lt_of_le hk hg.size) (fun e => by cases e; exact hne rfl)).trans (hg.block k hk (fun e => h1 e.symm))
theorem MAt.set2 {w W : World} {p base : Nat} {v1 v2 v3 u : Value} {m : Mch} {xs : List ByteArray} (h : MAt w p base v1 v2 v3 m) (ho : W.ownsRow base 9 1 u xs.length (xs.flatMap encS)) (hg : w.grownBy W v2.ownBlock) (hor : OwnOr w v2 u) :
    MAt (W.setCell ⟨p, 1, none⟩ u) p base v1 u v3 ⟨m.st, xs, m.ws⟩ ∧ Grow3 w (W.setCell ⟨p, 1, none⟩ u) p v1 v2 v3 ∧ Box W p [v1, v2, v3] := by
  have gs : W.grownBy (W.setCell ⟨p, 1, none⟩ u) (some p) := grownBy_setCell W p 1 u
  have bW : Box W p [v1, v2, v3] := ⟨Nat.lt_of_lt_of_le h.box.1 hg.size, h.box.2.elim fun T hT => ⟨T, (hg.block p h.box.1 (fun e => h.n2 e.symm)).trans hT⟩⟩
  have nu : u.ownBlock ≠ some p := hor.ne h.box.1 h.n2
  refine ⟨⟨box_put bW 1 u, (h.o1.kept hg (ne_or h.d12)).kept gs (.inr h.n1), ho.kept gs (.inr nu), (h.o3.kept hg (ne_or (fun k hk e => h.d23 k e hk))).kept gs (.inr h.n3), h.n1, nu, h.n3, (fun k hk => hor.ne (h.o1.lt k hk).2 (h.d12 k hk)), h.d13, (fun k hk e => (hor.ne (h.o3.lt k e).2 ((fun k hk e => h.d23 k e hk) k e)) hk), h.hp, Nat.le_trans h.hb (Nat.le_trans hg.size gs.size)⟩, ⟨gs.os.trans hg.os, gs.tape.trans hg.tape, gs.output.trans hg.output, Nat.le_trans hg.size gs.size, fun k hk hne h1 h2 h3 => ?_⟩, bW⟩
  exact (gs.block k (Nat.lt_of_lt_of_le hk hg.size) (fun e => by cases e; exact hne rfl)).trans (hg.block k hk (fun e => h2 e.symm))
theorem MAt.set3 {w W : World} {p base : Nat} {v1 v2 v3 u : Value} {m : Mch} {xs : List ByteArray} (h : MAt w p base v1 v2 v3 m) (ho : W.ownsRow base 9 1 u xs.length (xs.flatMap encS)) (hg : w.grownBy W v3.ownBlock) (hor : OwnOr w v3 u) :
    MAt (W.setCell ⟨p, 2, none⟩ u) p base v1 v2 u ⟨m.st, m.rs, xs⟩ ∧ Grow3 w (W.setCell ⟨p, 2, none⟩ u) p v1 v2 v3 ∧ Box W p [v1, v2, v3] := by
  have gs : W.grownBy (W.setCell ⟨p, 2, none⟩ u) (some p) := grownBy_setCell W p 2 u
  have bW : Box W p [v1, v2, v3] := ⟨Nat.lt_of_lt_of_le h.box.1 hg.size, h.box.2.elim fun T hT => ⟨T, (hg.block p h.box.1 (fun e => h.n3 e.symm)).trans hT⟩⟩
  have nu : u.ownBlock ≠ some p := hor.ne h.box.1 h.n3
  refine ⟨⟨box_put bW 2 u, (h.o1.kept hg (ne_or h.d13)).kept gs (.inr h.n1), (h.o2.kept hg (ne_or h.d23)).kept gs (.inr h.n2), ho.kept gs (.inr nu), h.n1, h.n2, nu, h.d12, (fun k hk => hor.ne (h.o1.lt k hk).2 (h.d13 k hk)), (fun k hk => hor.ne (h.o2.lt k hk).2 (h.d23 k hk)), h.hp, Nat.le_trans h.hb (Nat.le_trans hg.size gs.size)⟩, ⟨gs.os.trans hg.os, gs.tape.trans hg.tape, gs.output.trans hg.output, Nat.le_trans hg.size gs.size, fun k hk hne h1 h2 h3 => ?_⟩, bW⟩
  exact (gs.block k (Nat.lt_of_lt_of_le hk hg.size) (fun e => by cases e; exact hne rfl)).trans (hg.block k hk (fun e => h3 e.symm))
end Go.Proofs.YtihghflppegnmaaGreatDoor
namespace Go.Proofs.YtihghflppegnmaaGreatDoor
open Go.RowKit
attribute [local go_sem ↓] Go.wp_at_zero Go.wp_at_succ
/-- The cell has the key. -/
def keyP (key : ByteArray) (c : ByteArray × ByteArray) : Bool := c.1.toList == key.toList
/-- The value of the first cell with the key. -/
def getKeyS (xs : List (ByteArray × ByteArray)) (key : ByteArray) : ByteArray := match xs[xs.findIdx (keyP key)]? with | some c => c.2 | none => ByteArray.empty
theorem getKey_hit {xs : List (ByteArray × ByteArray)} {key : ByteArray} {k : Nat} {x : ByteArray × ByteArray} (h : noneUp (keyP key) xs k) (hx : xs[k]? = some x) (hp : keyP key x = true) : getKeyS xs key = x.2 := by
  unfold getKeyS; rw [find_hit h hx hp, hx]
theorem getKey_miss {xs : List (ByteArray × ByteArray)} {key : ByteArray} {k : Nat} (h : noneUp (keyP key) xs k) (hk : xs.length ≤ k) : getKeyS xs key = ByteArray.empty := by
  unfold getKeyS; rw [find_miss h hk]; simp

set_option maxRecDepth 100000 in
set_option maxHeartbeats 2000000 in
theorem specGetKey_c (a : Option Addr) (cap : Nat) (xs : List (ByteArray × ByteArray)) (key : ByteArray) (w : World) (hlen : xs.length ≤ maxLen) (hr : Reads w a 2 encC xs) :
    Calls Tryz.prog 219 #[.slice a xs.length cap, .string key] w fun e w' => e = .returned (.string (getKeyS xs key)) ∧ Below w.heap.size w w' := by
  have HR := Lib.hid hr
  clear hr
  unfold maxLen at hlen
  go_enter Tryz.func219, Tryz.ntmps219
  go_wp2
  go_loopw [5] (fun i wr => ∃ k : Nat, k ≤ xs.length ∧ i = .int .i64 k ∧ noneUp (keyP key) xs k ∧ Below w.heap.size w wr) (fun i _ => xs.length - (intOf i).toNat)
  case atStart => exact ⟨0, Nat.zero_le _, rfl, noneUp_zero _ _, (by repeat (first | exact Below.refl _ _ | assumption | refine Below.alloc ?_ (by simp <;> omega) _ | refine Below.setCell ?_ (by simp <;> omega) _ | refine Below.drew ?_))⟩
  case round =>
    obtain ⟨k, hk, rfl, hup, hb⟩ := hrel
    by_cases hlt : k < xs.length
    · obtain ⟨x, hx⟩ := some_of_lt hlt
      obtain ⟨b, off, rfl, c0, c1⟩ := readFC HR.out hb hx
      have p1 : (0 : Int) ≤ (k : Int) := by omega
      have p2 : (k : Int) < (xs.length : Int) := by omega
      have HX := Lib.hid hx
      clear hx
      cases hq : keyP key x with
      | true =>
        have q : (x.1.toList == key.toList) = true := hq
        have HA := Lib.hid (getKey_hit hup HX.out hq)
        clear hq hup
        go_wp2
        go_ret
        exact ⟨by rw [HA.out]; rfl, hb⟩
      | false =>
        have q : (x.1.toList == key.toList) = false := hq
        have hs := noneUp_succ hup HX.out hq
        clear hq
        go_wp2
        go_roundw
        case rel => exact ⟨k + 1, by omega, by go_num, hs, (by repeat (first | exact Below.refl _ _ | refine Below.drew ?_ | refine below_drewN ?_ _ | refine Below.allocC ?_ _ | refine Below.setCell ?_ (by first | (simp; done) | (simp; omega)) _ | refine Below.chain ?_ (by assumption)))⟩
        case measure => simp [intOf]; omega
    · have HS := Lib.hid (getKey_miss hup (by omega))
      have p2 : ¬ (k : Int) < (xs.length : Int) := by omega
      go_wp2
      go_ret
      exact ⟨by rw [HS.out]; rfl, hb⟩

/-- The closure of cellAt: the cell has the key, which lies in a cell of cellAt's own. -/
theorem cellAtFn_c (key : ByteArray) (B : Nat) (w W : World) (hB : w.cell? ⟨B, 0, none⟩ = some (.string key)) (x : ByteArray × ByteArray) (hb : Below w.heap.size w W) :
    Calls Tryz.prog 251 #[.agg #[.string x.1, .string x.2], .pointer (some ⟨B, 0, none⟩)] W fun e w' => e = .returned (.bool (keyP key x)) ∧ Below W.heap.size W w' := by
  have hc : W.cell? ⟨B, 0, none⟩ = some (.string key) := keepS hb hB
  have hBW : B < W.heap.size := World.block_lt_of_cell? W _ hc
  have hne : B ≠ W.heap.size := by omega
  cases hq : keyP key x
  all_goals
    have q : (x.1.toList == key.toList) = _ := hq
    go_enter Tryz.func251, Tryz.ntmps251
    go_wp2
    go_ret
    exact ⟨by simp_all, (by repeat (first | exact Below.refl _ _ | refine Below.drew ?_ | refine below_drewN ?_ _ | refine Below.allocC ?_ _ | refine Below.setCell ?_ (by first | (simp; done) | (simp; omega)) _ | refine Below.chain ?_ (by assumption)))⟩

set_option maxRecDepth 100000 in
set_option maxHeartbeats 2000000 in
theorem cellAt_c (a : Option Addr) (cap : Nat) (xs : List (ByteArray × ByteArray)) (key : ByteArray) (w : World) (hlen : xs.length ≤ maxLen) (hr : Reads w a 2 encC xs) :
    Calls Tryz.prog 237 #[.slice a xs.length cap, .string key] w fun e w' => e = .returned (.int .i64 (idxI xs.length (xs.findIdx (keyP key)))) ∧ Below w.heap.size w w' := by
  have K : ∀ W, Below w.heap.size w W → W.cell? ⟨w.heap.size, 0, none⟩ = some (.string key) → _ := fun W hW hc => indexFuncC_c a cap xs (keyP key) 251 #[.pointer (some ⟨w.heap.size, 0, none⟩)] (fun args w => enters_of Tryz.func251 (by kernel_rfl) rfl args w) W
    (fun W' x _ hb => cellAtFn_c key w.heap.size W W' hc x hb) hlen (hr.below hW)
  have HK := Lib.hid K
  clear K hr
  generalize hgr : idxI xs.length (xs.findIdx (keyP key)) = r at *
  go_enter Tryz.func237, Tryz.ntmps237
  go_wp2_with fail
  refine (HK.out _ (by repeat (first | exact Below.refl _ _ | refine Below.drew ?_ | refine below_drewN ?_ _ | refine Below.allocC ?_ _ | refine Below.setCell ?_ (by first | (simp; done) | (simp; omega)) _ | refine Below.chain ?_ (by assumption))) (by simp)).mono ?_
  rintro e w1 ⟨rfl, hb1⟩
  go_wp2
  go_ret
  exact ⟨rfl, (by repeat (first | exact Below.refl _ _ | refine Below.drew ?_ | refine below_drewN ?_ _ | refine Below.allocC ?_ _ | refine Below.setCell ?_ (by first | (simp; done) | (simp; omega)) _ | refine Below.chain ?_ (by assumption)))⟩

/-- What 'at >= 0' says of the place. -/
theorem idx_nonneg (xs : List (ByteArray × ByteArray)) (key : ByteArray) : decide ((0 : Int) ≤ idxI xs.length (xs.findIdx (keyP key))) = xs.any (keyP key) := by
  rw [any_find]
  by_cases h : xs.findIdx (keyP key) < xs.length
  · rw [idxI_lt h]; simp [h]
  · rw [idxI_ge (by omega)]; simp [h]

set_option maxRecDepth 100000 in
set_option maxHeartbeats 2000000 in
theorem implGetKey_c (a : Option Addr) (cap : Nat) (xs : List (ByteArray × ByteArray)) (key : ByteArray) (w : World) (hlen : xs.length ≤ maxLen) (hr : Reads w a 2 encC xs) :
    Calls Tryz.prog 209 #[.slice a xs.length cap, .string key] w fun e w' => e = .returned (.string (getKeyS xs key)) ∧ Below w.heap.size w w' := by
  have K := Lib.hid (cellAt_c a cap xs key w hlen hr)
  have HR := Lib.hid hr
  clear hr
  unfold maxLen at hlen
  by_cases h : xs.findIdx (keyP key) < xs.length
  · obtain ⟨x, hx⟩ := some_of_lt h
    have HG : Hid (getKeyS xs key = x.2) := Lib.hid (by unfold getKeyS; rw [hx])
    have HX := Lib.hid hx
    have HI := Lib.hid (idxI_lt h)
    generalize xs.findIdx (keyP key) = k at *
    have p1 : (0 : Int) ≤ (k : Int) := by omega
    have p2 : (k : Int) < (xs.length : Int) := by omega
    clear hx
    go_enter Tryz.func209, Tryz.ntmps209
    go_wp2_with fail
    refine K.out.mono ?_
    rintro e w1 ⟨rfl, hb1⟩
    rw [HI.out]
    obtain ⟨b, off, rfl, c0, c1⟩ := readFC HR.out hb1 HX.out
    go_wp2
    go_ret
    exact ⟨by rw [HG.out]; rfl, hb1⟩
  · have HG : Hid (getKeyS xs key = ByteArray.empty) := Lib.hid (by unfold getKeyS; rw [List.getElem?_eq_none (by omega)])
    have HI := Lib.hid (idxI_ge (Nat.not_lt.1 h))
    clear h
    go_enter Tryz.func209, Tryz.ntmps209
    go_wp2_with fail
    refine K.out.mono ?_
    rintro e w1 ⟨rfl, hb1⟩
    rw [HI.out]
    go_wp2
    go_ret
    exact ⟨by rw [HG.out]; rfl, hb1⟩
end Go.Proofs.YtihghflppegnmaaGreatDoor
namespace Go.Proofs.YtihghflppegnmaaGreatDoor
open Go.RowKit
attribute [local go_sem ↓] Go.wp_at_zero Go.wp_at_succ
def hexS (s : ByteArray) : ByteArray := ⟨(Lib.Hx.encode s.data.toList).toArray⟩
theorem hexS_size (s : ByteArray) : (hexS s).size = 2 * s.size := by
  show (Lib.Hx.encode s.data.toList).toArray.size = _
  rw [List.size_toArray, Lib.Hx.encode_length]; simp
def hexOk (s : ByteArray) : Bool := decide (s.size ≤ 20000)
def hexV (s : ByteArray) : ByteArray := if s.size ≤ 20000 then hexS s else ByteArray.empty
theorem hex_yes {s : ByteArray} (h : s.size ≤ 20000) : hexOk s = true ∧ hexV s = hexS s := by simp [hexOk, hexV, h]
theorem hex_no {s : ByteArray} (h : 20000 < s.size) : hexOk s = false ∧ hexV s = ByteArray.empty := by
  simp [hexOk, hexV, Nat.not_le.2 h]

set_option maxRecDepth 100000 in
set_option maxHeartbeats 1000000 in
theorem implHex_c (s : ByteArray) (w : World) :
    Calls Tryz.prog 207 #[.string s] w fun e w' => e = .returned (.tuple #[.string (hexV s), .bool (hexOk s)]) ∧ Below w.heap.size w w' := by
  by_cases h : s.size ≤ 20000
  · have p : ¬ (20000 : Int) < (s.size : Int) := by omega
    have HV := Lib.hid (hex_yes h)
    obtain ⟨C, hC⟩ : ∃ C, C = grownCap w s.size 0 5 := ⟨_, rfl⟩
    obtain ⟨W1, hW1⟩ : ∃ W1, W1 = w.drew.alloc (.cells (bytesRow s C) 5 ((bytesRow s C).size, (bytesRow s C).size + 1)) := ⟨_, rfl⟩
    have hcv : (convert 9 22 (.string s)).run Tryz.prog w = .ok (.slice (some ⟨w.heap.size, 0, none⟩) s.size C) W1 := by
      rw [hW1, hC]
      exact run_bytes_of_string w 9 22 5 s Tryz.underlying9 Tryz.underlying22 Tryz.underlying5
    have HB := Lib.hid (show Below w.heap.size w W1 by rw [hW1]; exact ((Below.refl _ _).drew).alloc (Nat.le_refl _) _)
    have K := Lib.hid (Tryz.hex_EncodeToString_bytes w.heap.size 0 C s.data.toList W1 (fun i hi => by
      have hi' : i < s.data.size := by simpa using hi
      rw [hW1, Nat.zero_add]
      simp only [World.cell?, World.alloc, World.drew]
      have := bytesRow_at s C i hi'
      simp [this]) (by rw [hW1]; simp) (by simp; omega))
    have hln : s.data.toList.length = s.size := by simp
    rw [hln] at K
    clear hC hW1 hln
    go_enter Tryz.func207, Tryz.ntmps207
    go_wp2_with fail
    refine K.out.mono ?_
    rintro e w2 ⟨rfl, hb2⟩
    go_wp2
    go_ret2
    exact ⟨by rw [HV.out.1, HV.out.2]; rfl, HB.out.trans (hb2.mono HB.out.size)⟩
  · have p : (20000 : Int) < (s.size : Int) := by omega
    have HV := Lib.hid (hex_no (Nat.not_le.1 h))
    clear h
    go_enter Tryz.func207, Tryz.ntmps207
    go_wp2
    go_ret2
    exact ⟨by rw [HV.out.1, HV.out.2]; rfl, (by repeat (first | exact Below.refl _ _ | refine Below.drew ?_ | refine below_drewN ?_ _ | refine Below.allocC ?_ _ | refine Below.setCell ?_ (by first | (simp; done) | (simp; omega)) _ | refine Below.chain ?_ (by assumption)))⟩

theorem digit_lo {d : Nat} (h : d < 10) : ((Lib.Hx.digit d).toNat : Int) = 48 + d := by
  match d, h with
  | 0, _ | 1, _ | 2, _ | 3, _ | 4, _ | 5, _ | 6, _ | 7, _ | 8, _ | 9, _ => rfl
theorem digit_hi {d : Nat} (h : 10 ≤ d) (h2 : d < 16) : ((Lib.Hx.digit d).toNat : Int) = 87 + d := by
  have : d = 10 ∨ d = 11 ∨ d = 12 ∨ d = 13 ∨ d = 14 ∨ d = 15 := by omega
  rcases this with rfl | rfl | rfl | rfl | rfl | rfl <;> rfl
theorem figure_c (d : Nat) (w : World) (h : d < 16) : Calls Tryz.prog 218 #[.int .i64 (d : Int)] w fun e w' => e = .returned (.int .u8 ((Lib.Hx.digit d).toNat : Int)) ∧ w = w' := by
  have p0 : (0 : Int) ≤ (d : Int) := by omega
  have p1 : (d : Int) < 16 := by omega
  by_cases hl : d < 10
  · have HD := Lib.hid (digit_lo hl)
    have pl : (d : Int) < 10 := by omega
    go_enter Tryz.func218, Tryz.ntmps218
    go_wp2
    go_ret
    exact ⟨by rw [HD.out]; rfl, rfl⟩
  · have HD := Lib.hid (digit_hi (Nat.not_lt.1 hl) h)
    have pl : ¬ (d : Int) < 10 := by omega
    clear hl
    go_enter Tryz.func218, Tryz.ntmps218
    go_wp2
    go_ret
    exact ⟨by rw [HD.out]; simp; omega, rfl⟩
theorem infoByte : (Tryz.prog.info? 5).map (fun i => (i.zero, i.size, i.bytes)) = some (some (.int .u8 0), 1, 1) := by kernel_rfl
def encB (b : UInt8) : List Value := [.int .u8 (b.toNat : Int)]
theorem encB_len (b : UInt8) : (encB b).length = 1 := rfl
theorem encode_snoc (l : List UInt8) (b : UInt8) : Lib.Hx.encode (l ++ [b]) = Lib.Hx.encode l ++ [Lib.Hx.digit (b.toNat / 16), Lib.Hx.digit (b.toNat % 16)] := by
  simp [Lib.Hx.encode, List.flatMap_append]

set_option maxRecDepth 100000 in
set_option maxHeartbeats 4000000 in
theorem specHex_c (s : ByteArray) (w : World) (hs : s.size ≤ maxLen) :
    Calls Tryz.prog 185 #[.string s] w fun e w' => e = .returned (.tuple #[.string (hexV s), .bool (hexOk s)]) ∧ Below w.heap.size w w' := by
  unfold maxLen at hs
  by_cases h : s.size ≤ 20000
  · have p : ¬ (20000 : Int) < (s.size : Int) := by omega
    have HV := Lib.hid (hex_yes h)
    obtain ⟨i0, hi, hzz⟩ := Option.map_eq_some_iff.1 infoByte
    simp only [Prod.mk.injEq] at hzz
    have HI := Lib.hid hi
    have HZ := Lib.hid hzz
    clear hi hzz
    go_enter Tryz.func185, Tryz.ntmps185
    go_wp2
    go_loopw [4, 5] (fun v i wr => ∃ k : Nat, k ≤ s.size ∧ i = .int .i64 k ∧ Hid (wr.ownsRow w.heap.size 5 1 v (2 * k) ((Lib.Hx.encode (s.data.toList.take k)).flatMap encB)) ∧ Below w.heap.size w wr) (fun _ i _ => s.size - (intOf i).toNat)
    case atStart => exact ⟨0, Nat.zero_le _, rfl, Lib.hid ⟨rfl, .inr ⟨w.heap.size, 0, #[], rfl, Nat.le_refl _, heap_alloc_new w _, Nat.le_refl _, Nat.zero_le _, rfl, rfl⟩⟩, (by repeat (first | exact Below.refl _ _ | refine Below.drew ?_ | refine below_drewN ?_ _ | refine Below.allocC ?_ _ | refine Below.setCell ?_ (by first | (simp; done) | (simp; omega)) _ | refine Below.chain ?_ (by assumption)))⟩
    case round =>
      obtain ⟨k, hk, rfl, HW, hb⟩ := hrel
      by_cases hlt : k < s.size
      · have p1 : (0 : Int) ≤ (k : Int) := by omega
        have p2 : (k : Int) < (s.size : Int) := by omega
        have hn : s[k].toNat < 256 := s[k].toNat_lt
        have HS := Lib.hid (show Lib.Hx.encode (s.data.toList.take (k + 1)) = Lib.Hx.encode (s.data.toList.take k) ++ [Lib.Hx.digit (s[k].toNat / 16), Lib.Hx.digit (s[k].toNat % 16)] from by
          rw [List.take_succ_eq_append_getElem (by simpa using hlt), encode_snoc]; rfl)
        have hw0 : IntKind.i64.wrap (s[k].toNat : Int) = (s[k].toNat : Int) := by rw [IntKind.wrap_i64]; omega
        have HF1 := Lib.hid (show ∀ W, Calls Tryz.prog 218 #[.int .i64 (IntKind.i64.wrap ((IntKind.i64.wrap (s[k].toNat : Int)).tdiv 16))] W fun e w' => e = .returned (.int .u8 ((Lib.Hx.digit (s[k].toNat / 16)).toNat : Int)) ∧ W = w' from fun W => by
          have e : IntKind.i64.wrap ((IntKind.i64.wrap (s[k].toNat : Int)).tdiv 16) = ((s[k].toNat / 16 : Nat) : Int) := by
            rw [hw0, Int.tdiv_eq_ediv_of_nonneg (by omega), IntKind.wrap_i64]; omega
          rw [e]; exact figure_c (s[k].toNat / 16) W (by omega))
        have HF2 := Lib.hid (show ∀ W, Calls Tryz.prog 218 #[.int .i64 (((IntKind.i64.wrap (s[k].toNat : Int)).tmod 16))] W fun e w' => e = .returned (.int .u8 ((Lib.Hx.digit (s[k].toNat % 16)).toNat : Int)) ∧ W = w' from fun W => by
          have e : ((IntKind.i64.wrap (s[k].toNat : Int)).tmod 16) = ((s[k].toNat % 16 : Nat) : Int) := by
            rw [hw0, Int.tmod_eq_emod_of_nonneg (by omega)]; omega
          rw [e]; exact figure_c (s[k].toNat % 16) W (by omega))
        clear hw0
        have q0 : (0 : Int) ≤ (s[k].toNat : Int) := by omega
        have q1 : (s[k].toNat : Int) ≤ 255 := by omega
        generalize Lib.Hx.digit (s[k].toNat / 16) = d1 at *
        generalize Lib.Hx.digit (s[k].toNat % 16) = d2 at *
        go_wp2_with fail
        go_region_held3 (fun w' => True) (trivial) (first
          | (go_at_call 218; (with_reducible refine (HF1.out _).mono ?_); rintro e w1 ⟨rfl, rfl⟩)
          | (go_at_call 218; (with_reducible refine (HF2.out _).mono ?_); rintro e w1 ⟨rfl, rfl⟩)
          | (refine step_append_own2 _ (by rfl) _ _ _ (by rfl) w.heap.size 5 i0 _ 1 1 Tryz.underlying22 HI.out HZ.out.1 HZ.out.2.1 HZ.out.2.2 rfl (by decide) _ _ _ (by rfl) (show World.ownsRow _ _ _ _ _ _ _ from HW.out.alloc _) ⟨wr.heap.size, 0, none⟩ 2 2 [.int .u8 (d1.toNat : Int), .int .u8 (d2.toNat : Int)] (by rfl) (by rfl) (box_news (Box.new _ _ _)) (by intro u hu; simp at hu; rcases hu with rfl | rfl <;> rfl) (by unfold maxLen; omega) (by omega) (by have := hb.size; simp; omega) ?_; intro v' w' o2 g2 or2))
        all_goals
          have h := OwnStep.fresh (w := w) (W := (wr.alloc (.cells #[.int .u8 (d1.toNat : Int), .int .u8 (d2.toNat : Int)] 5)).drew) (e := .returned v') (w' := w') ((by repeat (first | exact Below.refl _ _ | refine Below.drew ?_ | refine below_drewN ?_ _ | refine Below.allocC ?_ _ | refine Below.setCell ?_ (by first | (simp; done) | (simp; omega)) _ | refine Below.chain ?_ (by assumption)))) (show World.ownsRow _ _ _ _ _ _ _ from HW.out.alloc _) ⟨v', rfl, o2, g2, or2⟩
          have B2 := Lib.hid (show Below w.heap.size w w' by obtain ⟨_, _, _, h⟩ := h; exact h)
          have HW2 := Lib.hid (show w'.ownsRow w.heap.size 5 1 v' (2 * (k + 1)) ((Lib.Hx.encode (s.data.toList.take (k + 1))).flatMap encB) from by
            rw [HS.out, List.flatMap_append]; exact o2)
          clear o2 g2 or2 h HW
          go_wp2
          go_roundw
          case rel => exact ⟨k + 1, by omega, by go_num, HW2, B2.out⟩
          case measure => simp [intOf]; omega
      · obtain rfl : k = s.size := by omega
        have p2 : ¬ (s.size : Int) < (s.size : Int) := by omega
        rw [List.take_of_length_le (by simp)] at HW
        have hl : (Lib.Hx.encode s.data.toList).length = 2 * s.size := by rw [Lib.Hx.encode_length]; simp
        obtain ⟨E, hE⟩ : ∃ E, E = Lib.Hx.encode s.data.toList := ⟨_, rfl⟩
        rw [← hE] at HW hl
        have hcv : (convert 22 9 u4).run Tryz.prog wr = .ok (.string (hexS s)) wr := by
          have hx : hexS s = ⟨E.toArray⟩ := by rw [hE]; rfl
          rw [hx]
          rcases HW.out.2 with ⟨rfl, h0⟩ | ⟨g, cap, cur, rfl, _, hg, _⟩
          · have : E = [] := List.eq_nil_of_length_eq_zero (by omega)
            subst this
            rfl
          · rw [← hl]
            refine run_convert_bytes_back wr _ _ 5 ⟨g, 0, none⟩ cap E Tryz.underlying22 Tryz.underlying5 Tryz.underlying9 (fun j hj => ?_)
            have hx := getElem_flatMap encB_len E j 0 E[j] (List.getElem?_eq_getElem hj) (by decide)
            rw [Nat.mul_one, Nat.add_zero] at hx
            exact HW.out.cells (g := g) rfl j _ hx
        clear hE hl HW
        go_wp2
        go_ret2
        exact ⟨by rw [HV.out.1, HV.out.2]; rfl, hb⟩
  · have p : (20000 : Int) < (s.size : Int) := by omega
    have HV := Lib.hid (hex_no (Nat.not_le.1 h))
    clear h
    go_enter Tryz.func185, Tryz.ntmps185
    go_wp2
    go_ret2
    exact ⟨by rw [HV.out.1, HV.out.2]; rfl, (by repeat (first | exact Below.refl _ _ | refine Below.drew ?_ | refine below_drewN ?_ _ | refine Below.allocC ?_ _ | refine Below.setCell ?_ (by first | (simp; done) | (simp; omega)) _ | refine Below.chain ?_ (by assumption)))⟩
set_option maxRecDepth 100000 in
/-- A row of bytes turned to a string. -/
theorem convB (wr : World) (base _T : Nat) (v : Value) (E : List UInt8) (n : Nat) (hn : n = E.length) (HW : wr.ownsRow base 5 1 v n (E.flatMap encB)) :
    (convert 22 9 v).run Tryz.prog wr = .ok (.string ⟨E.toArray⟩) wr := by
  rcases HW.2 with ⟨rfl, h0⟩ | ⟨g, cap, cur, rfl, _, hg, _⟩
  · have : E = [] := List.eq_nil_of_length_eq_zero (by omega)
    subst this
    rfl
  · subst hn
    refine run_convert_bytes_back wr _ _ 5 ⟨g, 0, none⟩ cap E Tryz.underlying22 Tryz.underlying5 Tryz.underlying9 (fun j hj => ?_)
    have hx := getElem_flatMap encB_len E j 0 E[j] (List.getElem?_eq_getElem hj) (by decide)
    rw [Nat.mul_one, Nat.add_zero] at hx
    exact HW.cells (g := g) rfl j _ hx
end Go.Proofs.YtihghflppegnmaaGreatDoor
namespace Go.Proofs.YtihghflppegnmaaGreatDoor
open Go.RowKit
attribute [local go_sem ↓] Go.wp_at_zero Go.wp_at_succ
def markLoop (n : Nat) (s : ByteArray) : ByteArray := if n = 0 then s else markLoop (n / 10) (⟨#[UInt8.ofNat (48 + n % 10)]⟩ ++ s)
termination_by n
decreasing_by omega
theorem markLoop_zero (s : ByteArray) : markLoop 0 s = s := by unfold markLoop; simp
theorem markLoop_step {n : Nat} (h : 0 < n) (s : ByteArray) : markLoop n s = markLoop (n / 10) (⟨#[UInt8.ofNat (48 + n % 10)]⟩ ++ s) := by
  rw [markLoop, if_neg (by omega)]
/-- The letter m and the digits of k. -/
def markT (k : Nat) : ByteArray := ⟨#[109]⟩ ++ markLoop k ByteArray.empty

set_option maxHeartbeats 2000000 in
theorem markText_c (k : Nat) (w : World) (h0 : 0 < k) (h1 : k ≤ 1000000000) :
    Calls Tryz.prog 78 #[.int .i64 k] w fun e w' => e = .returned (.string (markT k)) ∧ Below w.heap.size w w' := by
  have p0 : ¬ (k : Int) ≤ 0 := by omega
  go_enter Tryz.func78, Tryz.ntmps78
  go_wp2
  go_loopw [0, 3] (fun i s wr => ∃ (n : Nat) (t : ByteArray), i = .int .i64 n ∧ s = .string t ∧ t.size + n ≤ k ∧ Hid (markLoop n t = markLoop k ByteArray.empty) ∧ Below w.heap.size w wr) (fun i _ _ => (intOf i).toNat)
  case atStart => exact ⟨k, ByteArray.empty, rfl, rfl, by simp, Lib.hid rfl, (by repeat (first | exact Below.refl _ _ | refine Below.drew ?_ | refine below_drewN ?_ _ | refine Below.allocC ?_ _ | refine Below.setCell ?_ (by first | (simp; done) | (simp; omega)) _ | refine Below.chain ?_ (by assumption)))⟩
  case round =>
    obtain ⟨n, t, rfl, rfl, hn, HE, hb⟩ := hrel
    by_cases hpos : 0 < n
    · have p1 : (0 : Int) < (n : Int) := by omega
      have HS := Lib.hid (markLoop_step hpos t)
      have hd : n % 10 < 10 := Nat.mod_lt _ (by omega)
      have hcv := run_convert_bytes_back (P := Tryz.prog) (wr.alloc (.cells #[.int .u8 (48 + (n : Int) % 10)] 5)) 22 9 5 ⟨wr.heap.size, 0, none⟩ 1 [UInt8.ofNat (48 + n % 10)] Tryz.underlying22 Tryz.underlying5 Tryz.underlying9 (by
        intro j hj
        have hj1 : j < 1 := hj
        obtain rfl : j = 0 := by omega
        have e1 : ((UInt8.ofNat (48 + n % 10)).toNat : Int) = 48 + (n : Int) % 10 := by
          rw [UInt8.toNat_ofNat', Nat.mod_eq_of_lt (by omega)]; omega
        show _ = some (Value.int .u8 ((UInt8.ofNat (48 + n % 10)).toNat : Int))
        rw [e1, add_none]
        exact (Box.new wr [.int .u8 (48 + (n : Int) % 10)] 5).cell 0 _ rfl)
      simp only [List.length_singleton] at hcv
      generalize hch : UInt8.ofNat (48 + n % 10) = ch at hcv HS
      have hsz : ([ch].toArray.size : Nat) = 1 := rfl
      have q1 : (⟨#[ch]⟩ : ByteArray).size = 1 := rfl
      have q2 : t.size ≤ 1000000000 := by omega
      have q3 : ((⟨#[ch]⟩ ++ t : ByteArray).size : Nat) = 1 + t.size := by rw [ByteArray.size_append]; rfl
      clear hch hd
      go_wp2
      go_roundw
      case rel => exact ⟨n / 10, ⟨#[ch]⟩ ++ t, by go_num, rfl, by rw [q3]; omega, Lib.hid (HS.out.symm.trans HE.out), (by repeat (first | exact Below.refl _ _ | refine Below.drew ?_ | refine below_drewN ?_ _ | refine Below.allocC ?_ _ | refine Below.setCell ?_ (by first | (simp; done) | (simp; omega)) _ | refine Below.chain ?_ (by assumption)))⟩
      case measure => simp [intOf]; omega
    · have hz : n = 0 := by omega
      subst hz
      have p1 : ¬ (0 : Int) < ((0 : Nat) : Int) := by omega
      have HM : Hid (markT k = ⟨#[109]⟩ ++ t) := Lib.hid (by unfold markT; rw [← HE.out, markLoop_zero])
      have q2 : t.size ≤ 1000000000 := by omega
      go_wp2
      go_ret
      exact ⟨by rw [HM.out]; rfl, (by repeat (first | exact Below.refl _ _ | refine Below.drew ?_ | refine below_drewN ?_ _ | refine Below.allocC ?_ _ | refine Below.setCell ?_ (by first | (simp; done) | (simp; omega)) _ | refine Below.chain ?_ (by assumption)))⟩
end Go.Proofs.YtihghflppegnmaaGreatDoor
namespace Go.Proofs.YtihghflppegnmaaGreatDoor
open Go.RowKit
attribute [local go_sem ↓] Go.wp_at_zero Go.wp_at_succ
/-- The n marks from k on. -/
def marks (k n : Nat) : List ByteArray := (List.range n).map (fun j => markT (k + j))
theorem marks_len (k n : Nat) : (marks k n).length = n := by simp [marks]
theorem marks_succ (k n : Nat) : marks k (n + 1) = marks k n ++ [markT (k + n)] := by simp [marks, List.range_succ]
theorem marks_get {k n j : Nat} (h : j < n) : (marks k n)[j]? = some (markT (k + j)) := by simp [marks, h]
theorem marks_flat (k n : Nat) : ((marks k n).flatMap encS).length = n := by rw [length_flatMap_const encS_len, marks_len, Nat.mul_one]
/-- A row of which the first cells are 'done' and that is the caller's own. -/
theorem Filling.owned {w : World} {b e K n cap base : Nat} {done : List Value} (h : Filling w b e K cap done) (hd : done.length = n * K) (hb : base ≤ b) (hn : n ≤ cap) (hc : cap ≤ maxLen) : w.ownsRow base e K (.slice (some ⟨b, 0, none⟩) n cap) n done := by
  obtain ⟨cur, h1, h2, h3⟩ := h
  exact ⟨hd, .inr ⟨b, cap, cur, rfl, hb, h1, hn, hc, h2, by rw [← hd]; exact h3⟩⟩

/-- Behind marking: the value holds the marks, and nothing else that was there is written. -/
def MarkedS (T k n : Nat) (v : Value) (base : Nat) (w : World) (e : Ending) (w' : World) : Prop :=
  e = .returned (.int .i64 ((k + n : Nat) : Int)) ∧ w'.ownsRow base T 1 v n ((marks k n).flatMap encS) ∧ w.grownBy w' v.ownBlock

set_option maxRecDepth 100000 in
set_option maxHeartbeats 3200000 in
theorem markStringS_c (v : Value) (base n k : Nat) (cells : List Value) (w : World) (hk : 0 < k) (hn : k + n ≤ 1000000000) (ho : w.ownsRow base 9 1 v n cells) :
    Calls Tryz.prog 79 #[v, .int .i64 k] w (MarkedS 9 k n v base w) := by
  rcases ho.2 with ⟨rfl, rfl⟩ | ⟨g, cap, cur, rfl, hb, h1, h2, h3, h4, h5⟩
  · have HO := Lib.hid (show w.ownsRow base 9 1 (.slice none 0 0) 0 ((marks k 0).flatMap encS) from ⟨by simp [marks], .inl ⟨rfl, rfl⟩⟩)
    clear ho
    go_enter Tryz.func79, Tryz.ntmps79
    go_wp2
    go_loopw [1, 5] (fun q i wr => q = .int .i64 k ∧ i = .int .i64 0 ∧ wr = w) (fun _ _ _ => 0)
    case atStart => exact ⟨rfl, rfl, rfl⟩
    case round =>
      obtain ⟨rfl, rfl, rfl⟩ := hrel
      go_wp2
      go_ret
      exact ⟨rfl, HO.out, grownBy_refl _ _⟩
  · have F0 : Filling w g 9 1 cap ((marks k 0).flatMap encS) := ⟨cur, h1, h4, by simp [marks]⟩
    have HF0 := Lib.hid F0
    have HB := Lib.hid hb
    have H2 := Lib.hid h2
    have H3 := Lib.hid h3
    have hcap : n ≤ cap := h2
    have hnm : n ≤ 1000000000 := by omega
    clear h1 h2 h3 h4 h5 ho F0 hb
    go_enter Tryz.func79, Tryz.ntmps79
    go_wp2
    go_loopw [1, 5] (fun q i wr => ∃ m : Nat, m ≤ n ∧ q = .int .i64 ((k + m : Nat) : Int) ∧ i = .int .i64 m ∧ Hid (Filling wr g 9 1 cap ((marks k m).flatMap encS)) ∧ Hid (w.grownBy wr (some g))) (fun _ i _ => n - (intOf i).toNat)
    case atStart => exact ⟨0, Nat.zero_le _, rfl, rfl, HF0, Lib.hid (grownBy_refl _ _)⟩
    case round =>
      obtain ⟨m, hm, rfl, rfl, HF, HG⟩ := hrel
      by_cases hlt : m < n
      · have p1 : (0 : Int) ≤ (m : Int) := by omega
        have p2 : (m : Int) < (n : Int) := by omega
        have hK := Lib.hid (markText_c (k + m) wr (by omega) (by omega))
        go_wp2_with fail
        refine hK.out.mono ?_
        rintro e w1 ⟨rfl, hb1⟩
        have F1 := HF.out.below hb1
        have F2 := F1.stores [.string (markT (k + m))] m (marks_flat k m).symm (by rw [marks_flat]; simp; omega)
        have H3' := Lib.hid (show Filling (sets w1 g m [.string (markT (k + m))]) g 9 1 cap ((marks k (m + 1)).flatMap encS) by rw [marks_succ, List.flatMap_append]; exact F2)
        have HG2 := Lib.hid (grownBy_trans (grownBy_trans HG.out (grownBy_of_below hb1 (some g))) (sets_grown [.string (markT (k + m))] w1 g m))
        have f0 := F1.free m
        obtain ⟨o0, z0⟩ := F1.cell m (by omega)
        clear F1 F2
        go_wp2
        go_roundw
        case rel => exact ⟨m + 1, by omega, by go_num, by go_num, H3', HG2⟩
        case measure => simp [intOf]; omega
      · obtain rfl : m = n := by omega
        have HO := Lib.hid (HF.out.owned (n := m) (base := base) (by rw [marks_flat, Nat.mul_one]) HB.out H2.out H3.out)
        have p2 : ¬ (m : Int) < (m : Int) := by omega
        go_wp2
        go_ret
        exact ⟨rfl, HO.out, HG.out⟩

set_option maxRecDepth 100000 in
set_option maxHeartbeats 3200000 in
theorem heldStringS_c (a : Option Addr) (cap n k : Nat) (w : World) (hk : 0 < k) (hn : k + n ≤ 1000000000) (hr : Reads w a 1 encS (marks k n)) :
    Calls Tryz.prog 80 #[.slice a n cap, .int .i64 k] w fun e w' => e = .returned (.int .i64 ((k + n : Nat) : Int)) ∧ Below w.heap.size w w' := by
  have HR := Lib.hid hr
  clear hr
  go_enter Tryz.func80, Tryz.ntmps80
  go_wp2
  go_loopw [1, 5] (fun q i wr => ∃ m : Nat, m ≤ n ∧ q = .int .i64 ((k + m : Nat) : Int) ∧ i = .int .i64 m ∧ Below w.heap.size w wr) (fun _ i _ => n - (intOf i).toNat)
  case atStart => exact ⟨0, Nat.zero_le _, rfl, rfl, (by repeat (first | exact Below.refl _ _ | refine Below.drew ?_ | refine below_drewN ?_ _ | refine Below.allocC ?_ _ | refine Below.setCell ?_ (by first | (simp; done) | (simp; omega)) _ | refine Below.chain ?_ (by assumption)))⟩
  case round =>
    obtain ⟨m, hm, rfl, rfl, hb⟩ := hrel
    by_cases hlt : m < n
    · have p1 : (0 : Int) ≤ (m : Int) := by omega
      have p2 : (m : Int) < (n : Int) := by omega
      obtain ⟨b, off, hab, c0⟩ := readFS HR.out hb (marks_get (k := k) hlt)
      subst hab
      have hK := Lib.hid (fun W => markText_c (k + m) W (by omega) (by omega))
      generalize markT (k + m) = x at *
      go_wp2_with fail
      go_region_held3 (fun w' => w'.cell? ⟨b, off + m, none⟩ = some (.string x)) ((go_split_ands; (repeat' apply And.intro) <;> first | assumption | exact keepS (by assumption) (by assumption))) (first | (go_at_call 78; refine (hK.out _).mono ?_; rintro e w1 ⟨rfl, hb1⟩))
      go_wp2
      go_roundw
      case rel => exact ⟨m + 1, by omega, by go_num, by go_num, (by repeat (first | exact Below.refl _ _ | refine Below.drew ?_ | refine below_drewN ?_ _ | refine Below.allocC ?_ _ | refine Below.setCell ?_ (by first | (simp; done) | (simp; omega)) _ | refine Below.chain ?_ (by assumption)))⟩
      case measure => simp [intOf]; omega
    · obtain rfl : m = n := by omega
      have p2 : ¬ (m : Int) < (m : Int) := by omega
      go_wp2
      go_ret
      exact ⟨rfl, hb⟩
end Go.Proofs.YtihghflppegnmaaGreatDoor
namespace Go.Proofs.YtihghflppegnmaaGreatDoor
open Go.RowKit
theorem own_keep {W w' : World} {base T K n : Nat} {v u : Value} {cells : List Value} (h : W.ownsRow base T K v n cells) (hg : W.grownBy w' u.ownBlock) (hne : ∀ b, v.ownBlock = some b → u.ownBlock = some b → False) : w'.ownsRow base T K v n cells :=
  h.kept hg (by
    cases hv : v.ownBlock with
    | none => simp
    | some b => simp; intro hu; exact hne b hv hu.symm)
theorem reads_marks {w : World} {base T n k cap : Nat} {a : Option Addr} (h : w.ownsRow base T 1 (.slice a n cap) n ((marks k n).flatMap encS)) : Reads w a 1 encS (marks k n) := by
  have h' : w.ownsRow base T 1 (.slice a n cap) (marks k n).length ((marks k n).flatMap encS) := by rw [marks_len]; exact h
  obtain ⟨_, _, e, r⟩ := reads_of_owns encS_len h'
  simp only [Value.slice.injEq] at e
  obtain ⟨rfl, _, rfl⟩ := e
  exact r
theorem below_of_own {w W w' : World} {T K n : Nat} {v : Value} {cells : List Value} (hb : Below w.heap.size w W) (ho : W.ownsRow w.heap.size T K v n cells) (hg : W.grownBy w' v.ownBlock) : Below w.heap.size w w' := by
  rcases ho.2 with ⟨rfl, _⟩ | ⟨g, cap, cur, rfl, hge, _⟩
  · exact hb.trans ⟨hg.os, hg.tape, hg.output, hg.size, fun k hk => hg.block k (Nat.lt_of_lt_of_le hk hb.size) (by simp [Value.ownBlock])⟩
  · exact hb.trans (below_of_grown hg hge hb.size)
theorem tab_below {P : Program} {w W : World} {name : String} {k : IntKind} {zs : List Int} (h : Lib.TabIs P w name k zs) (hb : Below w.heap.size w W) : Lib.TabIs P W name k zs := by
  unfold Lib.TabIs World.var? at *
  cases hg : P.globalNamed name with
  | none => simp [hg] at h
  | some g =>
    simp only [hg, Option.bind_some] at h ⊢
    have hlt : g < w.heap.size := by
      rcases Nat.lt_or_ge g w.heap.size with h' | h'
      · exact h'
      · simp [Array.getElem?_eq_none h'] at h
    rw [hb.block g hlt]
    exact h
end Go.Proofs.YtihghflppegnmaaGreatDoor
namespace Go.Proofs.YtihghflppegnmaaGreatDoor
open Go.RowKit
attribute [local go_sem ↓] Go.wp_at_zero Go.wp_at_succ
def decS (n : Int) : ByteArray := ⟨(Lib.itoa n).toArray⟩
theorem dec_len : ∀ (k u : Nat), 0 < k → u < 10 ^ k → (Lib.decDigits u).length ≤ k
  | 0, _, h, _ => absurd h (Nat.lt_irrefl _)
  | k + 1, u, _, h => by
    rw [Lib.decDigits]
    split
    · simp
    · rename_i hu
      have hk : 0 < k := by
        rcases Nat.eq_zero_or_pos k with rfl | h'
        · simp at h; omega
        · exact h'
      have := dec_len k (u / 10) hk (by rw [Nat.pow_succ] at h; omega)
      simp; omega
theorem dec_one {u : Nat} (h : u < 10) : Lib.decDigits u = [UInt8.ofNat (48 + u)] := by rw [Lib.decDigits, dif_pos h]
theorem dec_more {u : Nat} (h : ¬ u < 10) : Lib.decDigits u = Lib.decDigits (u / 10) ++ [UInt8.ofNat (48 + u % 10)] := by rw [Lib.decDigits, dif_neg h]
/-- The numeral of m; nothing for 0. -/
def decHead (m : Nat) : List UInt8 := if m = 0 then [] else Lib.decDigits m
theorem decHead_step {m : Nat} (h : 0 < m) : decHead m = decHead (m / 10) ++ [UInt8.ofNat (48 + m % 10)] := by
  unfold decHead
  rw [if_neg (by omega)]
  by_cases h1 : m < 10
  · rw [dec_one h1, if_pos (by omega)]
    simp [Nat.mod_eq_of_lt h1]
  · rw [dec_more h1, if_neg (by omega)]
theorem decS_size (n : Int) (h0 : -9223372036854775808 ≤ n) (h1 : n ≤ 9223372036854775807) : (decS n).size ≤ 20 := by
  show (Lib.itoa n).toArray.size ≤ 20
  rw [List.size_toArray]
  unfold Lib.itoa
  split
  · have := dec_len 19 n.natAbs (by decide) (by omega)
    simp; omega
  · have := dec_len 19 n.toNat (by decide) (by omega)
    omega
theorem figD_c (d : Nat) (w : World) (h : d < 10) : Calls Tryz.prog 218 #[.int .i64 (d : Int)] w fun e w' => e = .returned (.int .u8 (48 + (d : Int))) ∧ w = w' := by
  have p0 : (0 : Int) ≤ (d : Int) := by omega
  have p1 : (d : Int) < 10 := by omega
  go_enter Tryz.func218, Tryz.ntmps218
  go_wp2
  go_ret
  exact ⟨rfl, rfl⟩
theorem pow_bound {t m u : Nat} (h : m * 10 ^ t ≤ u) (hm : 0 < m) (hu : u < 10 ^ 19) : t ≤ 18 := by
  rcases Nat.lt_or_ge t 19 with h1 | h1
  · omega
  · have h2 : 10 ^ 19 ≤ 10 ^ t := Nat.pow_le_pow_right (by decide) h1
    have h3 : 1 * 10 ^ t ≤ m * 10 ^ t := Nat.mul_le_mul_right _ hm
    omega
theorem pow_step {t m u : Nat} (h : m * 10 ^ t ≤ u) : m / 10 * 10 ^ (t + 1) ≤ u := by
  rw [Nat.pow_succ]
  have : m / 10 * 10 ≤ m := Nat.div_mul_le_self m 10
  calc m / 10 * (10 ^ t * 10) = (m / 10 * 10) * 10 ^ t := by rw [Nat.mul_comm (10 ^ t) 10, Nat.mul_assoc]
    _ ≤ m * 10 ^ t := Nat.mul_le_mul_right _ this
    _ ≤ u := h
theorem conv1 (wr : World) (ch : UInt8) (x : Int) (hx : (ch.toNat : Int) = x) : (convert 22 9 (.slice (some ⟨wr.heap.size, 0, none⟩) 1 1)).run Tryz.prog (wr.alloc (.cells #[.int .u8 x] 5)) = .ok (.string ⟨#[ch]⟩) (wr.alloc (.cells #[.int .u8 x] 5)) := by
  have := run_convert_bytes_back (P := Tryz.prog) (wr.alloc (.cells #[.int .u8 x] 5)) 22 9 5 ⟨wr.heap.size, 0, none⟩ 1 [ch] Tryz.underlying22 Tryz.underlying5 Tryz.underlying9 (by
    intro j hj
    have hj1 : j < 1 := hj
    obtain rfl : j = 0 := by omega
    show _ = some (Value.int .u8 (ch.toNat : Int))
    rw [hx, add_none]
    exact (Box.new wr [.int .u8 x] 5).cell 0 _ rfl)
  simpa using this
theorem ofNat_dig (d : Nat) (h : d < 10) : ((UInt8.ofNat (48 + d)).toNat : Int) = 48 + (d : Int) := by
  rw [UInt8.toNat_ofNat', Nat.mod_eq_of_lt (by omega)]; omega

set_option maxHeartbeats 4000000 in
theorem specDecimal_pos (u : Nat) (w : World) (h0 : 0 < u) (h1 : u ≤ 9223372036854775807) :
    Calls Tryz.prog 199 #[.int .i64 (u : Int)] w fun e w' => e = .returned (.string (decS (u : Int))) ∧ Below w.heap.size w w' := by
  have pz : ((u : Int) == 0) = false := beq_eq_false_iff_ne.2 (by omega)
  have pz2 : ((u : Int) != 0) = true := by simp; omega
  have pn : ¬ (u : Int) < 0 := by omega
  have HF := Lib.hid (show decS (u : Int) = ⟨(decHead u).toArray⟩ by
    unfold decS decHead Lib.itoa
    rw [if_neg (by omega), if_neg (by omega)]; simp)
  clear pz2
  go_enter Tryz.func199, Tryz.ntmps199
  go_wp2
  go_loopw [0, 4] (fun i s wr => ∃ (m : Nat) (t : ByteArray), i = .int .i64 m ∧ s = .string t ∧ m ≤ u ∧ t.size ≤ 19 ∧ Hid (m * 10 ^ t.size ≤ u) ∧ Hid (decHead u = decHead m ++ t.data.toList) ∧ Below w.heap.size w wr) (fun i _ _ => (intOf i).toNat)
  case atStart => exact ⟨u, ByteArray.empty, rfl, rfl, Nat.le_refl _, by simp, Lib.hid (by simp), Lib.hid (by simp), (by repeat (first | exact Below.refl _ _ | refine Below.drew ?_ | refine below_drewN ?_ _ | refine Below.allocC ?_ _ | refine Below.setCell ?_ (by first | (simp; done) | (simp; omega)) _ | refine Below.chain ?_ (by assumption)))⟩
  case round =>
    obtain ⟨m, t, rfl, rfl, hm, ht, HP, HE, hb⟩ := hrel
    by_cases hpos : 0 < m
    · have q1 : ((m : Int) == 0) = false := beq_eq_false_iff_ne.2 (by omega)
      have q2 : ((m : Int) != 0) = true := by simp; omega
      have q0 : (0 : Int) ≤ (m : Int) := by omega
      have q3 : (m : Int) ≤ 9223372036854775807 := by omega
      have hd : m % 10 < 10 := Nat.mod_lt _ (by omega)
      have hd0 : (0 : Int) ≤ (m : Int) % 10 := by omega
      have hd1 : ¬ (m : Int) % 10 < 0 := by omega
      have ht18 := pow_bound HP.out hpos (by omega)
      have K := Lib.hid (show ∀ W, Calls Tryz.prog 218 #[.int .i64 ((m : Int) % 10)] W fun e w' => e = .returned (.int .u8 (48 + (m : Int) % 10)) ∧ W = w' from fun W => by
        have := figD_c (m % 10) W hd
        rwa [show ((m % 10 : Nat) : Int) = (m : Int) % 10 by omega] at this)
      obtain ⟨ch, hch⟩ : ∃ ch, UInt8.ofNat (48 + m % 10) = ch := ⟨_, rfl⟩
      have hcv := conv1 wr ch (48 + (m : Int) % 10) (by rw [← hch, ofNat_dig _ hd]; omega)
      have HS := Lib.hid (show decHead u = decHead (m / 10) ++ (⟨#[ch]⟩ ++ t : ByteArray).data.toList from by
        rw [HE.out, decHead_step hpos, hch, ByteArray.data_append, Array.toList_append, List.append_assoc])
      have HP2 := Lib.hid (pow_step HP.out)
      have hsz : ((⟨#[ch]⟩ ++ t : ByteArray).size : Nat) = t.size + 1 := by rw [ByteArray.size_append, Nat.add_comm]; rfl
      have HSZ := Lib.hid hsz
      have q4 : (⟨#[ch]⟩ : ByteArray).size = 1 := rfl
      clear hch hd hsz
      go_wp2_with fail
      refine (K.out _).mono ?_
      rintro e w1 ⟨rfl, rfl⟩
      go_wp2
      go_roundw
      case rel => exact ⟨m / 10, ⟨#[ch]⟩ ++ t, by go_num, rfl, by omega, by rw [HSZ.out]; omega, by rw [HSZ.out]; exact HP2, HS, (by repeat (first | exact Below.refl _ _ | refine Below.drew ?_ | refine below_drewN ?_ _ | refine Below.allocC ?_ _ | refine Below.setCell ?_ (by first | (simp; done) | (simp; omega)) _ | refine Below.chain ?_ (by assumption)))⟩
      case measure => simp [intOf]; omega
    · have hz : m = 0 := by omega
      subst hz
      have HX := Lib.hid (show decS (u : Int) = t from by rw [HF.out, HE.out]; simp [decHead])
      have q1 : (((0 : Nat) : Int) == 0) = true := rfl
      go_wp2
      go_ret
      exact ⟨by rw [HX.out]; rfl, hb⟩

set_option maxHeartbeats 4000000 in
theorem specDecimal_neg (u : Nat) (w : World) (h0 : 0 < u) (h1 : u ≤ 9223372036854775808) :
    Calls Tryz.prog 199 #[.int .i64 (-(u : Int))] w fun e w' => e = .returned (.string (decS (-(u : Int)))) ∧ Below w.heap.size w w' := by
  have pz : (-(u : Int) == 0) = false := beq_eq_false_iff_ne.2 (by omega)
  have HF := Lib.hid (show decS (-(u : Int)) = ⟨#[45]⟩ ++ ⟨(decHead u).toArray⟩ by
    unfold decS decHead Lib.itoa
    rw [if_pos (by omega), if_neg (by omega), show (-(u : Int)).natAbs = u by omega]
    apply ByteArray.ext
    rw [ByteArray.data_append]
    simp)
  obtain ⟨n, hn⟩ : ∃ n : Int, -(u : Int) = n := ⟨_, rfl⟩
  have HN := Lib.hid hn
  have pn : n < 0 := by omega
  rw [hn] at pz HF ⊢
  clear hn
  go_enter Tryz.func199, Tryz.ntmps199
  go_wp2
  go_loopw [0, 4] (fun i s wr => ∃ (m : Nat) (x : Int) (t : ByteArray), i = .int .i64 x ∧ x = -(m : Int) ∧ s = .string t ∧ m ≤ u ∧ t.size ≤ 19 ∧ Hid (m * 10 ^ t.size ≤ u) ∧ Hid (decHead u = decHead m ++ t.data.toList) ∧ Below w.heap.size w wr) (fun i _ _ => (-(intOf i)).toNat)
  case atStart => exact ⟨u, n, ByteArray.empty, rfl, HN.out.symm, rfl, Nat.le_refl _, by simp, Lib.hid (by simp), Lib.hid (by simp), (by repeat (first | exact Below.refl _ _ | refine Below.drew ?_ | refine below_drewN ?_ _ | refine Below.allocC ?_ _ | refine Below.setCell ?_ (by first | (simp; done) | (simp; omega)) _ | refine Below.chain ?_ (by assumption)))⟩
  case round =>
    obtain ⟨m, x, t, rfl, hx, rfl, hm, ht, HP, HE, hb⟩ := hrel
    by_cases hpos : 0 < m
    · have q1 : (x == 0) = false := beq_eq_false_iff_ne.2 (by omega)
      have q2 : (x != 0) = true := by simp; omega
      have hd : m % 10 < 10 := Nat.mod_lt _ (by omega)
      obtain ⟨y, hy⟩ : ∃ y : Int, x.tmod 10 = y := ⟨_, rfl⟩
      obtain ⟨z, hz⟩ : ∃ z : Int, x.tdiv 10 = z := ⟨_, rfl⟩
      have hyd : y = -((m % 10 : Nat) : Int) := by rw [← hy, hx, Int.neg_tmod, Int.tmod_eq_emod_of_nonneg (by omega)]; omega
      have hzd : z = -((m / 10 : Nat) : Int) := by rw [← hz, hx, Int.neg_tdiv, Int.tdiv_eq_ediv_of_nonneg (by omega)]; omega
      have hzw : IntKind.i64.wrap z = z := by rw [IntKind.wrap_i64]; omega
      have HX := Lib.hid hx
      have HZ := Lib.hid hzd
      have ht18 := pow_bound HP.out hpos (by omega)
      obtain ⟨d, hdd⟩ : ∃ d : Nat, m % 10 = d := ⟨_, rfl⟩
      rw [hdd] at hd hyd
      have K := Lib.hid (fun W => figD_c d W hd)
      obtain ⟨ch, hch⟩ : ∃ ch, UInt8.ofNat (48 + d) = ch := ⟨_, rfl⟩
      have hcv := conv1 wr ch (48 + (d : Int)) (by rw [← hch, ofNat_dig _ hd])
      have HCH := Lib.hid hch
      have HS := Lib.hid (show decHead u = decHead (m / 10) ++ (⟨#[ch]⟩ ++ t : ByteArray).data.toList from by
        rw [HE.out, decHead_step hpos, hdd, hch, ByteArray.data_append, Array.toList_append, List.append_assoc])
      have HP2 := Lib.hid (pow_step HP.out)
      have hsz : ((⟨#[ch]⟩ ++ t : ByteArray).size : Nat) = t.size + 1 := by rw [ByteArray.size_append, Nat.add_comm]; rfl
      have HSZ := Lib.hid hsz
      have q4 : (⟨#[ch]⟩ : ByteArray).size = 1 := rfl
      have hmd : m / 10 ≤ u := by omega
      have hml : m / 10 < m := by omega
      clear hch hsz hdd hzd hm
      have pd0 : (0 : Int) ≤ (d : Int) := by omega
      have pd1 : (d : Int) ≤ 9 := by omega
      by_cases hd0 : d = 0
      · subst hd0
        have hy0 : y = 0 := by omega
        subst hy0
        have K0 := Lib.hid (show ∀ W, Calls Tryz.prog 218 #[.int .i64 0] W fun e w' => e = .returned (.int .u8 48) ∧ W = w' from fun W => by simpa using figD_c 0 W (by omega))
        have hcv0 := conv1 wr ch 48 (by rw [← HCH.out]; exact ofNat_dig 0 (by omega))
        clear hyd hx K hcv
        go_wp2_with fail
        refine (K0.out _).mono ?_
        rintro e w1 ⟨rfl, rfl⟩
        go_wp2
        go_roundw
        case rel => exact ⟨m / 10, z, ⟨#[ch]⟩ ++ t, rfl, HZ.out, rfl, hmd, by rw [HSZ.out]; omega, by rw [HSZ.out]; exact HP2, HS, (by repeat (first | exact Below.refl _ _ | refine Below.drew ?_ | refine below_drewN ?_ _ | refine Below.allocC ?_ _ | refine Below.setCell ?_ (by first | (simp; done) | (simp; omega)) _ | refine Below.chain ?_ (by assumption)))⟩
        case measure => simp [intOf]; have := HX.out; have := HZ.out; omega
      · have hyn : y < 0 := by omega
        have hyneg : -y = (d : Int) := by omega
        have hyw : IntKind.i64.wrap (-y) = (d : Int) := by rw [IntKind.wrap_i64]; omega
        clear hyd hx hd0
        go_wp2_with fail
        refine (K.out _).mono ?_
        rintro e w1 ⟨rfl, rfl⟩
        go_wp2
        go_roundw
        case rel => exact ⟨m / 10, z, ⟨#[ch]⟩ ++ t, rfl, HZ.out, rfl, hmd, by rw [HSZ.out]; omega, by rw [HSZ.out]; exact HP2, HS, (by repeat (first | exact Below.refl _ _ | refine Below.drew ?_ | refine below_drewN ?_ _ | refine Below.allocC ?_ _ | refine Below.setCell ?_ (by first | (simp; done) | (simp; omega)) _ | refine Below.chain ?_ (by assumption)))⟩
        case measure => simp [intOf]; have := HX.out; have := HZ.out; omega
    · have hz : m = 0 := by omega
      subst hz
      have hx0 : x = 0 := by omega
      subst hx0
      have hth : t.size ≤ 20 := by omega
      have HXX := Lib.hid (show decS n = ⟨#[45]⟩ ++ t from by rw [HF.out, HE.out]; simp [decHead])
      have q4 : (⟨#[45]⟩ : ByteArray).size = 1 := rfl
      clear hx
      go_wp2
      go_ret
      exact ⟨by rw [HXX.out]; rfl, hb⟩

theorem specDecimal_c (n : Int) (w : World) (h0 : -9223372036854775808 ≤ n) (h1 : n ≤ 9223372036854775807) :
    Calls Tryz.prog 199 #[.int .i64 n] w fun e w' => e = .returned (.string (decS n)) ∧ Below w.heap.size w w' := by
  rcases Int.lt_trichotomy n 0 with h | h | h
  · obtain ⟨u, rfl⟩ : ∃ u : Nat, n = -(u : Int) := ⟨n.natAbs, by omega⟩
    exact specDecimal_neg u w (by omega) (by omega)
  · subst h
    have HX := Lib.hid (show decS 0 = ⟨#[48]⟩ from by unfold decS Lib.itoa; rw [if_neg (by omega)]; rw [show (0 : Int).toNat = 0 from rfl, dec_one (by omega)]; rfl)
    go_enter Tryz.func199, Tryz.ntmps199
    go_wp2
    go_ret
    exact ⟨by rw [HX.out]; rfl, Below.refl _ _⟩
  · obtain ⟨u, rfl⟩ : ∃ u : Nat, n = (u : Int) := ⟨n.toNat, by omega⟩
    exact specDecimal_pos u w (by omega) (by omega)
/-- The library's table of powers. -/
def DecTab (w : World) : Prop := Lib.TabIs Tryz.prog w "internal/strconv.uint64pow10" .u64 Lib.pow10Tab
theorem DecTab.below {w W : World} (h : DecTab w) (hb : Below w.heap.size w W) : DecTab W := tab_below h hb
theorem below_growN (w : World) (k : Nat) (os : Array Obj) : Below w.heap.size w (Sort.grow (w.drewN k) os) := by
  refine Below.trans (below_drewN (Below.refl _ _) k) ?_
  refine ⟨rfl, rfl, rfl, ?_, fun b hb => ?_⟩
  · simp [Sort.grow]
  · have hb' : b < (w.drewN k).heap.size := Nat.lt_of_lt_of_le hb (below_drewN (Below.refl w.heap.size w) k).size
    show ((w.drewN k).heap ++ os)[b]? = _
    rw [Array.getElem?_append_left hb']
theorem implDecimal_c (n : Int) (w : World) (h0 : -9223372036854775808 ≤ n) (h1 : n ≤ 9223372036854775807) (ht : DecTab w) :
    Calls Tryz.prog 112 #[.int .i64 n] w fun e w' => e = .returned (.string (decS n)) ∧ Below w.heap.size w w' := by
  have K := Lib.hid (Tryz.strconv_Itoa n h0 h1 w ht)
  clear ht
  go_enter Tryz.func112, Tryz.ntmps112
  go_wp2_with fail
  refine K.out.mono ?_
  rintro e w1 ⟨rfl, k, os, hw⟩
  have HB := Lib.hid (show Below w.heap.size w w1 by rw [hw]; exact below_growN w k os)
  clear hw
  go_wp2
  go_ret
  exact ⟨rfl, HB.out⟩
/-- head, the numeral, tail. -/
def keyNumS (h : ByteArray) (n : Int) (t : ByteArray) : ByteArray := h ++ decS n ++ t
theorem keyNumS_size (h : ByteArray) (n : Int) (t : ByteArray) (h0 : -9223372036854775808 ≤ n) (h1 : n ≤ 9223372036854775807) : (keyNumS h n t).size ≤ h.size + 20 + t.size := by
  unfold keyNumS
  rw [ByteArray.size_append, ByteArray.size_append]
  have := decS_size n h0 h1
  omega
set_option maxHeartbeats 1000000 in
theorem implKeyNum_c (h : ByteArray) (n : Int) (t : ByteArray) (w : World) (h0 : -9223372036854775808 ≤ n) (h1 : n ≤ 9223372036854775807) (hh : h.size ≤ 4611686018427387904) (htl : t.size ≤ 4611686018427387000) (ht : DecTab w) :
    Calls Tryz.prog 159 #[.string h, .int .i64 n, .string t] w fun e w' => e = .returned (.string (keyNumS h n t)) ∧ Below w.heap.size w w' := by
  have K := Lib.hid (implDecimal_c n w h0 h1 ht)
  have hs := decS_size n h0 h1
  have HX := Lib.hid (show keyNumS h n t = h ++ decS n ++ t from rfl)
  generalize decS n = d at *
  have hz : (h ++ d).size = h.size + d.size := ByteArray.size_append
  clear ht
  go_enter Tryz.func159, Tryz.ntmps159
  go_wp2_with fail
  refine K.out.mono ?_
  rintro e w1 ⟨rfl, hb1⟩
  go_wp2
  go_ret
  exact ⟨by rw [HX.out]; rfl, hb1⟩
set_option maxHeartbeats 1000000 in
theorem specKeyNum_c (h : ByteArray) (n : Int) (t : ByteArray) (w : World) (h0 : -9223372036854775808 ≤ n) (h1 : n ≤ 9223372036854775807) (hh : h.size ≤ 4611686018427387904) (htl : t.size ≤ 4611686018427387000) :
    Calls Tryz.prog 176 #[.string h, .int .i64 n, .string t] w fun e w' => e = .returned (.string (keyNumS h n t)) ∧ Below w.heap.size w w' := by
  have K := Lib.hid (specDecimal_c n w h0 h1)
  have hs := decS_size n h0 h1
  have HX := Lib.hid (show keyNumS h n t = h ++ decS n ++ t from rfl)
  generalize decS n = d at *
  have hz : (h ++ d).size = h.size + d.size := ByteArray.size_append
  go_enter Tryz.func176, Tryz.ntmps176
  go_wp2_with fail
  refine K.out.mono ?_
  rintro e w1 ⟨rfl, hb1⟩
  go_wp2
  go_ret
  exact ⟨by rw [HX.out]; rfl, hb1⟩
end Go.Proofs.YtihghflppegnmaaGreatDoor
namespace Go.Proofs.YtihghflppegnmaaGreatDoor
open Go.RowKit
attribute [local go_sem ↓] Go.wp_at_zero Go.wp_at_succ
def numIs (s : ByteArray) (n : Nat) : Prop := n ≤ 1000000000 ∧ Lib.decDigits n = s.data.toList
def decVal (l : List UInt8) : Nat := l.foldl (fun a c => 10 * a + (c.toNat - 48)) 0
theorem decVal_snoc (l : List UInt8) (c : UInt8) : decVal (l ++ [c]) = 10 * decVal l + (c.toNat - 48) := by simp [decVal, List.foldl_append]
theorem dig_nat (d : Nat) (h : d < 10) : (UInt8.ofNat (48 + d)).toNat = 48 + d := by rw [UInt8.toNat_ofNat', Nat.mod_eq_of_lt (by omega)]
theorem decVal_dec : ∀ (k u : Nat), u ≤ k → decVal (Lib.decDigits u) = u
  | 0, u, h => by
    obtain rfl : u = 0 := by omega
    rw [dec_one (by omega)]; rfl
  | k + 1, u, h => by
    by_cases h1 : u < 10
    · rw [dec_one h1]
      simp only [decVal, List.foldl_cons, List.foldl_nil]
      rw [dig_nat u h1]; omega
    · rw [dec_more h1, decVal_snoc, decVal_dec k (u / 10) (by omega), dig_nat _ (Nat.mod_lt _ (by omega))]
      omega
theorem dec_digits : ∀ (k u : Nat), u ≤ k → ∀ c ∈ Lib.decDigits u, 48 ≤ c.toNat ∧ c.toNat ≤ 57
  | k, u, h, c, hc => by
    by_cases h1 : u < 10
    · rw [dec_one h1] at hc
      have hc := List.mem_singleton.1 hc
      rw [hc, dig_nat u h1]; omega
    · rw [dec_more h1] at hc
      rcases List.mem_append.1 hc with hc | hc
      · match k, h with
        | 0, h => omega
        | k + 1, h => exact dec_digits k (u / 10) (by omega) c hc
      · have hc := List.mem_singleton.1 hc
        rw [hc, dig_nat _ (Nat.mod_lt _ (by omega))]; omega
theorem numIs_val {s : ByteArray} {n : Nat} (h : numIs s n) : decVal s.data.toList = n := by rw [← h.2]; exact decVal_dec n n (Nat.le_refl _)
theorem numIs_one {s : ByteArray} {n m : Nat} (h : numIs s n) (k : numIs s m) : n = m := by rw [← numIs_val h, numIs_val k]
open Classical in
noncomputable def readOk (s : ByteArray) : Bool := decide (∃ n, numIs s n)
open Classical in
noncomputable def readV (s : ByteArray) : Int := if ∃ n, numIs s n then (decVal s.data.toList : Int) else 0
open Classical in
theorem read_yes {s : ByteArray} {n : Nat} (h : numIs s n) : readOk s = true ∧ readV s = (n : Int) := by
  refine ⟨by unfold readOk; exact decide_eq_true ⟨n, h⟩, ?_⟩
  unfold readV
  rw [if_pos ⟨n, h⟩, numIs_val h]
open Classical in
theorem read_no {s : ByteArray} (h : ∀ n, ¬ numIs s n) : readOk s = false ∧ readV s = 0 := by
  have h' : ¬ ∃ n, numIs s n := fun ⟨n, hn⟩ => h n hn
  exact ⟨by unfold readOk; exact decide_eq_false h', by unfold readV; rw [if_neg h']⟩
open Classical in
theorem read_ok {s : ByteArray} (h : readOk s = true) : ∃ n, numIs s n := by unfold readOk at h; exact of_decide_eq_true h
theorem readV_bounds (s : ByteArray) : 0 ≤ readV s ∧ readV s ≤ 1000000000 := by
  cases h : readOk s with
  | true =>
    obtain ⟨n, hn⟩ := read_ok h
    rw [(read_yes hn).2]
    have := hn.1
    omega
  | false =>
    have : readV s = 0 := (read_no (fun n hn => by rw [(read_yes hn).1] at h; cases h)).2
    omega
theorem decS_nat (n : Nat) : decS (n : Int) = ⟨(Lib.decDigits n).toArray⟩ := by
  unfold decS Lib.itoa; rw [if_neg (by omega)]; simp
theorem numIs_of {s : ByteArray} {n : Nat} (hn : n ≤ 1000000000) (h : decS (n : Int) = s) : numIs s n := ⟨hn, by rw [← h, decS_nat]⟩
theorem numIs_dec {s : ByteArray} {n : Nat} (h : numIs s n) : decS (n : Int) = s := by
  rw [decS_nat, h.2]
theorem parse_snoc (l : List UInt8) (c : UInt8) : ∀ acc, Lib.parseUint10 acc (l ++ [c]) = match Lib.parseUint10 acc l with | .ok a => Lib.parseUint10 a [c] | r => r := by
  induction l with
  | nil => intro acc; simp [Lib.parseUint10]
  | cons d l ih =>
    intro acc
    rw [List.cons_append]
    simp only [Lib.parseUint10]
    split
    · split
      · rfl
      · split
        · rfl
        · rw [ih]; simp only [Lib.parseUint10]
    · rfl
theorem parse_dec : ∀ (k u : Nat), u ≤ k → u ≤ 1000000000 → Lib.parseUint10 0 (Lib.decDigits u) = .ok u
  | k, u, h, hu => by
    have one : ∀ a d : Nat, d < 10 → a ≤ 1000000000 → Lib.parseUint10 a [UInt8.ofNat (48 + d)] = .ok (10 * a + d) := fun a d hd ha => by
      simp only [Lib.parseUint10]
      rw [dig_nat d hd, if_pos (by omega), if_neg (by omega), if_neg (by omega)]
      congr 1
      omega
    by_cases h1 : u < 10
    · rw [dec_one h1, one 0 u h1 (by omega)]; simp
    · match k, h with
      | 0, h => omega
      | k + 1, h =>
        rw [dec_more h1, parse_snoc, parse_dec k (u / 10) (by omega) (by omega)]
        show Lib.parseUint10 (u / 10) [UInt8.ofNat (48 + u % 10)] = _
        rw [one (u / 10) (u % 10) (Nat.mod_lt _ (by omega)) (by omega)]
        congr 1
        omega
theorem atoi_dec {s : ByteArray} {n : Nat} (h : numIs s n) : Lib.atoiAll s.data.toList = .ok (n : Int) := by
  rw [← h.2]
  have hp := parse_dec n n (Nat.le_refl _) h.1
  have hne : Lib.decDigits n ≠ [] := by
    rw [Lib.decDigits]; split <;> simp
  have hd := dec_digits n n (Nat.le_refl _)
  cases hl : Lib.decDigits n with
  | nil => exact absurd hl hne
  | cons c r =>
    rw [hl] at hp hd
    have hc := hd c (by simp)
    unfold Lib.atoiAll
    simp only
    rw [if_neg (by omega)]
    unfold Lib.parseMag
    rw [if_neg (by simp), hp]
    simp only
    have hn := h.1
    rw [if_neg (by omega), if_neg (by omega), if_neg (by omega)]

/-- The library's variables of a bad numeral and of a numeral out of range hold some errors. -/
def NumErr (w : World) : Prop := (∃ tp p, w.var? Tryz.prog "strconv.ErrSyntax" = some #[.iface tp p]) ∧ (∃ tp p, w.var? Tryz.prog "strconv.ErrRange" = some #[.iface tp p])
theorem var_below {P : Program} {w W : World} {name : String} {cs : Array Value} (h : w.var? P name = some cs) (hb : Below w.heap.size w W) : W.var? P name = some cs := by
  unfold World.var? at *
  cases hg : P.globalNamed name with
  | none => simp [hg] at h
  | some g =>
    simp only [hg, Option.bind_some] at h ⊢
    have hlt : g < w.heap.size := by
      rcases Nat.lt_or_ge g w.heap.size with h' | h'
      · exact h'
      · simp [Array.getElem?_eq_none h'] at h
    rw [hb.block g hlt]
    exact h
theorem NumErr.below {w W : World} (h : NumErr w) (hb : Below w.heap.size w W) : NumErr W := by
  obtain ⟨⟨t, p, h1⟩, ⟨t2, p2, h2⟩⟩ := h
  exact ⟨⟨t, p, var_below h1 hb⟩, ⟨t2, p2, var_below h2 hb⟩⟩

set_option maxHeartbeats 4000000 in
theorem implReadDec_c (s : ByteArray) (w : World) (hs : s.size ≤ 281474976710656) (ht : DecTab w) (hE : NumErr w) :
    Calls Tryz.prog 211 #[.string s] w fun e w' => e = .returned (.tuple #[.int .i64 (readV s), .bool (readOk s)]) ∧ Below w.heap.size w w' := by
  obtain ⟨⟨t1, p1, hv1⟩, ⟨t2, p2, hv2⟩⟩ := hE
  have HT := Lib.hid ht
  cases ho : Lib.atoiAll s.data.toList
  rotate_left
  · have HV := Lib.hid (read_no (s := s) (fun n hn => by rw [atoi_dec hn] at ho; cases ho))
    have K := Lib.hid (Tryz.strconv_Atoi_syntax_var s hs ho t1 p1 w hv1)
    clear ht ho hv1 hv2
    go_enter Tryz.func211, Tryz.ntmps211
    go_wp2_with fail
    refine K.out.mono ?_
    rintro e w1 ⟨N, rfl, _, _, hb1⟩
    go_wp2
    go_ret2
    exact ⟨by rw [HV.out.1, HV.out.2]; rfl, hb1⟩
  · have HV := Lib.hid (read_no (s := s) (fun n hn => by rw [atoi_dec hn] at ho; cases ho))
    have K := Lib.hid (Tryz.strconv_Atoi_range_var s hs ho t2 p2 w hv2)
    clear ht ho hv1 hv2
    go_enter Tryz.func211, Tryz.ntmps211
    go_wp2_with fail
    refine K.out.mono ?_
    rintro e w1 ⟨N, rfl, _, _, hb1⟩
    go_wp2
    go_ret2
    exact ⟨by rw [HV.out.1, HV.out.2]; rfl, hb1⟩
  · rename_i v
    have K := Lib.hid (Tryz.strconv_Atoi_ok s (by omega) v ho w)
    have HW : Hid (∀ w', (w' = w ∨ ∃ t, w' = Lib.bytesWorld w 5 t) → Below w.heap.size w w') := Lib.hid (fun w' h => by
      rcases h with rfl | ⟨t, rfl⟩
      · exact Below.refl _ _
      · exact Lib.bytesWorld_below w _ t)
    have hv : ∀ n, numIs s n → v = (n : Int) := fun n hn => by rw [atoi_dec hn] at ho; cases ho; rfl
    clear ht ho hv1 hv2
    cases hi : inB v 0 1000000000 with
    | false =>
      have HV := Lib.hid (read_no (s := s) (fun n hn => by
        have := hv n hn
        have := hn.1
        have := inB_false hi
        omega))
      have HI := Lib.hid (fun W => within_c v 0 1000000000 W)
      rw [hi] at HI
      clear hv hi
      go_enter Tryz.func211, Tryz.ntmps211
      go_wp2_with fail
      refine K.out.mono ?_
      rintro e w1 ⟨rfl, hw1⟩
      have hb1 := HW.out w1 hw1
      clear hw1
      go_wp2_with fail
      refine (HI.out _).mono ?_
      rintro e w2 ⟨rfl, rfl⟩
      go_wp2
      go_ret2
      exact ⟨by rw [HV.out.1, HV.out.2]; rfl, hb1⟩
    | true =>
      have hin := inB_iff.1 hi
      obtain ⟨n, rfl⟩ : ∃ n : Nat, v = (n : Int) := ⟨v.toNat, by omega⟩
      have HI := Lib.hid (fun W => within_c (n : Int) 0 1000000000 W)
      rw [hi] at HI
      have HD := Lib.hid (fun (W : World) (hW : Below w.heap.size w W) => implDecimal_c (n : Int) W (by omega) (by omega) (DecTab.below HT.out hW))
      by_cases he : decS (n : Int) = s
      · have HV := Lib.hid (read_yes (numIs_of (by omega) he))
        rw [he] at HD
        clear hv hi hin he
        go_enter Tryz.func211, Tryz.ntmps211
        go_wp2_with fail
        refine K.out.mono ?_
        rintro e w1 ⟨rfl, hw1⟩
        have hb1 := HW.out w1 hw1
        clear hw1
        go_wp2_with fail
        refine (HI.out _).mono ?_
        rintro e w2 ⟨rfl, rfl⟩
        go_wp2_with fail
        refine (HD.out _ hb1).mono ?_
        rintro e w2 ⟨rfl, hb2⟩
        have B2 : Below w.heap.size w w2 := hb1.trans (hb2.mono hb1.size)
        go_wp2
        go_ret2
        exact ⟨by rw [HV.out.1, HV.out.2]; rfl, B2⟩
      · have HV := Lib.hid (read_no (s := s) (fun m hm => he (by rw [hv m hm]; exact numIs_dec hm)))
        have f1 := beq_toList_false he
        have f2 := bne_toList_true he
        have f3 := toList_ne he
        generalize decS (n : Int) = t at *
        clear hv hi hin he
        go_enter Tryz.func211, Tryz.ntmps211
        go_wp2_with fail
        refine K.out.mono ?_
        rintro e w1 ⟨rfl, hw1⟩
        have hb1 := HW.out w1 hw1
        clear hw1
        go_wp2_with fail
        refine (HI.out _).mono ?_
        rintro e w2 ⟨rfl, rfl⟩
        go_wp2_with fail
        refine (HD.out _ hb1).mono ?_
        rintro e w2 ⟨rfl, hb2⟩
        have B2 : Below w.heap.size w w2 := hb1.trans (hb2.mono hb1.size)
        go_wp2
        go_ret2
        exact ⟨by rw [HV.out.1, HV.out.2]; rfl, B2⟩

set_option maxHeartbeats 4000000 in
theorem specReadDec_c (s : ByteArray) (w : World) :
    Calls Tryz.prog 222 #[.string s] w fun e w' => e = .returned (.tuple #[.int .i64 (readV s), .bool (readOk s)]) ∧ Below w.heap.size w w' := by
  by_cases h10 : (10 : Int) < (s.size : Int)
  · have HV := Lib.hid (read_no (s := s) (fun n hn => by
      have := dec_len 10 n (by decide) (by have := hn.1; omega)
      rw [hn.2] at this
      simp at this
      omega))
    go_enter Tryz.func222, Tryz.ntmps222
    go_wp2
    go_ret2
    exact ⟨by rw [HV.out.1, HV.out.2]; rfl, Below.refl _ _⟩
  · go_enter Tryz.func222, Tryz.ntmps222
    go_wp2
    go_loop [4, 5] (fun a i => ∃ k m : Nat, k ≤ s.size ∧ i = .int .i64 k ∧ a = .int .i64 m ∧ Hid (m = decVal (s.data.toList.take k)) ∧ Hid (m < 10 ^ k)) (fun _ i => s.size - (intOf i).toNat)
    case atStart => exact ⟨0, 0, Nat.zero_le _, rfl, rfl, Lib.hid rfl, Lib.hid (by decide)⟩
    case round =>
      obtain ⟨k, m, hk, rfl, rfl, HM, HB⟩ := hrel
      have hmb : m ≤ 10000000000 := by
        have h1 := HB.out
        have h2 : 10 ^ k ≤ 10 ^ 10 := Nat.pow_le_pow_right (by decide) (by omega)
        have h3 : (10 : Nat) ^ 10 = 10000000000 := by decide
        omega
      have p1 : (0 : Int) ≤ (k : Int) := by omega
      have pm : (0 : Int) ≤ (m : Int) := by omega
      by_cases hlt : k < s.size
      · have p2 : (k : Int) < (s.size : Int) := by omega
        have hmem : s[k] ∈ s.data.toList := List.getElem_mem (l := s.data.toList) (n := k) (by simpa using hlt)
        have q0 : (0 : Int) ≤ (s[k].toNat : Int) := by omega
        have hn255 : (s[k].toNat : Int) ≤ 255 := by have := s[k].toNat_lt; omega
        by_cases h1 : (s[k].toNat : Int) < 48
        · have HV := Lib.hid (read_no (s := s) (fun n hn => by
            have := dec_digits n n (Nat.le_refl _) s[k] (by rw [hn.2]; exact hmem)
            omega))
          clear hmem
          go_wp2
          go_ret2
          exact ⟨by rw [HV.out.1, HV.out.2]; rfl, Below.refl _ _⟩
        · by_cases h2 : (57 : Int) < (s[k].toNat : Int)
          · have HV := Lib.hid (read_no (s := s) (fun n hn => by
              have := dec_digits n n (Nat.le_refl _) s[k] (by rw [hn.2]; exact hmem)
              omega))
            clear hmem
            go_wp2
            go_ret2
            exact ⟨by rw [HV.out.1, HV.out.2]; rfl, Below.refl _ _⟩
          · have HS := Lib.hid (show 10 * m + (s[k].toNat - 48) = decVal (s.data.toList.take (k + 1)) from by
              rw [List.take_succ_eq_append_getElem (by simpa using hlt), decVal_snoc, ← HM.out]; rfl)
            have HS2 := Lib.hid (show 10 * m + (s[k].toNat - 48) < 10 ^ (k + 1) from by
              have := HB.out
              rw [Nat.pow_succ]; omega)
            have HCast := Lib.hid (show ((10 * m + (s[k].toNat - 48) : Nat) : Int) = 10 * (m : Int) + (s[k].toNat : Int) - 48 from by omega)
            clear hmem
            go_wp2
            go_round
            case rel => exact ⟨k + 1, 10 * m + (s[k].toNat - 48), by omega, by go_num, by rw [HCast.out], HS, HS2⟩
            case measure => simp [intOf]; omega
      · obtain rfl : k = s.size := by omega
        have p2 : ¬ (s.size : Int) < (s.size : Int) := by omega
        have HM2 := Lib.hid (show decVal s.data.toList = m from by rw [HM.out, List.take_of_length_le (by simp)])
        by_cases hbig : (1000000000 : Int) < (m : Int)
        · have HV := Lib.hid (read_no (s := s) (fun n hn => by
            have := numIs_val hn
            rw [HM2.out] at this
            have := hn.1
            omega))
          go_wp2
          go_ret2
          exact ⟨by rw [HV.out.1, HV.out.2]; rfl, Below.refl _ _⟩
        · have HD := Lib.hid (fun (W : World) => specDecimal_c (m : Int) W (by omega) (by omega))
          by_cases he : decS (m : Int) = s
          · have HV := Lib.hid (read_yes (numIs_of (by omega) he))
            rw [he] at HD
            clear he
            go_wp2_with fail
            refine (HD.out _).mono ?_
            rintro e w2 ⟨rfl, hb2⟩
            go_wp2
            go_ret2
            exact ⟨by rw [HV.out.1, HV.out.2]; rfl, hb2⟩
          · have HV := Lib.hid (read_no (s := s) (fun n hn => he (by
              have := numIs_val hn
              rw [HM2.out] at this
              rw [this]; exact numIs_dec hn)))
            have f1 := beq_toList_false he
            have f2 := bne_toList_true he
            have f3 := toList_ne he
            generalize decS (m : Int) = t at *
            clear he
            go_wp2_with fail
            refine (HD.out _).mono ?_
            rintro e w2 ⟨rfl, hb2⟩
            go_wp2
            go_ret2
            exact ⟨by rw [HV.out.1, HV.out.2]; rfl, hb2⟩
end Go.Proofs.YtihghflppegnmaaGreatDoor
namespace Go.Proofs.YtihghflppegnmaaGreatDoor
open Go.RowKit
attribute [local go_sem ↓] Go.wp_at_zero Go.wp_at_succ
noncomputable def numOfV (s : ByteArray) : Int := if 999 < readV s then 0 else readV s
theorem numOf_bounds (s : ByteArray) : 0 ≤ numOfV s ∧ numOfV s ≤ 999 := by
  have := readV_bounds s
  unfold numOfV; split <;> omega
theorem implNumOf_c (s : ByteArray) (w : World) (hs : s.size ≤ 281474976710656) (ht : DecTab w) (hE : NumErr w) :
    Calls Tryz.prog 171 #[.string s] w fun e w' => e = .returned (.int .i64 (numOfV s)) ∧ Below w.heap.size w w' := by
  have K := Lib.hid (implReadDec_c s w hs ht hE)
  clear ht hE
  have HX := Lib.hid (show numOfV s = if 999 < readV s then 0 else readV s from rfl)
  generalize readV s = n at *
  by_cases h : 999 < n
  · have HY := Lib.hid (HX.out.trans (if_pos h))
    go_enter Tryz.func171, Tryz.ntmps171
    go_wp2_with fail
    refine K.out.mono ?_
    rintro e w1 ⟨rfl, hb1⟩
    go_wp2
    go_ret
    exact ⟨by rw [HY.out]; rfl, hb1⟩
  · have HY := Lib.hid (HX.out.trans (if_neg h))
    go_enter Tryz.func171, Tryz.ntmps171
    go_wp2_with fail
    refine K.out.mono ?_
    rintro e w1 ⟨rfl, hb1⟩
    go_wp2
    go_ret
    exact ⟨by rw [HY.out]; rfl, hb1⟩
theorem specNumOf_c (s : ByteArray) (w : World) :
    Calls Tryz.prog 192 #[.string s] w fun e w' => e = .returned (.int .i64 (numOfV s)) ∧ Below w.heap.size w w' := by
  have K := Lib.hid (specReadDec_c s w)
  have HX := Lib.hid (show numOfV s = if 999 < readV s then 0 else readV s from rfl)
  cases ho : readOk s with
  | false =>
    have HZ := Lib.hid (show numOfV s = 0 by
      have : readV s = 0 := (read_no (fun n hn => by rw [(read_yes hn).1] at ho; cases ho)).2
      rw [HX.out, this]; rfl)
    rw [ho] at K
    clear ho
    generalize readV s = n at *
    go_enter Tryz.func192, Tryz.ntmps192
    go_wp2_with fail
    refine K.out.mono ?_
    rintro e w1 ⟨rfl, hb1⟩
    go_wp2
    go_ret
    exact ⟨by rw [HZ.out]; rfl, hb1⟩
  | true =>
    rw [ho] at K
    clear ho
    generalize readV s = n at *
    by_cases h : 999 < n
    · have HY := Lib.hid (HX.out.trans (if_pos h))
      go_enter Tryz.func192, Tryz.ntmps192
      go_wp2_with fail
      refine K.out.mono ?_
      rintro e w1 ⟨rfl, hb1⟩
      go_wp2
      go_ret
      exact ⟨by rw [HY.out]; rfl, hb1⟩
    · have HY := Lib.hid (HX.out.trans (if_neg h))
      go_enter Tryz.func192, Tryz.ntmps192
      go_wp2_with fail
      refine K.out.mono ?_
      rintro e w1 ⟨rfl, hb1⟩
      go_wp2
      go_ret
      exact ⟨by rw [HY.out]; rfl, hb1⟩
end Go.Proofs.YtihghflppegnmaaGreatDoor
