/- Contracts: put (onto an own row) and PutKey of both sides: a value put into a store, in memory of its own. Conditions: at most 2^20 cells; the bounds that any Go string meets. -/
import Derived.Test.YtjlmoghifkgehaaDoorInsertC
import Derived.Test.YtjlmoghifkgehaaDoorDelete
import Derived.Test.YtjlmoghifkgehaaDoorClone
import Derived.Test.YtjlmoghifkgehaaDoorKeyOk
namespace Go.Proofs.YtjlmoghifkgehaaDoor
open Go.RowKit
attribute [local go_sem ↓] Go.wp_at_zero Go.wp_at_succ
/-- A value put into a store, if the key and the value are right. -/
def putKeyS (xs : List (ByteArray × ByteArray)) (key val : ByteArray) : List (ByteArray × ByteArray) := if keyOkB key = false ∨ 60 < val.size then xs else putV xs key val
theorem putKey_bad {xs : List (ByteArray × ByteArray)} {key val : ByteArray} (h : keyOkB key = false ∨ 60 < val.size) : putKeyS xs key val = xs := by unfold putKeyS; rw [if_pos h]
theorem putKey_good {xs : List (ByteArray × ByteArray)} {key val : ByteArray} (h : keyOkB key = true) (h2 : val.size ≤ 60) : putKeyS xs key val = putV xs key val := by unfold putKeyS; rw [if_neg]; simp [h]; exact h2
theorem putV_del {xs : List (ByteArray × ByteArray)} {key val : ByteArray} (h : val.size = 0) : putV xs key val = delK xs key := by unfold putV; rw [if_pos h]
theorem putV_ins {xs : List (ByteArray × ByteArray)} {key val : ByteArray} (h : val.size ≠ 0) : putV xs key val = insK (key, val) (delK xs key) := by unfold putV; rw [if_neg h]
theorem putKeyS_len (xs : List (ByteArray × ByteArray)) (key val : ByteArray) : (putKeyS xs key val).length ≤ xs.length + 1 := by
  unfold putKeyS; split
  · omega
  · exact putV_len _ _ _
theorem insK_at {c : ByteArray × ByteArray} {xs : List (ByteArray × ByteArray)} {k : Nat} (h : xs.findIdx (gtP c.1) = k) : insK c xs = xs.take k ++ c :: xs.drop k := by rw [insK_is, h]
theorem empty_iff {s : ByteArray} : s.toList = [] ↔ s.size = 0 := by
  rw [Lib.toList_data]
  exact ⟨fun h => by have := congrArg List.length h; simpa using this, fun h => List.eq_nil_of_length_eq_zero (by simpa using h)⟩

set_option maxRecDepth 100000 in
set_option maxHeartbeats 4000000 in
theorem put_c (v : Value) (base : Nat) (xs : List (ByteArray × ByteArray)) (key val : ByteArray) (w : World) (hlen : xs.length ≤ 2097152) (ho : w.ownsRow base 39 2 v xs.length (xs.flatMap encC)) (hbase : base ≤ w.heap.size) (hk : key.size ≤ maxLen) (hv : val.size ≤ maxLen) :
    Calls Tryd.prog 43 #[v, .string key, .string val] w (OwnStep 39 2 base v (putKeyS xs key val).length ((putKeyS xs key val).flatMap encC) w) := by
  have HO := Lib.hid ho
  have HLT := Lib.hid ho.lt
  have HK := Lib.hid (fun W => implKeyOk_c key W hk)
  unfold maxLen at hv
  clear ho
  obtain ⟨TT, hTT⟩ : ∃ TT, TT = putKeyS xs key val := ⟨_, rfl⟩
  have HT := Lib.hid hTT
  rw [← hTT]
  clear hTT
  cases hq : keyOkB key with
  | false =>
    have HE := Lib.hid (HT.out.trans (putKey_bad (.inl hq)))
    rw [hq] at HK
    clear hq
    go_enter Tryd.func43, Tryd.ntmps43
    go_wp2_with fail
    refine (HK.out _).mono ?_
    rintro e w1 ⟨rfl, rfl⟩
    go_wp2
    go_ret
    rw [HE.out]
    exact OwnStep.stay HO.out (by repeat (first | exact Below.refl _ _ | refine Below.drew ?_ | refine below_drewN ?_ _ | refine Below.allocC ?_ _ | refine Below.setCell ?_ (by first | (simp; done) | (simp; omega)) _ | refine Below.chain ?_ (by assumption)))
  | true =>
    rw [hq] at HK
    by_cases h60 : 60 < val.size
    · have HE := Lib.hid (HT.out.trans (putKey_bad (.inr h60)))
      have p60 : (60 : Int) < (val.size : Int) := by omega
      clear hq h60
      go_enter Tryd.func43, Tryd.ntmps43
      go_wp2_with fail
      refine (HK.out _).mono ?_
      rintro e w1 ⟨rfl, rfl⟩
      go_wp2
      go_ret
      rw [HE.out]
      exact OwnStep.stay HO.out (by repeat (first | exact Below.refl _ _ | refine Below.drew ?_ | refine below_drewN ?_ _ | refine Below.allocC ?_ _ | refine Below.setCell ?_ (by first | (simp; done) | (simp; omega)) _ | refine Below.chain ?_ (by assumption)))
    · have p60 : ¬ (60 : Int) < (val.size : Int) := by omega
      have HE0 := Lib.hid (HT.out.trans (putKey_good hq (by omega)))
      have HD := Lib.hid (fun (W : World) (hW : Below w.heap.size w W) (hc : W.cell? ⟨w.heap.size, 0, none⟩ = some (.string key)) => deleteC_c v base w.heap.size xs key W (by omega) (ownsRow_below HO.out hW) hc (fun k hk => by have := (HLT.out k hk).2; omega) (Nat.le_trans hbase hW.size))
      have hdl := delK_len xs key
      obtain ⟨D, hDD⟩ : ∃ D, D = delK xs key := ⟨_, rfl⟩
      rw [← hDD] at hdl HD
      have HDD := Lib.hid hDD
      clear hq h60 hDD
      by_cases hz : val.size = 0
      · have HE := Lib.hid (HE0.out.trans (putV_del hz))
        have q : (val.toList == []) = true := by simp [empty_iff, hz]
        have q2 : val.toList = [] := empty_iff.2 hz
        clear hz
        go_enter Tryd.func43, Tryd.ntmps43
        go_wp2_with fail
        refine (HK.out _).mono ?_
        rintro e w1 ⟨rfl, rfl⟩
        go_wp2_with fail
        refine (HD.out _ (by repeat (first | exact Below.refl _ _ | refine Below.drew ?_ | refine below_drewN ?_ _ | refine Below.allocC ?_ _ | refine Below.setCell ?_ (by first | (simp; done) | (simp; omega)) _ | refine Below.chain ?_ (by assumption))) (by simp)).mono ?_
        intro e w2 hs
        obtain ⟨v2, rfl, h1, h2, h3⟩ := hs.after (w := w) (by repeat (first | exact Below.refl _ _ | refine Below.drew ?_ | refine below_drewN ?_ _ | refine Below.allocC ?_ _ | refine Below.setCell ?_ (by first | (simp; done) | (simp; omega)) _ | refine Below.chain ?_ (by assumption)))
        have H2 := Lib.hid (show OwnStep 39 2 base v TT.length (TT.flatMap encC) w (.returned v2) w2 from ⟨v2, rfl, by rw [HE.out, ← HDD.out]; exact h1, h2, h3⟩)
        clear h1 h2 h3 hs
        go_wp2
        go_ret
        exact H2.out
      · have HE := Lib.hid (HE0.out.trans (putV_ins hz))
        have q : (val.toList == []) = false := by simp [empty_iff, hz]
        have q2 : ¬ val.toList = [] := fun e => hz (empty_iff.1 e)
        clear hz
        go_enter Tryd.func43, Tryd.ntmps43
        go_wp2_with fail
        refine (HK.out _).mono ?_
        rintro e w1 ⟨rfl, rfl⟩
        go_wp2_with fail
        refine (HD.out _ (by repeat (first | exact Below.refl _ _ | refine Below.drew ?_ | refine below_drewN ?_ _ | refine Below.allocC ?_ _ | refine Below.setCell ?_ (by first | (simp; done) | (simp; omega)) _ | refine Below.chain ?_ (by assumption))) (by simp)).mono ?_
        intro e w2 hs
        obtain ⟨v2, rfl, h1, h2, h3⟩ := hs
        have hsz2 : w.heap.size < w2.heap.size := by have := h2.size; simp at this; omega
        have hcB : w2.cell? ⟨w.heap.size, 0, none⟩ = some (.string key) := by
          refine (World.cell?_of_block (h2.block w.heap.size (by simp) (fun e => ?_))).trans (by simp)
          have := (HLT.out _ e.symm).2
          omega
        have HcB := Lib.hid hcB
        obtain ⟨a2, cap2, rfl, r2⟩ := reads_of_owns encC_len h1
        have HO2 := Lib.hid h1
        have HR2 := Lib.hid r2
        have HG2 := Lib.hid (grownBy_trans (grownBy_of_below (show Below w.heap.size w (w.alloc (.cells #[.string key] 9)) from (by repeat (first | exact Below.refl _ _ | refine Below.drew ?_ | refine below_drewN ?_ _ | refine Below.allocC ?_ _ | refine Below.setCell ?_ (by first | (simp; done) | (simp; omega)) _ | refine Below.chain ?_ (by assumption)))) v.ownBlock) h2)
        have HOr := Lib.hid h3
        have K2 := Lib.hid (indexFuncC_c a2 cap2 D (gtP key) 56 #[.pointer (some ⟨w.heap.size, 0, none⟩)] (fun args w => enters_of Tryd.func56 (by kernel_rfl) rfl args w) w2
          (fun W' x _ hb => gtFn_c key w.heap.size W' (keepS hb HcB.out) x) (by unfold maxLen; omega) r2)
        have HW2 := Lib.hid (h2.size)
        clear h1 h2 h3 r2 hcB
        go_wp2_with fail
        refine K2.out.mono ?_
        rintro e w3 ⟨rfl, hb3⟩
        have B3 := Lib.hid hb3
        have hcB3 : w3.cell? ⟨w.heap.size, 0, none⟩ = some (.string key) := keepS hb3 HcB.out
        have hsz3 : w.heap.size < w3.heap.size := by have := hb3.size; omega
        clear hb3
        obtain ⟨k, hkk⟩ : ∃ k, D.findIdx (gtP key) = k := ⟨_, rfl⟩
        have HKK := Lib.hid hkk
        have hkl : k ≤ D.length := by rw [← hkk]; exact List.findIdx_le_length
        have HE2 := Lib.hid (show TT = D.take k ++ (key, val) :: D.drop k from HE.out.trans (by rw [← HDD.out]; exact insK_at (c := (key, val)) hkk))
        rw [hkk]
        clear hkk
        have HINS := Lib.hid (fun (W : World) (hW : Below w3.heap.size w3 W) (hx : Box W w3.heap.size [.string key, .string val]) => (insertC_c (.slice a2 D.length cap2) base k D (key, val) w3.heap.size W (by omega) (ownsRow_below (ownsRow_below HO2.out B3.out) hW) hkl hx (fun j hj => by
            have h := (HO2.out.lt j hj).2
            have h' := B3.out.size
            omega) (by have := B3.out.size; have := hW.size; omega)))
        by_cases hlt : k < D.length
        · have HI := Lib.hid (idxI_lt hlt)
          rw [HI.out]
          have p1 : (0 : Int) ≤ (k : Int) := by omega
          go_wp2_with fail
          refine (HINS.out _ (by repeat (first | exact Below.refl _ _ | refine Below.drew ?_ | refine below_drewN ?_ _ | refine Below.allocC ?_ _ | refine Below.setCell ?_ (by first | (simp; done) | (simp; omega)) _ | refine Below.chain ?_ (by assumption))) (Box.new _ [.string key, .string val] _)).mono ?_
          intro e w4 hs
          obtain ⟨v4, rfl, h1, h2, h3⟩ := OwnStep.next (w := w) (v := v) HG2.out (HOr.out.from (by simp)) (B3.out.trans (show Below w2.heap.size w3 (w3.alloc (.cells #[.string key, .string val] 39)) from Below.mono (by repeat (first | exact Below.refl _ _ | refine Below.drew ?_ | refine below_drewN ?_ _ | refine Below.allocC ?_ _ | refine Below.setCell ?_ (by first | (simp; done) | (simp; omega)) _ | refine Below.chain ?_ (by assumption))) B3.out.size)) hs
          have H2 := Lib.hid (show OwnStep 39 2 base v TT.length (TT.flatMap encC) w (.returned v4) w4 from ⟨v4, rfl, by
            have hl : TT.length = D.length + 1 := by rw [HE2.out, List.length_append, List.length_cons, List.length_take, List.length_drop]; omega
            rw [hl, HE2.out]; exact h1, h2, h3⟩)
          clear h1 h2 h3 hs
          go_wp2
          go_ret
          exact H2.out
        · have HI := Lib.hid (idxI_ge (Nat.not_lt.1 hlt))
          rw [HI.out]
          obtain rfl : D.length = k := by omega
          go_wp2_with fail
          refine (HINS.out _ (by repeat (first | exact Below.refl _ _ | refine Below.drew ?_ | refine below_drewN ?_ _ | refine Below.allocC ?_ _ | refine Below.setCell ?_ (by first | (simp; done) | (simp; omega)) _ | refine Below.chain ?_ (by assumption))) (Box.new _ [.string key, .string val] _)).mono ?_
          intro e w4 hs
          obtain ⟨v4, rfl, h1, h2, h3⟩ := OwnStep.next (w := w) (v := v) HG2.out (HOr.out.from (by simp)) (B3.out.trans (show Below w2.heap.size w3 (w3.alloc (.cells #[.string key, .string val] 39)) from Below.mono (by repeat (first | exact Below.refl _ _ | refine Below.drew ?_ | refine below_drewN ?_ _ | refine Below.allocC ?_ _ | refine Below.setCell ?_ (by first | (simp; done) | (simp; omega)) _ | refine Below.chain ?_ (by assumption))) B3.out.size)) hs
          have H2 := Lib.hid (show OwnStep 39 2 base v TT.length (TT.flatMap encC) w (.returned v4) w4 from ⟨v4, rfl, by
            have hl : TT.length = D.length + 1 := by rw [HE2.out, List.length_append, List.length_cons, List.length_take, List.length_drop]; omega
            rw [hl, HE2.out]; exact h1, h2, h3⟩)
          clear h1 h2 h3 hs
          go_wp2
          go_ret
          exact H2.out

/-- What the reference's loop has laid: with the new cell ('d'), or without. -/
def outK (xs : List (ByteArray × ByteArray)) (key val : ByteArray) (d : Bool) : List (ByteArray × ByteArray) := if d then putV xs key val else delK xs key
theorem insK_none {c : ByteArray × ByteArray} : ∀ {L : List (ByteArray × ByteArray)}, L.any (gtP c.1) = false → insK c L = L ++ [c]
  | [], _ => rfl
  | y :: L, h => by
    simp only [List.any_cons, Bool.or_eq_false_iff] at h
    unfold insK
    have h1 : ltB c.1 y.1 = false := h.1
    rw [h1, insK_none h.2]; rfl
theorem insK_snoc_hit {c : ByteArray × ByteArray} (y : ByteArray × ByteArray) : ∀ {L : List (ByteArray × ByteArray)}, L.any (gtP c.1) = true → insK c (L ++ [y]) = insK c L ++ [y]
  | [], h => by simp at h
  | z :: L, h => by
    rw [List.cons_append]
    unfold insK
    cases hz : ltB c.1 z.1 with
    | true => rfl
    | false =>
      have h2 : L.any (gtP c.1) = true := by
        simp only [List.any_cons, Bool.or_eq_true] at h
        rcases h with h | h
        · unfold gtP at h; rw [hz] at h; cases h
        · exact h
      simp [insK_snoc_hit y h2]
theorem insK_snoc_new {c y : ByteArray × ByteArray} (hy : gtP c.1 y = true) : ∀ {L : List (ByteArray × ByteArray)}, L.any (gtP c.1) = false → insK c (L ++ [y]) = L ++ [c, y]
  | [], _ => by
    have h : ltB c.1 y.1 = true := hy
    simp [insK, h]
  | z :: L, h => by
    simp only [List.any_cons, Bool.or_eq_false_iff] at h
    rw [List.cons_append]
    unfold insK
    have h1 : ltB c.1 z.1 = false := h.1
    rw [h1, insK_snoc_new hy h.2]; rfl
theorem gt_ne {key : ByteArray} {y : ByteArray × ByteArray} (h : gtP key y = true) : delP key y = false := by
  unfold delP; rw [eqB_false]; exact fun e => ltB_ne (show ltB key y.1 = true from h) e.symm
theorem any_delK (xs : List (ByteArray × ByteArray)) (key : ByteArray) : (delK xs key).any (gtP key) = xs.any (gtP key) := by
  induction xs with
  | nil => rfl
  | cons y xs ih =>
    unfold delK at ih ⊢
    rw [List.filter_cons]
    cases h : eqB y.1 key with
    | true =>
      have : gtP key y = false := by
        cases g : gtP key y with
        | false => rfl
        | true => have := gt_ne g; unfold delP at this; rw [h] at this; cases this
      simp [ih, this]
    | false => simp [ih]
/-- Is the new cell laid, or none to be laid? -/
def doneK (xs : List (ByteArray × ByteArray)) (key val : ByteArray) : Bool := decide (val.size = 0) || xs.any (gtP key)
theorem doneK_snoc {xs : List (ByteArray × ByteArray)} {key val : ByteArray} {k : Nat} {y : ByteArray × ByteArray} (hy : xs[k]? = some y) : doneK (xs.take (k + 1)) key val = (doneK (xs.take k) key val || gtP key y) := by
  unfold doneK; rw [take_snoc_of hy, List.any_append]; simp [Bool.or_assoc]
theorem outK_same {xs : List (ByteArray × ByteArray)} {key val : ByteArray} {k : Nat} {y : ByteArray × ByteArray} {d : Bool} (hy : xs[k]? = some y) (h : delP key y = true) : outK (xs.take (k + 1)) key val d = outK (xs.take k) key val d := by
  unfold outK putV; rw [delK_drop hy h]
theorem outK_off {xs : List (ByteArray × ByteArray)} {key val : ByteArray} {k : Nat} {y : ByteArray × ByteArray} (hy : xs[k]? = some y) (h : delP key y = false) : outK (xs.take (k + 1)) key val false = outK (xs.take k) key val false ++ [y] := by
  unfold outK; simp [delK_keep hy h]
theorem outK_on {xs : List (ByteArray × ByteArray)} {key val : ByteArray} {k : Nat} {y : ByteArray × ByteArray} (hy : xs[k]? = some y) (h : delP key y = false) (hd : doneK (xs.take k) key val = true) : outK (xs.take (k + 1)) key val true = outK (xs.take k) key val true ++ [y] := by
  unfold outK putV
  simp only [if_true]
  rw [delK_keep hy h]
  by_cases hz : val.size = 0
  · simp [hz]
  · have ha : (delK (xs.take k) key).any (gtP key) = true := by
      rw [any_delK]; unfold doneK at hd; simpa [hz] using hd
    simp only [hz, if_false]
    exact insK_snoc_hit y ha
theorem outK_new {xs : List (ByteArray × ByteArray)} {key val : ByteArray} {k : Nat} {y : ByteArray × ByteArray} (hy : xs[k]? = some y) (h : gtP key y = true) (hd : doneK (xs.take k) key val = false) : outK (xs.take (k + 1)) key val true = outK (xs.take k) key val false ++ [(key, val)] ++ [y] := by
  unfold doneK at hd
  simp only [Bool.or_eq_false_iff, decide_eq_false_iff_not] at hd
  unfold outK putV
  simp only [if_true, hd.1, if_false]
  rw [delK_keep hy (gt_ne h), insK_snoc_new h (by rw [any_delK]; exact hd.2)]
  simp
theorem outK_end {xs : List (ByteArray × ByteArray)} {key val : ByteArray} (hd : doneK xs key val = false) : putV xs key val = outK xs key val false ++ [(key, val)] := by
  unfold doneK at hd
  simp only [Bool.or_eq_false_iff, decide_eq_false_iff_not] at hd
  unfold outK putV
  simp only [hd.1, if_false]
  rw [insK_none (by rw [any_delK]; exact hd.2)]
  simp
theorem outK_len (xs : List (ByteArray × ByteArray)) (key val : ByteArray) (d : Bool) : (outK xs key val d).length ≤ xs.length + 1 := by
  unfold outK; split
  · exact putV_len _ _ _
  · have := delK_len xs key; omega

set_option maxRecDepth 100000 in
set_option maxHeartbeats 4000000 in
theorem specPutKey_c (a : Option Addr) (cap : Nat) (xs : List (ByteArray × ByteArray)) (key val : ByteArray) (w : World) (hlen : xs.length ≤ 1048576) (hr : Reads w a 2 encC xs) (_ho : ∀ x ∈ xs, x.1.size ≤ maxLen ∧ x.2.size ≤ maxLen) (hk : key.size ≤ maxLen) (hv : val.size ≤ maxLen) :
    Calls Tryd.prog 37 #[.slice a xs.length cap, .string key, .string val] w (Fresh 39 2 ((putKeyS xs key val).flatMap encC) (putKeyS xs key val).length w) := by
  obtain ⟨i0, hinf, hzz⟩ := Option.map_eq_some_iff.1 infoCell
  simp only [Prod.mk.injEq] at hzz
  have HI := Lib.hid hinf
  have HZ := Lib.hid hzz
  have HR := Lib.hid hr
  have HK := Lib.hid (fun W => specKeyOk_c key W hk)
  have HRN := Lib.hid (fun (W : World) => (show (W.alloc (.cells #[] 39)).ownsRow W.heap.size 39 2 (.slice (some ⟨W.heap.size, 0, none⟩) 0 0) 0 [] from ⟨rfl, .inr ⟨W.heap.size, 0, #[], rfl, Nat.le_refl _, heap_alloc_new W _, Nat.le_refl _, Nat.zero_le _, rfl, rfl⟩⟩))
  unfold maxLen at hv
  clear hr hinf hzz
  obtain ⟨TT, hTT⟩ : ∃ TT, TT = putKeyS xs key val := ⟨_, rfl⟩
  have HT := Lib.hid hTT
  rw [← hTT]
  clear hTT
  by_cases hbad : keyOkB key = false ∨ 60 < val.size
  · have HE := Lib.hid (HT.out.trans (putKey_bad hbad))
    have hfin : ∀ (v2 : Value) (w2 : World), w2.ownsRow w.heap.size 39 2 v2 xs.length (xs.flatMap encC) → (w.alloc (.cells #[] 39)).grownBy w2 (some w.heap.size) → Fresh 39 2 (TT.flatMap encC) TT.length w (.returned v2) w2 := fun v2 w2 o g => by
      rw [HE.out]
      exact ⟨v2, rfl, o, (show Below w.heap.size w (w.alloc (.cells #[] 39)) from (by repeat (first | exact Below.refl _ _ | refine Below.drew ?_ | refine below_drewN ?_ _ | refine Below.allocC ?_ _ | refine Below.setCell ?_ (by first | (simp; done) | (simp; omega)) _ | refine Below.chain ?_ (by assumption)))).trans (below_of_grown g (Nat.le_refl _) (by simp))⟩
    have HFIN := Lib.hid hfin
    clear hfin
    cases hq : keyOkB key with
    | false =>
      rw [hq] at HK
      clear hbad hq
      go_enter Tryd.func37, Tryd.ntmps37
      go_wp2_with fail
      refine (HK.out _).mono ?_
      rintro e w1 ⟨rfl, rfl⟩
      go_wp2_with (at_builtin; refine wpList_append_reads _ rfl _ _ 22 rfl w.heap.size 39 i0 (.agg #[.string ⟨#[]⟩, .string ⟨#[]⟩]) 2 32 Tryd.underlying22 HI.out HZ.out.1 HZ.out.2.1 HZ.out.2.2 rfl (by decide) encC_len encC_one _ 0 [] rfl (HRN.out w) _ _ _ xs rfl rfl (HR.out.below (by repeat (first | exact Below.refl _ _ | refine Below.drew ?_ | refine below_drewN ?_ _ | refine Below.allocC ?_ _ | refine Below.setCell ?_ (by first | (simp; done) | (simp; omega)) _ | refine Below.chain ?_ (by assumption)))) (by unfold maxLen; omega) (by omega) (by simp) ?_)
      intro v2 w2 o2 g2 or2
      have H2 := Lib.hid (HFIN.out v2 w2 (by first | exact o2 | simpa using o2) g2)
      clear o2 g2 or2
      go_wp2
      go_ret
      exact H2.out
    | true =>
      have h60 : 60 < val.size := by rcases hbad with h | h; · rw [hq] at h; cases h
                                     · exact h
      have p60 : (60 : Int) < (val.size : Int) := by omega
      rw [hq] at HK
      clear hbad hq h60
      go_enter Tryd.func37, Tryd.ntmps37
      go_wp2_with fail
      refine (HK.out _).mono ?_
      rintro e w1 ⟨rfl, rfl⟩
      go_wp2_with (at_builtin; refine wpList_append_reads _ rfl _ _ 22 rfl w.heap.size 39 i0 (.agg #[.string ⟨#[]⟩, .string ⟨#[]⟩]) 2 32 Tryd.underlying22 HI.out HZ.out.1 HZ.out.2.1 HZ.out.2.2 rfl (by decide) encC_len encC_one _ 0 [] rfl (HRN.out w) _ _ _ xs rfl rfl (HR.out.below (by repeat (first | exact Below.refl _ _ | refine Below.drew ?_ | refine below_drewN ?_ _ | refine Below.allocC ?_ _ | refine Below.setCell ?_ (by first | (simp; done) | (simp; omega)) _ | refine Below.chain ?_ (by assumption)))) (by unfold maxLen; omega) (by omega) (by simp) ?_)
      intro v2 w2 o2 g2 or2
      have H2 := Lib.hid (HFIN.out v2 w2 (by first | exact o2 | simpa using o2) g2)
      clear o2 g2 or2
      go_wp2
      go_ret
      exact H2.out
  · have hq : keyOkB key = true := by cases h : keyOkB key <;> simp_all
    have p60 : ¬ (60 : Int) < (val.size : Int) := by simp [hq] at hbad; omega
    have HE := Lib.hid (HT.out.trans (putKey_good hq (by omega)))
    rw [hq] at HK
    obtain ⟨z, hz⟩ : ∃ z : Bool, (val.toList == []) = z := ⟨_, rfl⟩
    have HZ0 := Lib.hid (show doneK (xs.take 0) key val = z from by
      rw [← hz]; unfold doneK
      simp only [List.take_zero, List.any_nil, Bool.or_false]
      by_cases h : val.size = 0
      · simp [h, empty_iff.2 h]
      · have : val.toList ≠ [] := fun e => h (empty_iff.1 e)
        simp [h, this])
    have HO0 := Lib.hid (show outK (xs.take 0) key val z = [] from by
      have h0 := HZ0.out
      unfold doneK at h0
      simp only [List.take_zero, List.any_nil, Bool.or_false] at h0
      unfold outK putV
      cases z with
      | false => rfl
      | true => simp only [decide_eq_true_eq] at h0; simp [h0, delK])
    clear hbad hq
    cases z
    all_goals
      go_enter Tryd.func37, Tryd.ntmps37
      go_wp2_with fail
      refine (HK.out _).mono ?_
      rintro e w1 ⟨rfl, rfl⟩
      go_wp2
      go_loopw [7, 8, 9] (fun v d i wr => ∃ (k : Nat) (b : Bool), k ≤ xs.length ∧ i = .int .i64 k ∧ d = .bool b ∧ Hid (doneK (xs.take k) key val = b) ∧ Hid (wr.ownsRow w.heap.size 39 2 v (outK (xs.take k) key val b).length ((outK (xs.take k) key val b).flatMap encC)) ∧ Below w.heap.size w wr) (fun _ _ i _ => xs.length - (intOf i).toNat)
      case atStart => exact ⟨0, _, Nat.zero_le _, rfl, rfl, HZ0, by rw [HO0.out]; exact HRN.out w, (by repeat (first | exact Below.refl _ _ | refine Below.drew ?_ | refine below_drewN ?_ _ | refine Below.allocC ?_ _ | refine Below.setCell ?_ (by first | (simp; done) | (simp; omega)) _ | refine Below.chain ?_ (by assumption)))⟩
      case round =>
        obtain ⟨k, b, hk, rfl, rfl, HD, HW, hb⟩ := hrel
        have hol := outK_len (xs.take k) key val b
        have htl : (xs.take k).length ≤ k := List.length_take_le _ _
        have HOL := Lib.hid (show (outK (xs.take k) key val b).length ≤ 1048577 by omega)
        clear hol htl
        have hol := HOL.out
        by_cases hlt : k < xs.length
        · obtain ⟨y, hy⟩ := some_of_lt hlt
          obtain ⟨bb, off, hab, c0, c1⟩ := readFC HR.out hb hy
          have HY := Lib.hid hy
          have p1 : (0 : Int) ≤ (k : Int) := by omega
          have p2 : (k : Int) < (xs.length : Int) := by omega
          obtain ⟨y0, y1⟩ := y
          dsimp only at c0 c1
          subst hab
          clear hy
          have HDN0 := Lib.hid (doneK_snoc (key := key) (val := val) HY.out)
          cases he : (y0.toList == key.toList) with
          | true =>
            have hdel : delP key (y0, y1) = true := he
            have hne2 : (y0.toList != key.toList) = false := by rw [bne, he]; rfl
            have hlt0 : Op.bytesLess y0.toList key.toList = false := by rw [beq_iff_eq.1 he]; exact less_irr _
            have hgt : gtP key (y0, y1) = false := by unfold gtP ltB; rw [← beq_iff_eq.1 he]; exact less_irr _
            have HS := Lib.hid (outK_same (val := val) (d := b) HY.out hdel)
            have HDN := Lib.hid (HDN0.out.trans (show _ = b by rw [HD.out, hgt, Bool.or_false]))
            clear hdel hgt
            cases b
            · go_wp2
              go_roundw
              case rel => exact ⟨k + 1, false, by omega, by go_num, rfl, HDN, by rw [HS.out]; exact HW, hb⟩
              case measure => simp [intOf]; omega
            · go_wp2
              go_roundw
              case rel => exact ⟨k + 1, true, by omega, by go_num, rfl, HDN, by rw [HS.out]; exact HW, hb⟩
              case measure => simp [intOf]; omega
          | false =>
            have hdel : delP key (y0, y1) = false := he
            have hne2 : (y0.toList != key.toList) = true := by rw [bne, he]; rfl
            cases hl : Op.bytesLess y0.toList key.toList with
            | true =>
              have hgt : gtP key (y0, y1) = false := ltB_asym (show ltB y0 key = true from hl)
              have HDN := Lib.hid (HDN0.out.trans (show _ = b by rw [HD.out, hgt, Bool.or_false]))
              clear hgt
              cases b
              · have HS := Lib.hid (outK_off (val := val) HY.out hdel)
                clear hdel
                go_wp2_with (at_builtin; refine wpList_append_own2 _ rfl _ _ 22 rfl w.heap.size 39 i0 (.agg #[.string ⟨#[]⟩, .string ⟨#[]⟩]) 2 32 Tryd.underlying22 HI.out HZ.out.1 HZ.out.2.1 HZ.out.2.2 rfl (by decide) _ _ _ rfl (HW.out.alloc _) ⟨wr.heap.size, 0, none⟩ 1 1 (encC (y0, y1)) rfl rfl (box_news (Box.new _ (encC (y0, y1)) _)) (encC_one _) (by unfold maxLen; omega) (by omega) (by have := hb.size; simp; omega) ?_)
                intro v' w' o2 g2 or2
                have h := OwnStep.fresh (w := w) (W := wr.alloc (.cells #[.string y0, .string y1] 39)) (e := .returned v') (w' := w') ((by repeat (first | exact Below.refl _ _ | refine Below.drew ?_ | refine below_drewN ?_ _ | refine Below.allocC ?_ _ | refine Below.setCell ?_ (by first | (simp; done) | (simp; omega)) _ | refine Below.chain ?_ (by assumption)))) (HW.out.alloc _) ⟨v', rfl, o2, g2, or2⟩
                have HB2 : Below w.heap.size w w' := by obtain ⟨_, _, _, h⟩ := h; exact h
                have HB3 := Lib.hid HB2
                have HW2 := Lib.hid (show w'.ownsRow w.heap.size 39 2 v' (outK (xs.take (k + 1)) key val false).length ((outK (xs.take (k + 1)) key val false).flatMap encC) from by rw [HS.out, List.length_append, List.flatMap_append]; exact o2)
                clear o2 g2 or2 h HB2 HW
                go_wp2
                go_roundw
                case rel => exact ⟨k + 1, false, by omega, by go_num, rfl, HDN, HW2, HB3.out⟩
                case measure => simp [intOf]; omega
              · have HS := Lib.hid (outK_on HY.out hdel HD.out)
                clear hdel
                go_wp2_with (at_builtin; refine wpList_append_own2 _ rfl _ _ 22 rfl w.heap.size 39 i0 (.agg #[.string ⟨#[]⟩, .string ⟨#[]⟩]) 2 32 Tryd.underlying22 HI.out HZ.out.1 HZ.out.2.1 HZ.out.2.2 rfl (by decide) _ _ _ rfl (HW.out.alloc _) ⟨wr.heap.size, 0, none⟩ 1 1 (encC (y0, y1)) rfl rfl (box_news (Box.new _ (encC (y0, y1)) _)) (encC_one _) (by unfold maxLen; omega) (by omega) (by have := hb.size; simp; omega) ?_)
                intro v' w' o2 g2 or2
                have h := OwnStep.fresh (w := w) (W := wr.alloc (.cells #[.string y0, .string y1] 39)) (e := .returned v') (w' := w') ((by repeat (first | exact Below.refl _ _ | refine Below.drew ?_ | refine below_drewN ?_ _ | refine Below.allocC ?_ _ | refine Below.setCell ?_ (by first | (simp; done) | (simp; omega)) _ | refine Below.chain ?_ (by assumption)))) (HW.out.alloc _) ⟨v', rfl, o2, g2, or2⟩
                have HB2 : Below w.heap.size w w' := by obtain ⟨_, _, _, h⟩ := h; exact h
                have HB3 := Lib.hid HB2
                have HW2 := Lib.hid (show w'.ownsRow w.heap.size 39 2 v' (outK (xs.take (k + 1)) key val true).length ((outK (xs.take (k + 1)) key val true).flatMap encC) from by rw [HS.out, List.length_append, List.flatMap_append]; exact o2)
                clear o2 g2 or2 h HB2 HW
                go_wp2
                go_roundw
                case rel => exact ⟨k + 1, true, by omega, by go_num, rfl, HDN, HW2, HB3.out⟩
                case measure => simp [intOf]; omega
            | false =>
              have hgt : gtP key (y0, y1) = true := by
                unfold gtP ltB
                rw [← gt_is, hl, he]; rfl
              have HDN := Lib.hid (HDN0.out.trans (show _ = true by rw [hgt, Bool.or_true]))
              cases b
              · have HS := Lib.hid (outK_new HY.out hgt HD.out)
                clear hdel hgt
                go_wp2_with (at_builtin; refine wpList_append_own2 _ rfl _ _ 22 rfl w.heap.size 39 i0 (.agg #[.string ⟨#[]⟩, .string ⟨#[]⟩]) 2 32 Tryd.underlying22 HI.out HZ.out.1 HZ.out.2.1 HZ.out.2.2 rfl (by decide) _ _ _ rfl (HW.out.alloc _) ⟨wr.heap.size, 0, none⟩ 1 1 (encC (key, val)) rfl rfl (box_news (Box.new _ (encC (key, val)) _)) (encC_one _) (by unfold maxLen; omega) (by omega) (by have := hb.size; simp; omega) ?_)
                intro v1 w1 o1 g1 or1
                have h := OwnStep.fresh (w := w) (W := wr.alloc (.cells #[.string key, .string val] 39)) (e := .returned v1) (w' := w1) ((by repeat (first | exact Below.refl _ _ | refine Below.drew ?_ | refine below_drewN ?_ _ | refine Below.allocC ?_ _ | refine Below.setCell ?_ (by first | (simp; done) | (simp; omega)) _ | refine Below.chain ?_ (by assumption)))) (HW.out.alloc _) ⟨v1, rfl, o1, g1, or1⟩
                have B1 : Below w.heap.size w w1 := by obtain ⟨_, _, _, h⟩ := h; exact h
                have HO1 := Lib.hid (show w1.ownsRow w.heap.size 39 2 v1 ((outK (xs.take k) key val false).length + 1) ((outK (xs.take k) key val false).flatMap encC ++ encC (key, val)) from o1)
                obtain ⟨_, _, e0, d0, d1⟩ := readFC HR.out B1 HY.out
                cases e0
                clear o1 g1 or1 h HW c0 c1
                go_wp2_with (at_builtin; refine wpList_append_own2 _ rfl _ _ 22 rfl w.heap.size 39 i0 (.agg #[.string ⟨#[]⟩, .string ⟨#[]⟩]) 2 32 Tryd.underlying22 HI.out HZ.out.1 HZ.out.2.1 HZ.out.2.2 rfl (by decide) _ _ _ rfl (HO1.out.alloc _) ⟨w1.heap.size, 0, none⟩ 1 1 (encC (y0, y1)) rfl rfl (box_news (Box.new _ (encC (y0, y1)) _)) (encC_one _) (by unfold maxLen; omega) (by omega) (by have := B1.size; simp; omega) ?_)
                intro v' w' o2 g2 or2
                have h := OwnStep.fresh (w := w) (W := w1.alloc (.cells #[.string y0, .string y1] 39)) (e := .returned v') (w' := w') ((by repeat (first | exact Below.refl _ _ | refine Below.drew ?_ | refine below_drewN ?_ _ | refine Below.allocC ?_ _ | refine Below.setCell ?_ (by first | (simp; done) | (simp; omega)) _ | refine Below.chain ?_ (by assumption)))) (HO1.out.alloc _) ⟨v', rfl, o2, g2, or2⟩
                have HB2 : Below w.heap.size w w' := by obtain ⟨_, _, _, h⟩ := h; exact h
                have HB3 := Lib.hid HB2
                have HW2 := Lib.hid (show w'.ownsRow w.heap.size 39 2 v' (outK (xs.take (k + 1)) key val true).length ((outK (xs.take (k + 1)) key val true).flatMap encC) from by rw [HS.out, List.length_append, List.length_append, List.flatMap_append, List.flatMap_append]; exact (by simpa using o2))
                clear o2 g2 or2 h HB2 HO1
                go_wp2
                go_roundw
                case rel => exact ⟨k + 1, true, by omega, by go_num, rfl, HDN, HW2, HB3.out⟩
                case measure => simp [intOf]; omega
              · have HS := Lib.hid (outK_on HY.out hdel HD.out)
                clear hdel hgt
                go_wp2_with (at_builtin; refine wpList_append_own2 _ rfl _ _ 22 rfl w.heap.size 39 i0 (.agg #[.string ⟨#[]⟩, .string ⟨#[]⟩]) 2 32 Tryd.underlying22 HI.out HZ.out.1 HZ.out.2.1 HZ.out.2.2 rfl (by decide) _ _ _ rfl (HW.out.alloc _) ⟨wr.heap.size, 0, none⟩ 1 1 (encC (y0, y1)) rfl rfl (box_news (Box.new _ (encC (y0, y1)) _)) (encC_one _) (by unfold maxLen; omega) (by omega) (by have := hb.size; simp; omega) ?_)
                intro v' w' o2 g2 or2
                have h := OwnStep.fresh (w := w) (W := wr.alloc (.cells #[.string y0, .string y1] 39)) (e := .returned v') (w' := w') ((by repeat (first | exact Below.refl _ _ | refine Below.drew ?_ | refine below_drewN ?_ _ | refine Below.allocC ?_ _ | refine Below.setCell ?_ (by first | (simp; done) | (simp; omega)) _ | refine Below.chain ?_ (by assumption)))) (HW.out.alloc _) ⟨v', rfl, o2, g2, or2⟩
                have HB2 : Below w.heap.size w w' := by obtain ⟨_, _, _, h⟩ := h; exact h
                have HB3 := Lib.hid HB2
                have HW2 := Lib.hid (show w'.ownsRow w.heap.size 39 2 v' (outK (xs.take (k + 1)) key val true).length ((outK (xs.take (k + 1)) key val true).flatMap encC) from by rw [HS.out, List.length_append, List.flatMap_append]; exact o2)
                clear o2 g2 or2 h HB2 HW
                go_wp2
                go_roundw
                case rel => exact ⟨k + 1, true, by omega, by go_num, rfl, HDN, HW2, HB3.out⟩
                case measure => simp [intOf]; omega
        · obtain rfl : k = xs.length := by omega
          have p2 : ¬ (xs.length : Int) < (xs.length : Int) := by omega
          rw [List.take_of_length_le (Nat.le_refl _)] at HD HW hol
          cases b
          · have HS := Lib.hid (HE.out.trans (outK_end HD.out))
            go_wp2_with (at_builtin; refine wpList_append_own2 _ rfl _ _ 22 rfl w.heap.size 39 i0 (.agg #[.string ⟨#[]⟩, .string ⟨#[]⟩]) 2 32 Tryd.underlying22 HI.out HZ.out.1 HZ.out.2.1 HZ.out.2.2 rfl (by decide) _ _ _ rfl (HW.out.alloc _) ⟨wr.heap.size, 0, none⟩ 1 1 (encC (key, val)) rfl rfl (box_news (Box.new _ (encC (key, val)) _)) (encC_one _) (by unfold maxLen; omega) (by omega) (by have := hb.size; simp; omega) ?_)
            intro v1 w1 o1 g1 or1
            have h := OwnStep.fresh (w := w) (W := wr.alloc (.cells #[.string key, .string val] 39)) (e := .returned v1) (w' := w1) (by repeat (first | exact Below.refl _ _ | refine Below.drew ?_ | refine below_drewN ?_ _ | refine Below.allocC ?_ _ | refine Below.setCell ?_ (by first | (simp; done) | (simp; omega)) _ | refine Below.chain ?_ (by assumption))) (HW.out.alloc _) ⟨v1, rfl, o1, g1, or1⟩
            have H2 := Lib.hid (show Fresh 39 2 (TT.flatMap encC) TT.length w (.returned v1) w1 from by rw [HS.out, List.length_append, List.flatMap_append]; exact (by simpa using h))
            clear o1 g1 or1 h
            go_wp2
            go_ret
            exact H2.out
          · have HS := Lib.hid (show TT = outK xs key val true from HE.out)
            go_wp2
            go_ret
            rw [HS.out]
            exact ⟨_, rfl, HW.out, hb⟩
end Go.Proofs.YtjlmoghifkgehaaDoor
