/- What putting into a store does, in plain Lean: what is read after it, that it is done once, that two of them change places, that a right store stays right. No program. -/
import Derived.Test.YtedbmmoddemngaaPutKey
import Derived.Test.YtedbmmoddemngaaKeyAt
import Derived.Test.YtedbmmoddemngaaStoreOk
namespace Go.Proofs.Ytedbmmoddemngaa
abbrev Sto := List (ByteArray × ByteArray)
theorem getKey_nil (k : ByteArray) : getKeyS [] k = ByteArray.empty := rfl
theorem getKey_cons (y : ByteArray × ByteArray) (ys : Sto) (k : ByteArray) : getKeyS (y :: ys) k = if eqB y.1 k then y.2 else getKeyS ys k := by
  unfold getKeyS
  rw [List.findIdx_cons]
  cases h : eqB y.1 k with
  | true => rw [show keyP k y = true from h]; rfl
  | false => rw [show keyP k y = false from h]; rfl
theorem delK_cons (y : ByteArray × ByteArray) (ys : Sto) (k : ByteArray) : delK (y :: ys) k = if eqB y.1 k then delK ys k else y :: delK ys k := by
  unfold delK
  rw [List.filter_cons]
  cases eqB y.1 k <;> rfl
theorem insK_cons (c y : ByteArray × ByteArray) (ys : Sto) : insK c (y :: ys) = if ltB c.1 y.1 then c :: y :: ys else y :: insK c ys := by rw [insK]
theorem delK_none' {xs : Sto} {k : ByteArray} : ∀ x ∈ delK xs k, x.1 ≠ k := fun x hx => by
  have := (List.mem_filter.1 hx).2
  simp only [Bool.not_eq_true'] at this
  exact eqB_false.1 this
theorem getKey_del (xs : Sto) {key k : ByteArray} (h : k ≠ key) : getKeyS (delK xs key) k = getKeyS xs k := by
  induction xs with
  | nil => rfl
  | cons y ys ih =>
    rw [delK_cons, getKey_cons]
    by_cases e : y.1 = key
    · rw [if_pos (eqB_iff.2 e), ih, if_neg (fun a => h ((eqB_iff.1 a).symm.trans e))]
    · rw [if_neg (fun a => e (eqB_iff.1 a)), getKey_cons, ih]
theorem getKey_ins (xs : Sto) {c : ByteArray × ByteArray} {k : ByteArray} (h : k ≠ c.1) : getKeyS (insK c xs) k = getKeyS xs k := by
  induction xs with
  | nil =>
    show getKeyS [c] k = _
    rw [getKey_cons, if_neg (fun a => h (eqB_iff.1 a).symm)]
  | cons y ys ih =>
    rw [insK_cons]
    split
    · rw [getKey_cons, if_neg (fun a => h (eqB_iff.1 a).symm)]
    · rw [getKey_cons, getKey_cons, ih]
theorem getKey_put (xs : Sto) {key val k : ByteArray} (h : k ≠ key) : getKeyS (putV xs key val) k = getKeyS xs k := by
  unfold putV
  split
  · exact getKey_del xs h
  · rw [getKey_ins _ h, getKey_del xs h]
theorem getKey_ins_self (xs : Sto) {c : ByteArray × ByteArray} (h : ∀ x ∈ xs, x.1 ≠ c.1) : getKeyS (insK c xs) c.1 = c.2 := by
  induction xs with
  | nil =>
    show getKeyS [c] c.1 = _
    rw [getKey_cons, if_pos (eqB_self _)]
  | cons y ys ih =>
    rw [insK_cons]
    split
    · rw [getKey_cons, if_pos (eqB_self _)]
    · rw [getKey_cons, if_neg (fun a => h y List.mem_cons_self (eqB_iff.1 a)), ih (fun x hx => h x (List.mem_cons_of_mem _ hx))]
theorem getKey_not (xs : Sto) {k : ByteArray} (h : ∀ x ∈ xs, x.1 ≠ k) : getKeyS xs k = ByteArray.empty := by
  induction xs with
  | nil => rfl
  | cons y ys ih => rw [getKey_cons, if_neg (fun a => h y List.mem_cons_self (eqB_iff.1 a)), ih (fun x hx => h x (List.mem_cons_of_mem _ hx))]
theorem size_zero {v : ByteArray} (h : v.size = 0) : v = ByteArray.empty := by
  apply ByteArray.ext
  exact Array.eq_empty_of_size_eq_zero h
/-- What was put is read. -/
theorem getKey_put_self (xs : Sto) (key val : ByteArray) : getKeyS (putV xs key val) key = val := by
  unfold putV
  split
  · rename_i h
    rw [getKey_not _ delK_none', size_zero h]
  · exact getKey_ins_self _ delK_none'
theorem any_ins (c : ByteArray × ByteArray) (xs : Sto) : (insK c xs).any (keyP c.1) = true := by
  rw [List.any_eq_true]
  refine ⟨c, ?_, eqB_self c.1⟩
  rw [insK_is]
  simp
/-- The key is there just when a value was put. -/
theorem any_put (xs : Sto) (key val : ByteArray) : (putV xs key val).any (keyP key) = !(decide (val.size = 0)) := by
  unfold putV
  split
  · rename_i h
    rw [decide_eq_true h, List.any_eq_false.2]
    · rfl
    · intro x hx e
      exact delK_none' x hx (eqB_iff.1 e)
  · rename_i h
    rw [decide_eq_false h, any_ins (key, val)]
    rfl
theorem delK_same {xs : Sto} {k : ByteArray} (h : ∀ x ∈ xs, x.1 ≠ k) : delK xs k = xs := by
  unfold delK
  rw [List.filter_eq_self]
  intro x hx
  rw [eqB_false.2 (h x hx)]
  rfl
theorem delK_ins_self {xs : Sto} {c : ByteArray × ByteArray} (h : ∀ x ∈ xs, x.1 ≠ c.1) : delK (insK c xs) c.1 = xs := by
  induction xs with
  | nil =>
    show delK [c] c.1 = _
    rw [delK_cons, if_pos (eqB_self _)]
    rfl
  | cons y ys ih =>
    have h1 := h y List.mem_cons_self
    have h2 := fun x hx => h x (List.mem_cons_of_mem y hx)
    rw [insK_cons]
    split
    · rw [delK_cons, if_pos (eqB_self _), delK_same h]
    · rw [delK_cons, if_neg (fun a => h1 (eqB_iff.1 a)), ih h2]
/-- Put twice is put once. -/
theorem putV_twice (xs : Sto) (key val : ByteArray) : putV (putV xs key val) key val = putV xs key val := by
  unfold putV
  split
  · exact delK_same delK_none'
  · rw [delK_ins_self (c := (key, val)) delK_none']
theorem putKeyS_twice (xs : Sto) (key val : ByteArray) : putKeyS (putKeyS xs key val) key val = putKeyS xs key val := by
  unfold putKeyS
  split
  · rfl
  · exact putV_twice xs key val
theorem delK_comm (xs : Sto) (k l : ByteArray) : delK (delK xs k) l = delK (delK xs l) k := by
  unfold delK
  rw [List.filter_filter, List.filter_filter]
  congr 1
  funext c
  exact Bool.and_comm _ _
theorem insK_comm (xs : Sto) {c d : ByteArray × ByteArray} (h : c.1 ≠ d.1) : insK c (insK d xs) = insK d (insK c xs) := by
  induction xs with
  | nil =>
    show insK c [d] = insK d [c]
    rw [insK_cons, insK_cons]
    cases e : ltB c.1 d.1 with
    | true => rw [ltB_asym e]; rfl
    | false => rw [ltB_tri' e h]; rfl
  | cons y ys ih =>
    rw [insK_cons c, insK_cons d]
    cases e1 : ltB d.1 y.1 with
    | true =>
      cases e2 : ltB c.1 y.1 with
      | true =>
        rw [if_pos rfl, if_pos rfl, insK_cons c d, insK_cons d c, insK_cons c y, insK_cons d y, e1, e2]
        cases e : ltB c.1 d.1 with
        | true => rw [ltB_asym e]; rfl
        | false => rw [ltB_tri' e h]; rfl
      | false =>
        rw [if_pos rfl, if_neg (by simp), insK_cons, insK_cons, insK_cons, e1, e2]
        have : ltB c.1 d.1 = false := by
          rw [← Bool.not_eq_true]; intro k
          rw [ltB_trans k e1] at e2; cases e2
        rw [this]
        rfl
    | false =>
      cases e2 : ltB c.1 y.1 with
      | true =>
        rw [if_neg (by simp), if_pos rfl, insK_cons, insK_cons, insK_cons, e1, e2]
        have : ltB d.1 c.1 = false := by
          rw [← Bool.not_eq_true]; intro k
          rw [ltB_trans k e2] at e1; cases e1
        rw [this]
        rfl
      | false =>
        rw [if_neg (by simp), if_neg (by simp), insK_cons, insK_cons, e1, e2, if_neg (by simp), if_neg (by simp), ih]
def Rising (xs : Sto) : Prop := xs.Pairwise (fun a b => ltB a.1 b.1 = true)
theorem rising_del {xs : Sto} (h : Rising xs) (k : ByteArray) : Rising (delK xs k) := List.Pairwise.filter _ h
theorem insK_head {c : ByteArray × ByteArray} {xs : Sto} (h : ∀ x ∈ xs, ltB c.1 x.1 = true) : insK c xs = c :: xs := by
  cases xs with
  | nil => rfl
  | cons y ys => rw [insK_cons, if_pos (h y List.mem_cons_self)]
theorem delK_ins (xs : Sto) {c : ByteArray × ByteArray} {k : ByteArray} (hs : Rising xs) (h : c.1 ≠ k) : delK (insK c xs) k = insK c (delK xs k) := by
  induction xs with
  | nil =>
    show delK [c] k = [c]
    rw [delK_cons, if_neg (fun a => h (eqB_iff.1 a))]
    rfl
  | cons y ys ih =>
    have h1 := List.pairwise_cons.1 hs
    rw [insK_cons]
    cases e : ltB c.1 y.1 with
    | true =>
      rw [if_pos rfl, delK_cons, if_neg (fun a => h (eqB_iff.1 a)), insK_head]
      intro x hx
      rcases List.mem_cons.1 (List.mem_filter.1 hx).1 with rfl | hx
      · exact e
      · exact ltB_trans e (h1.1 x hx)
    | false =>
      rw [if_neg (by simp), delK_cons, delK_cons, ih h1.2]
      split
      · rfl
      · rw [insK_cons, if_neg (by simp [e])]
theorem putV_comm {xs : Sto} (hs : Rising xs) {k l v u : ByteArray} (h : k ≠ l) : putV (putV xs k v) l u = putV (putV xs l u) k v := by
  unfold putV
  split <;> split
  · exact delK_comm xs k l
  · rw [delK_ins (c := (k, v)) _ (rising_del hs k) h, delK_comm]
  · rw [delK_ins (c := (l, u)) _ (rising_del hs l) h.symm, delK_comm]
  · rw [delK_ins (c := (k, v)) _ (rising_del hs k) h, delK_ins (c := (l, u)) _ (rising_del hs l) h.symm, insK_comm _ (c := (l, u)) (d := (k, v)) h.symm, delK_comm]
theorem putKeyS_comm {xs : Sto} (hs : Rising xs) {k l v u : ByteArray} (h : k ≠ l) : putKeyS (putKeyS xs k v) l u = putKeyS (putKeyS xs l u) k v := by
  unfold putKeyS
  split <;> split <;> first | rfl | exact putV_comm hs h
theorem rising_ins {xs : Sto} {c : ByteArray × ByteArray} (hs : Rising xs) (h : ∀ x ∈ xs, x.1 ≠ c.1) : Rising (insK c xs) := by
  induction xs with
  | nil => exact List.pairwise_singleton _ _
  | cons y ys ih =>
    have h1 := List.pairwise_cons.1 hs
    rw [insK_cons]
    cases e : ltB c.1 y.1 with
    | true =>
      rw [if_pos rfl]
      refine List.pairwise_cons.2 ⟨fun x hx => ?_, hs⟩
      rcases List.mem_cons.1 hx with rfl | hx
      · exact e
      · exact ltB_trans e (h1.1 x hx)
    | false =>
      rw [if_neg (by simp)]
      refine List.pairwise_cons.2 ⟨fun x hx => ?_, ih h1.2 (fun x hx => h x (List.mem_cons_of_mem _ hx))⟩
      rcases insK_mem hx with rfl | hx
      · exact ltB_tri' e (h y List.mem_cons_self).symm
      · exact h1.1 x hx
theorem rising_put {xs : Sto} (hs : Rising xs) (key val : ByteArray) : Rising (putV xs key val) := by
  unfold putV
  split
  · exact rising_del hs _
  · exact rising_ins (rising_del hs _) delK_none'
/-- A cell by itself is right. -/
def cellOk (x : ByteArray × ByteArray) : Prop := keyOkB x.1 = true ∧ inB (x.2.size : Int) 1 60 = true
theorem leB_lt (c p : ByteArray) : leB c p = !(ltB p c) := (leB_spec c p).symm
/-- What a right store is. -/
theorem storeOk_iff (xs : Sto) : storeOkB xs = true ↔ (∀ x ∈ xs, cellOk x) ∧ Rising xs ∧ (xs.length : Int) ≤ 900 := by
  unfold storeOkB
  rw [Bool.and_eq_true, decide_eq_true_iff, List.all_eq_true]
  constructor
  · rintro ⟨h, hl⟩
    have H : ∀ (j : Nat) x, xs[j]? = some x → badCell xs j = false := fun j x hx => by
      have := h j (List.mem_range.2 (lt_of_some hx))
      simpa using this
    have G : ∀ (j : Nat) x, xs[j]? = some x → cellOk x ∧ fallB xs j x.1 = false := fun j x hx => by
      have := H j x hx
      rw [bad_is hx, Bool.or_eq_false_iff, Bool.or_eq_false_iff] at this
      exact ⟨⟨by simpa using this.1.1, by simpa using this.1.2⟩, this.2⟩
    refine ⟨fun x hx => ?_, ?_, hl⟩
    · obtain ⟨j, hj⟩ := List.mem_iff_getElem?.1 hx
      exact (G j x hj).1
    · have step : ∀ (d i : Nat) (hj : i + d + 1 < xs.length), ltB (xs[i]'(by omega)).1 (xs[i + d + 1]'hj).1 = true := by
        intro d
        induction d with
        | zero =>
          intro i hj
          have := (G (i + 1) _ (List.getElem?_eq_getElem hj)).2
          rw [fall_succ (List.getElem?_eq_getElem (by omega)), leB_lt] at this
          simpa using this
        | succ d ih =>
          intro i hj
          have a := ih i (by omega)
          have := (G (i + d + 1 + 1) _ (List.getElem?_eq_getElem hj)).2
          rw [fall_succ (List.getElem?_eq_getElem (by omega)), leB_lt] at this
          exact ltB_trans a (by simpa using this)
      exact List.pairwise_iff_getElem.2 fun i j hi hj hij => by
        have := step (j - i - 1) i (by omega)
        simpa [show i + (j - i - 1) + 1 = j by omega] using this
  · rintro ⟨h, hr, hl⟩
    refine ⟨fun j hj => ?_, hl⟩
    have hj := List.mem_range.1 hj
    rw [bad_is (List.getElem?_eq_getElem hj)]
    have hc := h _ (List.getElem_mem hj)
    rw [hc.1, hc.2]
    cases j with
    | zero => rfl
    | succ j =>
      rw [fall_succ (List.getElem?_eq_getElem (by omega)), leB_lt, List.pairwise_iff_getElem.1 hr j (j + 1) (by omega) hj (by omega)]
      rfl
/-- A right store with room stays right. -/
theorem storeOk_put {xs : Sto} (h : storeOkB xs = true) (hl : xs.length < 900) (key val : ByteArray) : storeOkB (putKeyS xs key val) = true := by
  have ⟨h1, h2, _⟩ := (storeOk_iff xs).1 h
  unfold putKeyS
  split
  · exact h
  · rename_i hk
    rw [not_or] at hk
    refine (storeOk_iff _).2 ⟨fun x hx => ?_, rising_put h2 key val, by have := putV_len xs key val; omega⟩
    by_cases hz : val.size = 0
    · rw [putV_del hz] at hx
      exact h1 x (List.mem_filter.1 hx).1
    · rcases putV_mem hx with rfl | hx
      · exact ⟨by simpa using hk.1, inB_yes (by dsimp only; omega) (by dsimp only; omega)⟩
      · exact h1 x hx
end Go.Proofs.Ytedbmmoddemngaa
