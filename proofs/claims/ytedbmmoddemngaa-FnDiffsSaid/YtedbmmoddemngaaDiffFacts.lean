/- Plain facts on two stores and on the keys at which they differ: laid over by the second's values at these keys, a right store is the second. No conditions. -/
import Derived.Test.YtedbmmoddemngaaDiff
import Derived.Test.YtedbmmoddemngaaPutFacts
namespace Go.Proofs.Ytedbmmoddemngaa
theorem eqB_comm (a b : ByteArray) : eqB a b = eqB b a := by
  by_cases h : a = b
  · subst h; rfl
  · rw [eqB_false.2 h, eqB_false.2 (fun e => h e.symm)]
/-- Two rising lists of keys with the same members are the same. -/
theorem risingK_ext : ∀ {L M : List ByteArray}, RisingK L → RisingK M → (∀ y, y ∈ L ↔ y ∈ M) → L = M
  | [], [], _, _, _ => rfl
  | [], m :: M, _, _, h => absurd ((h m).2 (List.mem_cons_self ..)) (by simp)
  | l :: L, [], _, _, h => absurd ((h l).1 (List.mem_cons_self ..)) (by simp)
  | l :: L, m :: M, hL, hM, h => by
    obtain ⟨l1, l2⟩ := List.pairwise_cons.1 hL
    obtain ⟨m1, m2⟩ := List.pairwise_cons.1 hM
    have e : l = m := by
      rcases List.mem_cons.1 ((h l).1 (List.mem_cons_self ..)) with e | e
      · exact e
      · rcases List.mem_cons.1 ((h m).2 (List.mem_cons_self ..)) with f | f
        · exact f.symm
        · exact absurd rfl (ltB_ne (ltB_trans (m1 l e) (l1 m f)))
    subst e
    have : L = M := risingK_ext l2 m2 (fun y => ⟨fun hy => by
      rcases List.mem_cons.1 ((h y).1 (List.mem_cons_of_mem _ hy)) with e | e
      · subst e; exact absurd rfl (ltB_ne (l1 y hy))
      · exact e, fun hy => by
      rcases List.mem_cons.1 ((h y).2 (List.mem_cons_of_mem _ hy)) with e | e
      · subst e; exact absurd rfl (ltB_ne (m1 y hy))
      · exact e⟩)
    rw [this]
theorem diffB_comm (xs ys : Sto) : diffB ys xs = diffB xs ys := by
  funext k; unfold diffB; rw [eqB_comm]
theorem keysL_comm (xs ys : Sto) : keysL (ys ++ xs) (diffB ys xs) = keysL (xs ++ ys) (diffB xs ys) :=
  risingK_ext (keysL_rising _ _) (keysL_rising _ _) (fun y => by
    rw [keysL_mem, keysL_mem, List.any_append, List.any_append, Bool.or_comm, diffB_comm])

/-- The second's values at the keys told, put one after another. -/
def applyL (ys xs : Sto) (L : List ByteArray) : Sto := L.foldl (fun x k => putKeyS x k (getKeyS ys k)) xs
def applyUp (xs ys : Sto) (L : List ByteArray) (k : Nat) : Sto := applyL ys xs (L.take k)
theorem applyUp_succ {xs ys : Sto} {L : List ByteArray} {k : Nat} {x : ByteArray} (hx : L[k]? = some x) : applyUp xs ys L (k + 1) = putKeyS (applyUp xs ys L k) x (getKeyS ys x) := by
  unfold applyUp applyL
  rw [List.take_add_one, hx, List.foldl_append]; rfl
theorem applyL_len (ys : Sto) : ∀ (L : List ByteArray) (xs : Sto), (applyL ys xs L).length ≤ xs.length + L.length
  | [], xs => by simp [applyL]
  | l :: L, xs => by
    have h := applyL_len ys L (putKeyS xs l (getKeyS ys l))
    have h2 := putKeyS_len xs l (getKeyS ys l)
    show (applyL ys (putKeyS xs l (getKeyS ys l)) L).length ≤ _
    rw [List.length_cons]; omega
theorem applyUp_len (xs ys : Sto) (L : List ByteArray) (k : Nat) : (applyUp xs ys L k).length ≤ xs.length + k :=
  Nat.le_trans (applyL_len ys _ xs) (Nat.add_le_add_left (List.length_take_le _ _) _)
theorem applyL_get {ys : Sto} (k : ByteArray) : ∀ (L : List ByteArray) (xs : Sto), (∀ l ∈ L, keyOkB l = true ∧ (getKeyS ys l).size ≤ 60) → (k ∈ L → getKeyS (applyL ys xs L) k = getKeyS ys k) ∧ (k ∉ L → getKeyS (applyL ys xs L) k = getKeyS xs k)
  | [], xs, _ => ⟨fun h => absurd h (by simp), fun _ => rfl⟩
  | l :: L, xs, h => by
    have hl := h l (List.mem_cons_self ..)
    have ih := applyL_get k L (putKeyS xs l (getKeyS ys l)) (fun z hz => h z (List.mem_cons_of_mem _ hz))
    rw [putKey_good hl.1 hl.2] at ih
    have e0 : applyL ys xs (l :: L) = applyL ys (putV xs l (getKeyS ys l)) L := by
      show applyL ys (putKeyS xs l (getKeyS ys l)) L = _
      rw [putKey_good hl.1 hl.2]
    rw [e0]
    refine ⟨fun hk => ?_, fun hk => ?_⟩
    · by_cases hm : k ∈ L
      · exact ih.1 hm
      · rcases List.mem_cons.1 hk with e | hm'
        · subst e; rw [ih.2 hm, getKey_put_self]
        · exact absurd hm' hm
    · have h1 : k ≠ l := fun e => hk (by rw [e]; exact List.mem_cons_self ..)
      rw [ih.2 (fun hm => hk (List.mem_cons_of_mem _ hm)), getKey_put xs h1]
theorem applyL_right {ys : Sto} : ∀ (L : List ByteArray) (xs : Sto), storeOkB xs = true → xs.length + L.length < 900 → storeOkB (applyL ys xs L) = true
  | [], _, h, _ => h
  | l :: L, xs, h, hl => by
    rw [List.length_cons] at hl
    have h2 := putKeyS_len xs l (getKeyS ys l)
    exact applyL_right L (putKeyS xs l (getKeyS ys l)) (storeOk_put h (by omega) l _) (by omega)

theorem ba_pos {v : ByteArray} (h : inB (v.size : Int) 1 60 = true) : 0 < v.size ∧ v.size ≤ 60 := by
  unfold inB at h
  simp only [Bool.and_eq_true, decide_eq_true_eq] at h
  omega
theorem empty_sz : ByteArray.empty.size = 0 := rfl
/-- Two rising stores of no empty value that answer alike are the same. -/
theorem sto_ext : ∀ {xs ys : Sto}, Rising xs → Rising ys → (∀ x ∈ xs, 0 < x.2.size) → (∀ y ∈ ys, 0 < y.2.size) → (∀ k, getKeyS xs k = getKeyS ys k) → xs = ys
  | [], [], _, _, _, _, _ => rfl
  | [], y :: ys, _, _, _, hy, h => by
    have e := h y.1
    rw [getKey_nil, getKey_cons, if_pos (eqB_self _)] at e
    have := hy y (List.mem_cons_self ..)
    rw [← e, empty_sz] at this; omega
  | x :: xs, [], _, _, hx, _, h => by
    have e := h x.1
    rw [getKey_nil, getKey_cons, if_pos (eqB_self _)] at e
    have := hx x (List.mem_cons_self ..)
    rw [e, empty_sz] at this; omega
  | x :: xs, y :: ys, rx, ry, hx, hy, h => by
    obtain ⟨x1, x2⟩ := List.pairwise_cons.1 rx
    obtain ⟨y1, y2⟩ := List.pairwise_cons.1 ry
    have px := hx x (List.mem_cons_self ..)
    have py := hy y (List.mem_cons_self ..)
    have k1 : ltB x.1 y.1 = false := by
      cases hc : ltB x.1 y.1 with
      | false => rfl
      | true =>
        exfalso
        have e := h x.1
        rw [getKey_cons, if_pos (eqB_self _), getKey_not (y :: ys) (fun z hz => by
          rcases List.mem_cons.1 hz with e | hz
          · rw [e]; exact fun e => ltB_ne hc e.symm
          · exact fun e => ltB_ne (ltB_trans hc (y1 z hz)) e.symm)] at e
        rw [e, empty_sz] at px; omega
    have k2 : ltB y.1 x.1 = false := by
      cases hc : ltB y.1 x.1 with
      | false => rfl
      | true =>
        exfalso
        have e := h y.1
        rw [getKey_cons (y := y), if_pos (eqB_self _), getKey_not (x :: xs) (fun z hz => by
          rcases List.mem_cons.1 hz with e | hz
          · rw [e]; exact fun e => ltB_ne hc e.symm
          · exact fun e => ltB_ne (ltB_trans hc (x1 z hz)) e.symm)] at e
        rw [← e, empty_sz] at py; omega
    have e1 : x.1 = y.1 := ltB_tri k1 k2
    have e2 : x.2 = y.2 := by
      have e := h x.1
      rw [getKey_cons, if_pos (eqB_self _), getKey_cons, if_pos (by rw [e1]; exact eqB_self _)] at e
      exact e
    have e3 : x = y := Prod.ext e1 e2
    subst e3
    have : xs = ys := sto_ext x2 y2 (fun z hz => hx z (List.mem_cons_of_mem _ hz)) (fun z hz => hy z (List.mem_cons_of_mem _ hz)) (fun k => by
      by_cases hk : k = x.1
      · subst hk
        rw [getKey_not xs (fun z hz e => ltB_ne (x1 z hz) e.symm), getKey_not ys (fun z hz e => ltB_ne (y1 z hz) e.symm)]
      · have e := h k
        rw [getKey_cons, getKey_cons, if_neg, if_neg] at e
        · exact e
        · rw [eqB_false.2 (fun e => hk e.symm)]; simp
        · rw [eqB_false.2 (fun e => hk e.symm)]; simp)
    rw [this]
theorem get_any {xs : Sto} {k : ByteArray} (h : xs.any (keyP k) = true) : ∃ v, (k, v) ∈ xs := by
  obtain ⟨x, hx, hk⟩ := List.any_eq_true.1 h
  have : x.1 = k := eqB_iff.1 hk
  exact ⟨x.2, by rw [← this]; exact hx⟩
theorem get_size (n : Nat) (k : ByteArray) : ∀ xs : Sto, (∀ x ∈ xs, x.2.size ≤ n) → (getKeyS xs k).size ≤ n
  | [], _ => by rw [getKey_nil, empty_sz]; omega
  | x :: xs, h => by
    rw [getKey_cons]
    split
    · exact h x (List.mem_cons_self ..)
    · exact get_size n k xs (fun z hz => h z (List.mem_cons_of_mem _ hz))
/-- Laid over by what differs, a right store is the other right store. -/
theorem applyL_same {xs ys : Sto} (hx : storeOkB xs = true) (hy : storeOkB ys = true) (hl : xs.length + (keysL (xs ++ ys) (diffB xs ys)).length < 900) : applyL ys xs (keysL (xs ++ ys) (diffB xs ys)) = ys := by
  obtain ⟨xc, xr, _⟩ := (storeOk_iff xs).1 hx
  obtain ⟨yc, yr, _⟩ := (storeOk_iff ys).1 hy
  obtain ⟨zc, zr, _⟩ := (storeOk_iff _).1 (applyL_right (ys := ys) _ xs hx hl)
  refine sto_ext zr yr (fun z hz => (ba_pos (zc z hz).2).1) (fun z hz => (ba_pos (yc z hz).2).1) (fun k => ?_)
  have hget := applyL_get (ys := ys) k (keysL (xs ++ ys) (diffB xs ys)) xs (fun l hl => by
    refine ⟨?_, get_size 60 l ys (fun z hz => (ba_pos (yc z hz).2).2)⟩
    have ha := ((keysL_mem _ _ _).1 hl).2
    obtain ⟨v, hv⟩ := get_any ha
    rcases List.mem_append.1 hv with hv | hv
    · exact (xc _ hv).1
    · exact (yc _ hv).1)
  by_cases hk : k ∈ keysL (xs ++ ys) (diffB xs ys)
  · exact hget.1 hk
  · rw [hget.2 hk]
    rw [keysL_mem] at hk
    cases ha : (xs ++ ys).any (keyP k) with
    | true =>
      cases hd : diffB xs ys k with
      | true => exact absurd ⟨hd, ha⟩ hk
      | false =>
        unfold diffB at hd
        exact eqB_iff.1 (by simpa using hd)
    | false =>
      rw [List.any_append, Bool.or_eq_false_iff] at ha
      rw [any_false_get ha.1, any_false_get ha.2]
theorem diff_key {xs ys : Sto} {k : ByteArray} (h : k ∈ keysL (xs ++ ys) (diffB xs ys)) : getKeyS xs k ≠ getKeyS ys k := by
  have := ((keysL_mem _ _ _).1 h).1
  unfold diffB at this
  exact eqB_false.1 (by simpa using this)
theorem diff_sizes {xs ys : Sto} {n : Nat} (hx : ∀ x ∈ xs, x.1.size ≤ n) (hy : ∀ y ∈ ys, y.1.size ≤ n) {k : ByteArray} (h : k ∈ keysL (xs ++ ys) (diffB xs ys)) : k.size ≤ n := by
  obtain ⟨v, hv⟩ := get_any ((keysL_mem _ _ _).1 h).2
  rcases List.mem_append.1 hv with hv | hv
  · exact hx _ hv
  · exact hy _ hv
theorem rising_at {L : List ByteArray} (h : RisingK L) {k : Nat} {x y : ByteArray} (hx : L[k]? = some x) (hy : L[k + 1]? = some y) : ltB x y = true := by
  obtain ⟨h1, e1⟩ := List.getElem?_eq_some_iff.1 hx
  obtain ⟨h2, e2⟩ := List.getElem?_eq_some_iff.1 hy
  have := List.pairwise_iff_getElem.1 h k (k + 1) h1 h2 (by omega)
  rw [e1, e2] at this
  exact this
end Go.Proofs.Ytedbmmoddemngaa
