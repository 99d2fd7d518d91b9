/- The keys at which two stores differ, and the reading of a store as a map, in plain Lean; laws for look-ups of texts in a map. No conditions. -/
import Derived.Test.YtedbmmoddemngaaPutFacts
import Derived.Maps.RangeWalk
import Derived.Maps.OwnSet
import Derived.Maps.StringElems
import Derived.Sort.KeysCollected
namespace Go.Proofs.Ytedbmmoddemngaa
open Go.Maps Go.RowKit
/-- A text as a key, and as an element. -/
abbrev kl (k : ByteArray) : Lit := .string k.data.toList
abbrev vd (v : ByteArray) : DataW Unit := .lit (.string v.data.toList)
theorem kl_key (k : ByteArray) : WideAt.IsKeyLit (kl k) := by simp [WideAt.IsKeyLit]
theorem kl_inj {a b : ByteArray} (h : kl a = kl b) : a = b := by
  have h1 : a.data.toList = b.data.toList := by simpa [kl] using h
  exact ByteArray.ext (Array.toList_inj.1 h1)
theorem kl_ne {a b : ByteArray} (h : a ≠ b) : kl a ≠ kl b := fun e => h (kl_inj e)
theorem vd_inj {a b : ByteArray} (h : vd a = vd b) : a = b := by
  have h1 : a.data.toList = b.data.toList := by simpa [vd] using h
  exact ByteArray.ext (Array.toList_inj.1 h1)
theorem lit_kl (x : List UInt8) : (.string x : Lit) = kl ⟨x.toArray⟩ := by simp [kl]
def stepV (D : DataW Unit) (x : ByteArray × ByteArray) : DataW Unit := if Maps.has D (kl x.1) then D else D.put (kl x.1) (vd x.2)
/-- The store as a map: the first value of each key. -/
def mapV (D : DataW Unit) (xs : Sto) : DataW Unit := xs.foldl stepV D
def mapUp (xs : Sto) (k : Nat) : DataW Unit := mapV (.map []) (xs.take k)
theorem mapUp_succ {xs : Sto} {k : Nat} {x : ByteArray × ByteArray} (hx : xs[k]? = some x) : mapUp xs (k + 1) = stepV (mapUp xs k) x := by
  unfold mapUp mapV; rw [take_snoc_of hx, List.foldl_append]; rfl
theorem stepV_isMap {D : DataW Unit} (h : IsMap D) (x : ByteArray × ByteArray) : IsMap (stepV D x) := by
  unfold stepV; split
  · exact h
  · exact h.put _ _
theorem mapV_isMap : ∀ (xs : Sto) (D : DataW Unit), IsMap D → IsMap (mapV D xs)
  | [], _, h => h
  | x :: xs, D, h => mapV_isMap xs (stepV D x) (stepV_isMap h x)
theorem mapV_cons (D : DataW Unit) (x : ByteArray × ByteArray) (xs : Sto) : mapV D (x :: xs) = mapV (stepV D x) xs := rfl
theorem stepV_has {D : DataW Unit} (h : IsMap D) (x : ByteArray × ByteArray) (k : ByteArray) : Maps.has (stepV D x) (kl k) = (Maps.has D (kl k) || keyP k x) := by
  unfold stepV
  by_cases e : x.1 = k
  · have hk : keyP k x = true := eqB_iff.2 e
    rw [hk, e, Bool.or_true]
    split
    · assumption
    · exact has_put_same h (kl_key _) _
  · have hk : keyP k x = false := eqB_false.2 e
    rw [hk, Bool.or_false]
    split
    · rfl
    · exact has_put_other (kl_ne (fun a => e a.symm)) _
theorem mapV_has (k : ByteArray) : ∀ (xs : Sto) (D : DataW Unit), IsMap D → Maps.has (mapV D xs) (kl k) = (Maps.has D (kl k) || xs.any (keyP k))
  | [], D, _ => by simp [mapV]
  | x :: xs, D, h => by rw [mapV_cons, mapV_has k xs _ (stepV_isMap h x), stepV_has h, List.any_cons, Bool.or_assoc]
theorem stepV_at {D : DataW Unit} (h : IsMap D) (x : ByteArray × ByteArray) (k : ByteArray) (z : DataW Unit) : (stepV D x).atKey (kl k) z = if Maps.has D (kl k) then D.atKey (kl k) z else if keyP k x then vd x.2 else z := by
  unfold stepV
  by_cases e : x.1 = k
  · have hk : keyP k x = true := eqB_iff.2 e
    rw [hk, e, if_pos rfl]
    split
    · rfl
    · exact atKey_put_same h (kl_key _) _ _
  · have hk : keyP k x = false := eqB_false.2 e
    rw [hk, if_neg (by simp : ¬ (false = true))]
    have h2 : (if Maps.has D (kl x.1) = true then D else D.put (kl x.1) (vd x.2)).atKey (kl k) z = D.atKey (kl k) z := by
      split
      · rfl
      · exact atKey_put_other (kl_ne (fun a => e a.symm)) _ _
    rw [h2]
    split
    · rfl
    · rename_i hn
      exact atKey_of_not_has (by simpa using hn) z
theorem mapV_at (k : ByteArray) (z : DataW Unit) : ∀ (xs : Sto) (D : DataW Unit), IsMap D → (mapV D xs).atKey (kl k) z = if Maps.has D (kl k) then D.atKey (kl k) z else if xs.any (keyP k) then vd (getKeyS xs k) else z
  | [], D, _ => by
    show D.atKey (kl k) z = _
    split
    · rfl
    · rename_i hn
      exact atKey_of_not_has (by simpa using hn) z
  | x :: xs, D, h => by
    rw [mapV_cons, mapV_at k z xs _ (stepV_isMap h x), stepV_has h, stepV_at h, List.any_cons, getKey_cons]
    show _ = if Maps.has D (kl k) = true then _ else if (keyP k x || xs.any (keyP k)) = true then vd (if keyP k x = true then x.2 else getKeyS xs k) else z
    cases h1 : Maps.has D (kl k) <;> cases h2 : keyP k x <;> cases h3 : xs.any (keyP k) <;> rfl
/-- The whole store read as a map. -/
def mapS (xs : Sto) : DataW Unit := mapUp xs xs.length
theorem mapS_is (xs : Sto) : mapS xs = mapV (.map []) xs := by unfold mapS mapUp; rw [List.take_length]
theorem mapS_has (xs : Sto) (k : ByteArray) : Maps.has (mapS xs) (kl k) = xs.any (keyP k) := by
  rw [mapS_is, mapV_has k xs _ isMap_empty]; rfl
theorem any_false_get {xs : Sto} {k : ByteArray} (h : xs.any (keyP k) = false) : getKeyS xs k = ⟨#[]⟩ := by
  refine getKey_not xs (fun x hx e => ?_)
  have := List.any_eq_false.1 h x hx
  exact this (eqB_iff.2 e)
theorem mapS_at (xs : Sto) (k : ByteArray) : (mapS xs).atKey (kl k) (vd ⟨#[]⟩) = vd (getKeyS xs k) := by
  rw [mapS_is, mapV_at k _ xs _ isMap_empty]
  have : Maps.has (.map [] : DataW Unit) (kl k) = false := rfl
  rw [this, if_neg (by simp : ¬ (false = true))]
  cases h : xs.any (keyP k) with
  | true => rfl
  | false => rw [any_false_get h]; rfl
/-- Do the stores differ at k? -/
def diffB (a b : Sto) (k : ByteArray) : Bool := !(eqB (getKeyS a k) (getKeyS b k))
/-- The keys of a list that are asked for, rising, once each. -/
def keysL (L : Sto) (p : ByteArray → Bool) : List ByteArray := L.foldl (fun acc x => if p x.1 then addS acc x.1 else acc) []
def keysUp (L : Sto) (p : ByteArray → Bool) (k : Nat) : List ByteArray := keysL (L.take k) p
theorem keysUp_succ {L : Sto} {p : ByteArray → Bool} {k : Nat} {x : ByteArray × ByteArray} (hx : L[k]? = some x) : keysUp L p (k + 1) = if p x.1 then addS (keysUp L p k) x.1 else keysUp L p k := by
  unfold keysUp keysL; rw [take_snoc_of hx, List.foldl_append]; rfl
theorem mem_addS {y x : ByteArray} : ∀ {L : List ByteArray}, y ∈ addS L x ↔ y = x ∨ y ∈ L
  | [] => by simp [addS]
  | z :: L => by
    unfold addS
    split
    · rw [List.mem_cons, mem_addS, List.mem_cons]
      constructor
      · rintro (h | h | h) <;> simp [h]
      · rintro (h | h | h) <;> simp [h]
    · split
      · rename_i h
        have := eqB_iff.1 h
        subst this
        simp
      · simp
def RisingK (L : List ByteArray) : Prop := L.Pairwise (fun a b => ltB a b = true)
theorem rising_addS {x : ByteArray} : ∀ {L : List ByteArray}, RisingK L → RisingK (addS L x)
  | [], _ => List.pairwise_singleton _ _
  | z :: L, h => by
    have h1 := List.pairwise_cons.1 h
    unfold addS
    split
    · rename_i hz
      refine List.pairwise_cons.2 ⟨fun y hy => ?_, rising_addS h1.2⟩
      rcases mem_addS.1 hy with rfl | hy
      · exact hz
      · exact h1.1 y hy
    · rename_i hz
      split
      · exact h
      · rename_i he
        have hxz : ltB x z = true := ltB_tri' (by simpa using hz) (fun e => he (eqB_iff.2 e))
        refine List.pairwise_cons.2 ⟨fun y hy => ?_, h⟩
        rcases List.mem_cons.1 hy with rfl | hy
        · exact hxz
        · exact ltB_trans hxz (h1.1 y hy)
theorem foldK_mem {p : ByteArray → Bool} {y : ByteArray} : ∀ (L : Sto) (acc : List ByteArray), y ∈ L.foldl (fun acc x => if p x.1 then addS acc x.1 else acc) acc ↔ y ∈ acc ∨ (p y = true ∧ L.any (keyP y) = true)
  | [], acc => by simp
  | x :: L, acc => by
    rw [List.foldl_cons, foldK_mem L, List.any_cons]
    have hk : keyP y x = true ↔ x.1 = y := eqB_iff
    by_cases hp : p x.1 = true
    · rw [if_pos hp, mem_addS]
      by_cases e : x.1 = y
      · subst e
        simp [hp, hk.2 rfl]
      · have : keyP y x = false := by rw [← Bool.not_eq_true]; exact fun h => e (hk.1 h)
        rw [this, Bool.false_or]
        constructor
        · rintro ((h | h) | h)
          · exact absurd h.symm e
          · exact .inl h
          · exact .inr h
        · rintro (h | h)
          · exact .inl (.inr h)
          · exact .inr h
    · rw [if_neg hp]
      by_cases e : x.1 = y
      · subst e
        simp [hp]
      · have : keyP y x = false := by rw [← Bool.not_eq_true]; exact fun h => e (hk.1 h)
        rw [this, Bool.false_or]
theorem foldK_rising {p : ByteArray → Bool} : ∀ (L : Sto) (acc : List ByteArray), RisingK acc → RisingK (L.foldl (fun acc x => if p x.1 then addS acc x.1 else acc) acc)
  | [], _, h => h
  | x :: L, acc, h => by
    rw [List.foldl_cons]
    refine foldK_rising L _ ?_
    split
    · exact rising_addS h
    · exact h
theorem keysL_mem (L : Sto) (p : ByteArray → Bool) (y : ByteArray) : y ∈ keysL L p ↔ (p y = true ∧ L.any (keyP y) = true) := by
  unfold keysL; rw [foldK_mem]; simp
theorem keysL_rising (L : Sto) (p : ByteArray → Bool) : RisingK (keysL L p) := foldK_rising L [] List.Pairwise.nil
theorem foldK_len {p : ByteArray → Bool} : ∀ (L : Sto) (acc : List ByteArray), (L.foldl (fun acc x => if p x.1 then addS acc x.1 else acc) acc).length ≤ acc.length + L.length
  | [], _ => Nat.le_refl _
  | x :: L, acc => by
    rw [List.foldl_cons, List.length_cons]
    refine Nat.le_trans (foldK_len L _) ?_
    have := addS_len acc x.1
    split <;> omega
theorem keysL_len (L : Sto) (p : ByteArray → Bool) : (keysL L p).length ≤ L.length := by
  have := foldK_len (p := p) L []
  simpa [keysL] using this
theorem keysUp_len (L : Sto) (p : ByteArray → Bool) (k : Nat) : (keysUp L p k).length ≤ k := Nat.le_trans (keysL_len _ _) (List.length_take_le _ _)
theorem less_is : ∀ x y : List UInt8, Op.bytesLess x y = true ↔ x < y
  | [], [] => by simp [Op.bytesLess]
  | [], _ :: _ => by simp [Op.bytesLess]
  | _ :: _, [] => by simp [Op.bytesLess]
  | a :: x, b :: y => by
    rw [List.cons_lt_cons_iff, ← less_is x y]
    simp [Op.bytesLess]
/-- A rising list of keys is what a map's keys sort to. -/
theorem keys_sorted {D : DataW Unit} {L : List ByteArray} {ss : List (List UInt8)} (hr : RisingK L) (hp : ss.Perm (strKeys D)) (hD : (L.map (fun s => s.data.toList)).Perm (strKeys D)) :
    (ss.mergeSort (fun x y => decide (x ≤ y))).map encStr = L.flatMap encS ∧ ss.length = L.length := by
  have h1 : ss.mergeSort Go.leB = (L.map (fun s => s.data.toList)).mergeSort Go.leB := mergeSort_of_perm (hp.trans hD.symm)
  have h2 : (L.map (fun s => s.data.toList)).Pairwise (fun a b => Go.leB a b = true) := by
    refine List.pairwise_map.2 (hr.imp ?_)
    intro a b hab
    have hba := ltB_asym hab
    refine decide_eq_true (List.not_lt.1 (fun h => ?_))
    have := (less_is b.data.toList a.data.toList).2 h
    unfold ltB at hba
    rw [Lib.toList_data, Lib.toList_data] at hba
    rw [this] at hba
    cases hba
  have h3 : (L.map (fun s => s.data.toList)).mergeSort Go.leB = L.map (fun s => s.data.toList) := List.mergeSort_of_pairwise h2
  constructor
  · show (ss.mergeSort Go.leB).map encStr = _
    rw [h1, h3, List.map_map]
    clear h1 h2 h3 hp hD hr
    induction L with
    | nil => rfl
    | cons y ys ih => rw [List.map_cons, ih]; rfl
  · have := (hp.trans hD.symm).length_eq
    rw [this, List.length_map]
/-- The keys of the map that tells the keys of L asked for. -/
theorem keys_perm {P : Program} {t : TypeId} {R : Value → Option (DataW Unit × List MemPlace)} {w : World} {bd n : Nat} {D : DataW Unit} (hown : w.ownsMap P t R bd n D) (K : Keyed P t) (hk : P.underlying t = some .string) {L : Sto} {p : ByteArray → Bool}
    (hh : ∀ k, Maps.has D (kl k) = (p k && L.any (keyP k))) : ((keysL L p).map (fun s => s.data.toList)).Perm (strKeys D) := by
  obtain ⟨es, hD, hpw, _⟩ := hown.entries K
  obtain ⟨es', hD', hko⟩ := hown.keysOf
  obtain rfl : es = es' := by rw [hD] at hD'; simpa using hD'
  subst hD
  refine perm_strKeys hpw (fun q hq => by obtain ⟨v, hv⟩ := hko q hq; obtain ⟨x, _, hx, _⟩ := Maps.keyOf_str hk hv; exact ⟨x, hx⟩) ?_ (fun x => ?_)
  · refine List.pairwise_map.2 ((keysL_rising L p).imp ?_)
    intro a b hab e
    have : a = b := ByteArray.ext (Array.toList_inj.1 e)
    exact ltB_ne hab this
  · rw [lit_kl, hh, Bool.and_eq_true, ← keysL_mem L p, List.mem_map]
    constructor
    · rintro ⟨s, hs, e⟩
      rw [← e]; exact hs
    · intro h
      exact ⟨_, h, rfl⟩
end Go.Proofs.Ytedbmmoddemngaa
