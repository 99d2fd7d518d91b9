/- Contract: the program's valuesOf reads a store as a map: the first value of each key. Conditions: only the bounds that any Go slice and string meets. -/
import Derived.Test.YtedbmmoddemngaaDiff
namespace Go.Proofs.Ytedbmmoddemngaa
open Go.Maps Go.RowKit
attribute [local go_sem ↓] Go.wp_at_zero Go.wp_at_succ
section
variable {P : Program} (w : World) {ops : Array Oper} {rest : List Oper} {o : Oper} {a : Act} {Q : Exit → Act → World → Prop}
/-- 'm[k]' at elements that are texts, of which it is known what the map holds. -/
theorem wpList_lookup_str (hg : o.guard = none) (m x : Operand) (t : TypeId) (hop : o.op = Op.lookup t m x false)
    (k e : TypeId) (K : Keyed P k) (ht : P.underlying t = some (.map k e)) (he : P.underlying e = some .string) (hz : (zeroValue e).run P w = .ok (.string ⟨#[]⟩) w) (b n : Nat) (D : DataW Unit)
    (hm : a.eval m = .map (some b)) (hown : w.ownsMap P k (plainElem P e) b n D) (key : Value) (kk : Lit) (hx : a.eval x = key) (hkey : keyOf P k key = some kk)
    (c0 : ByteArray) (hc0 : D.atKey kk (vd ⟨#[]⟩) = vd c0) (hK : wpList P ops Q rest (a.put o.dst (.string c0)) w) :
    wpList P ops Q (o :: rest) a w := by
  refine wpList_plain hg fun K' hK' => ?_
  obtain ⟨v, ps, hrun, hv⟩ := hown.lookup K ht hz (plainElem_string he (by decide)) hkey
  obtain ⟨s, rfl, hs, _⟩ := plainElem_string_inv he hv
  have : s = c0 := vd_inj ((congrArg Prod.fst hs).symm.trans hc0)
  subst this
  unfold Oper.wp
  simp [execOp, hop, hm, hx, hrun, Result.andThen]
  exact hK' _ _ hK
/-- 'v, ok := m[k]' likewise. -/
theorem wpList_lookup_ok_str (hg : o.guard = none) (m x : Operand) (t : TypeId) (hop : o.op = Op.lookup t m x true)
    (k e : TypeId) (K : Keyed P k) (ht : P.underlying t = some (.map k e)) (he : P.underlying e = some .string) (hz : (zeroValue e).run P w = .ok (.string ⟨#[]⟩) w) (b n : Nat) (D : DataW Unit)
    (hm : a.eval m = .map (some b)) (hown : w.ownsMap P k (plainElem P e) b n D) (key : Value) (kk : Lit) (hx : a.eval x = key) (hkey : keyOf P k key = some kk)
    (ok : Bool) (hok : Maps.has D kk = ok) (hK : ∀ c : ByteArray, wpList P ops Q rest (a.put o.dst (.tuple #[.string c, .bool ok])) w) :
    wpList P ops Q (o :: rest) a w :=
  wpList_lookup_own_ok w hg m x t hop k e K ht (plainElem P e) hz (vd ⟨#[]⟩) [] (plainElem_string he (by decide)) b n D hm hown key kk hx hkey (fun v ps hv => by
    obtain ⟨c, rfl, hc, hwc⟩ := plainElem_string_inv he hv
    rw [hok]
    exact hK c)
/-- A range's step over a map of texts keyed by texts. -/
theorem wpList_next_ss (hg : o.guard = none) (it : Operand) (hop : o.op = Op.next it false) (k e : TypeId) (K : Keyed P k) (hk : P.underlying k = some .string) (he : P.underlying e = some .string)
    (b r n : Nat) (D : DataW Unit) (left : Lit → Bool) (cnt : Nat) (hit : a.eval it = .pointer (some ⟨r, 0, none⟩)) (h : w.ranges P k (plainElem P e) b r n D left cnt)
    (hDone : cnt = 0 → (∀ z, left z = false) → wpList P ops Q rest (a.put o.dst (.tuple #[.bool false])) w)
    (hMore : ∀ (x c : ByteArray) (w' : World) (cnt' : Nat), x.size ≤ maxLen → left (kl x) = true → (∀ zd, D.atKey (kl x) zd = vd c) → w'.ranges P k (plainElem P e) b r n D (fun z => left z && !z.sameKey (kl x)) cnt' → cnt' < cnt →
      w.grownBy w' (some r) → w'.heap.size = w.heap.size → (Instr.entry (.pointer (some ⟨r, 0, none⟩))).run P w' = .ok (.tuple #[.string x, .string c]) w' → wpList P ops Q rest (a.put o.dst (.tuple #[.bool true, .string x, .string c])) w') :
    wpList P ops Q (o :: rest) a w := by
  have hs : ∀ key kk, keyOf P k key = some kk → ∃ s : ByteArray, key = .string s ∧ kk = kl s ∧ s.size ≤ maxLen := fun key kk h => by
    obtain ⟨x, h1, h2, h3⟩ := Maps.keyOf_str hk h
    exact ⟨⟨x.toArray⟩, h1, by rw [h2, lit_kl], by show x.toArray.size ≤ maxLen; rw [List.size_toArray]; exact h3⟩
  refine wpList_next_ranges w hg it hop k K (plainElem P e) Value.string Value.string (fun key kk hkey => ?_) (fun v y hv => ?_) b r n D left cnt hit h hDone (fun x c kk y w' cnt' hkey hlk hv hat hrg hlt hgr hsz hen => ?_)
  · obtain ⟨s, h1, _⟩ := hs key kk hkey
    exact ⟨s, h1⟩
  · obtain ⟨c, h1, _⟩ := plainElem_string_inv he hv
    exact ⟨c, h1⟩
  · obtain ⟨s, h1, rfl, h3⟩ := hs _ _ hkey
    cases h1
    obtain ⟨c', h4, rfl, _⟩ := plainElem_string_inv he hv
    cases h4
    exact hMore x c w' cnt' h3 hlk hat hrg hlt hgr hsz hen
end
theorem lawK : Keyed Try.prog 9 := string_keyed Try.underlying9
theorem zeroS (w : World) : (zeroValue 9).run Try.prog w = .ok (.string ⟨#[]⟩) w := by kernel_rfl
theorem keyS {s : ByteArray} (h : s.size ≤ maxLen) : keyOf Try.prog 9 (.string s) = some (kl s) := by simp [keyOf, Try.underlying9, mapKey, h]
theorem below_of_map {w W w' : World} {b : Nat} (hb : Below w.heap.size w W) (hge : w.heap.size ≤ b) (hg : W.grownBy w' (some b)) : Below w.heap.size w w' :=
  hb.grown hg hb.size (fun j hj => by cases hj; exact hge)

set_option maxRecDepth 100000 in
set_option maxHeartbeats 4000000 in
theorem valuesOf_c (a : Option Addr) (cap : Nat) (xs : Sto) (w : World) (hlen : xs.length ≤ 1048576) (hr : Reads w a 2 encC xs) (ho : ∀ x ∈ xs, x.1.size ≤ maxLen ∧ x.2.size ≤ maxLen) :
    Calls Try.prog 25 #[.slice a xs.length cap] w fun e w' => ∃ b, e = .returned (.map (some b)) ∧ w.heap.size ≤ b ∧ w'.ownsMap Try.prog 9 (plainElem Try.prog 9) b xs.length (mapS xs) ∧ Below w.heap.size w w' := by
  have HR := Lib.hid hr
  have HO := Lib.hid ho
  clear hr ho
  have hmm := @run_makeMap Try.prog
  have HM0 := Lib.hid (show (w.alloc (.map #[] 0)).ownsMap Try.prog 9 (plainElem Try.prog 9) w.heap.size 0 (mapUp xs 0) from World.ownsMap_made _ _ _ _)
  go_enter Try.func25, Try.ntmps25
  go_wp2
  go_loopw [11] (fun i wr => ∃ k : Nat, k ≤ xs.length ∧ i = .int .i64 k ∧ Hid (wr.ownsMap Try.prog 9 (plainElem Try.prog 9) w.heap.size k (mapUp xs k)) ∧ Below w.heap.size w wr) (fun i _ => xs.length - (intOf i).toNat)
  case atStart => exact ⟨0, Nat.zero_le _, rfl, HM0, (Below.refl _ _).alloc (Nat.le_refl _) _⟩
  case round =>
    obtain ⟨k, hk, rfl, HW, hb⟩ := hrel
    by_cases hlt : k < xs.length
    · have p1 : (0 : Int) ≤ (k : Int) := by omega
      have p2 : (k : Int) < (xs.length : Int) := by omega
      obtain ⟨x, hx⟩ := some_of_lt hlt
      obtain ⟨b, off, hab, c0, c1⟩ := readFC HR.out hb hx
      cases hab
      have HX := Lib.hid (HO.out x (List.mem_of_getElem? hx))
      have HS := Lib.hid (mapUp_succ hx)
      have HB := Lib.hid hb
      obtain ⟨x0, x1⟩ := x
      dsimp only at c0 c1
      have BX := Lib.hid (Box.new wr [.string x0, .string x1] 41)
      have d0 : (wr.alloc (.cells #[.string x0, .string x1] 41)).cell? ⟨wr.heap.size, 0, none⟩ = some (.string x0) := BX.out.cell 0 _ rfl
      have d1 : (wr.alloc (.cells #[.string x0, .string x1] 41)).cell? ⟨wr.heap.size, 1, none⟩ = some (.string x1) := BX.out.cell 1 _ rfl
      have HW1 := Lib.hid (HW.out.alloc (.cells #[.string x0, .string x1] 41))
      have HKy := Lib.hid (keyS HX.out.1)
      have HB1 := Lib.hid (hb.alloc hb.size (.cells #[.string x0, .string x1] 41))
      clear hx hb
      cases hh : Maps.has (mapUp xs k) (kl x0) with
      | true =>
        have HE := Lib.hid (show mapUp xs (k + 1) = mapUp xs k by rw [HS.out]; unfold stepV; rw [if_pos hh])
        go_wp2_with (first | (at_lookup; refine wpList_lookup_ok_str _ rfl _ _ 46 rfl 9 9 lawK Try.underlying46 Try.underlying9 (zeroS _) w.heap.size k _ rfl HW1.out _ (kl x0) rfl HKy.out true hh ?_; intro c) | go_in)
        go_wp2
        go_roundw
        case rel => exact ⟨k + 1, by omega, by go_num, Lib.hid (by rw [HE.out]; exact HW1.out.mono (by omega)), HB1.out⟩
        case measure => simp [intOf]; omega
      | false =>
        have HE := Lib.hid (show mapUp xs (k + 1) = (mapUp xs k).put (kl x0) (vd x1) by rw [HS.out]; unfold stepV; rw [if_neg (by rw [hh]; simp)])
        go_wp2_with (first | (at_lookup; refine wpList_lookup_ok_str _ rfl _ _ 46 rfl 9 9 lawK Try.underlying46 Try.underlying9 (zeroS _) w.heap.size k _ rfl HW1.out _ (kl x0) rfl HKy.out false hh ?_; intro c) | (at_mapUpdate; refine wpList_mapUpdate_own _ rfl _ _ _ 46 rfl 9 9 lawK Try.underlying46 _ w.heap.size k _ rfl HW1.out (by unfold maxLen; omega) _ _ _ rfl rfl HKy.out _ [] (plainElem_string Try.underlying9 HX.out.2) ?_; intro w1 hown1 hgrow1) | go_in)
        have HW2 := Lib.hid (show w1.ownsMap Try.prog 9 (plainElem Try.prog 9) w.heap.size (k + 1) (mapUp xs (k + 1)) from by rw [HE.out]; exact hown1)
        have HB2 := Lib.hid (below_of_map HB1.out (Nat.le_refl _) hgrow1)
        clear hown1 hgrow1
        go_wp2
        go_roundw
        case rel => exact ⟨k + 1, by omega, by go_num, HW2, HB2.out⟩
        case measure => simp [intOf]; omega
    · obtain rfl : k = xs.length := by omega
      have p2 : ¬ (xs.length : Int) < (xs.length : Int) := by omega
      go_wp2
      go_ret
      exact ⟨_, rfl, Nat.le_refl _, HW.out, hb⟩
end Go.Proofs.Ytedbmmoddemngaa
