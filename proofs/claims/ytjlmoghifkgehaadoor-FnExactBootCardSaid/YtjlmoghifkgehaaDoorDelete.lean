/- Contract: the library's slices.DeleteFunc at cells, with put's own closure: the cells of a key leave an own row, in place. Conditions: only the bounds that any Go slice meets. -/
import Derived.Test.YtjlmoghifkgehaaDoorRun
import Derived.Test.YtjlmoghifkgehaaDoorOrd
import Derived.Test.YtjlmoghifkgehaaDoorSliceCell
namespace Go.Proofs.YtjlmoghifkgehaaDoor
open Go.RowKit
attribute [local go_sem ↓] Go.wp_at_zero Go.wp_at_succ
def delP (key : ByteArray) (c : ByteArray × ByteArray) : Bool := eqB c.1 key
theorem delFn_c (key : ByteArray) (B : Nat) (W : World) (hc : W.cell? ⟨B, 0, none⟩ = some (.string key)) (x : ByteArray × ByteArray) :
    Calls Tryd.prog 54 #[.agg #[.string x.1, .string x.2], .pointer (some ⟨B, 0, none⟩)] W fun e w' => e = .returned (.bool (delP key x)) ∧ Below W.heap.size W w' := by
  have hBW : B < W.heap.size := World.block_lt_of_cell? W _ hc
  have hne : B ≠ W.heap.size := by omega
  have HG := Lib.hid (show delP key x = (x.1.toList == key.toList) from rfl)
  cases hq : (x.1.toList == key.toList)
  all_goals
    go_enter Tryd.func54, Tryd.ntmps54
    go_wp2
    go_ret
    exact ⟨by rw [HG.out, hq]; rfl, (by repeat (first | exact Below.refl _ _ | refine Below.drew ?_ | refine below_drewN ?_ _ | refine Below.allocC ?_ _ | refine Below.setCell ?_ (by first | (simp; done) | (simp; omega)) _ | refine Below.chain ?_ (by assumption)))⟩
theorem gtFn_c (key : ByteArray) (B : Nat) (W : World) (hc : W.cell? ⟨B, 0, none⟩ = some (.string key)) (x : ByteArray × ByteArray) :
    Calls Tryd.prog 56 #[.agg #[.string x.1, .string x.2], .pointer (some ⟨B, 0, none⟩)] W fun e w' => e = .returned (.bool (gtP key x)) ∧ Below W.heap.size W w' := by
  have hBW : B < W.heap.size := World.block_lt_of_cell? W _ hc
  have hne : B ≠ W.heap.size := by omega
  have HG := Lib.hid (show gtP key x = !(Op.bytesLess x.1.toList key.toList || x.1.toList == key.toList) from (gt_is _ _).symm)
  cases hq : (x.1.toList == key.toList) <;> cases hp : Op.bytesLess x.1.toList key.toList
  all_goals
    go_enter Tryd.func56, Tryd.ntmps56
    go_wp2
    go_ret
    exact ⟨by rw [HG.out, hq, hp]; rfl, (by repeat (first | exact Below.refl _ _ | refine Below.drew ?_ | refine below_drewN ?_ _ | refine Below.allocC ?_ _ | refine Below.setCell ?_ (by first | (simp; done) | (simp; omega)) _ | refine Below.chain ?_ (by assumption)))⟩

theorem delK_none {xs : List (ByteArray × ByteArray)} {key : ByteArray} (h : noneUp (delP key) xs xs.length) : delK xs key = xs := by
  unfold delK
  rw [List.filter_eq_self]
  intro x hx
  obtain ⟨j, hj⟩ := List.mem_iff_getElem?.1 hx
  have := h j x (lt_of_some hj) hj
  unfold delP at this
  simp [this]
theorem delK_keep {xs : List (ByteArray × ByteArray)} {key : ByteArray} {k : Nat} {x : ByteArray × ByteArray} (hx : xs[k]? = some x) (h : delP key x = false) : delK (xs.take (k + 1)) key = delK (xs.take k) key ++ [x] := by
  unfold delK; rw [take_snoc_of hx, List.filter_append]; unfold delP at h; simp [h]
theorem delK_drop {xs : List (ByteArray × ByteArray)} {key : ByteArray} {k : Nat} {x : ByteArray × ByteArray} (hx : xs[k]? = some x) (h : delP key x = true) : delK (xs.take (k + 1)) key = delK (xs.take k) key := by
  unfold delK; rw [take_snoc_of hx, List.filter_append]; unfold delP at h; simp [h]
theorem delK_first {xs : List (ByteArray × ByteArray)} {key : ByteArray} {k : Nat} {x : ByteArray × ByteArray} (hu : noneUp (delP key) xs k) (hx : xs[k]? = some x) (h : delP key x = true) : delK (xs.take (k + 1)) key = xs.take k := by
  rw [delK_drop hx h]
  unfold delK
  rw [List.filter_eq_self]
  intro y hy
  obtain ⟨j, hj⟩ := List.mem_iff_getElem?.1 hy
  rw [List.getElem?_take] at hj
  split at hj
  · have := hu j y (by assumption) hj
    unfold delP at this
    simp [this]
  · cases hj
theorem delK_lt {xs : List (ByteArray × ByteArray)} {key : ByteArray} {k j : Nat} {x : ByteArray × ByteArray} (hx : xs[k]? = some x) (h : delP key x = true) (hj : k < j) (hl : j ≤ xs.length) : (delK (xs.take j) key).length < j := by
  have hk := lt_of_some hx
  have hlen : (xs.take j).length = j := by rw [List.length_take]; omega
  rcases Nat.lt_or_ge (delK (xs.take j) key).length j with h1 | h1
  · exact h1
  · exfalso
    have e : (delK (xs.take j) key).length = (xs.take j).length := by
      have := delK_len (xs.take j) key
      omega
    have e2 := List.length_filter_eq_length_iff.1 e x (by
      rw [List.mem_iff_getElem?]
      exact ⟨k, by rw [List.getElem?_take, if_pos hj]; exact hx⟩)
    unfold delP at h
    simp [h] at e2

theorem cell_keepG {w w' : World} {g B : Nat} {v : Value} (hg : w.grownBy w' (some g)) (hne : g ≠ B) (hc : w.cell? ⟨B, 0, none⟩ = some v) : w'.cell? ⟨B, 0, none⟩ = some v :=
  (World.cell?_of_block (hg.block B (World.block_lt_of_cell? w _ hc) (by intro e; cases e; exact hne rfl))).trans hc

set_option maxRecDepth 100000 in
set_option maxHeartbeats 4000000 in
set_option maxRecDepth 100000 in
theorem deleteC_c (v : Value) (base B : Nat) (xs : List (ByteArray × ByteArray)) (key : ByteArray) (w : World) (hlen : xs.length ≤ 4194304) (ho : w.ownsRow base 39 2 v xs.length (xs.flatMap encC))
    (hB : w.cell? ⟨B, 0, none⟩ = some (.string key)) (hne : ∀ k, v.ownBlock = some k → k ≠ B) (_hbase : base ≤ w.heap.size) :
    Calls Tryd.prog 53 #[v, .func (.func 54) #[] #[.pointer (some ⟨B, 0, none⟩)]] w
      (OwnStep 39 2 base v (delK xs key).length ((delK xs key).flatMap encC) w) := by
  have eg : ∀ args w, (callFunc 54 args).run Tryd.prog w = .ok (.enter 54 args) w := fun args w => enters_of Tryd.func54 (by kernel_rfl) rfl args w
  have HEG := Lib.hid eg
  obtain ⟨a, cap, rfl, hr⟩ := reads_of_owns encC_len ho
  have HR := Lib.hid hr
  have HO := Lib.hid ho
  have HBc := Lib.hid hB
  have hBlt : B < w.heap.size := World.block_lt_of_cell? w _ hB
  have K := Lib.hid (indexFuncC_c a cap xs (delP key) 54 #[.pointer (some ⟨B, 0, none⟩)] eg w (fun W x _ hb => delFn_c key B W (keepS hb hB) x) (by unfold maxLen; omega) hr)
  obtain ⟨TT, hTT⟩ : ∃ TT, TT = delK xs key := ⟨_, rfl⟩
  have HT := Lib.hid hTT
  rw [← hTT]
  clear hTT hr hB eg
  rcases Nat.lt_or_ge (xs.findIdx (delP key)) xs.length with hlt | hge
  · obtain ⟨x0, hx0⟩ := some_of_lt hlt
    obtain ⟨k0, hk0⟩ : ∃ k, xs.findIdx (delP key) = k := ⟨_, rfl⟩
    have HI2 := Lib.hid (idxI_lt hlt)
    have hup : noneUp (delP key) xs k0 := fun j y hj hy => by
      rw [← hk0] at hj
      have := List.not_of_lt_findIdx hj
      obtain ⟨hl, rfl⟩ := List.getElem?_eq_some_iff.1 hy
      simpa using this
    have hp0 : delP key x0 = true := by
      have := List.findIdx_getElem (w := hlt)
      obtain ⟨hl, e⟩ := List.getElem?_eq_some_iff.1 hx0
      rw [← e]; exact this
    have HKK := Lib.hid hk0
    rw [hk0] at hlt hx0 HI2
    have HX0 := Lib.hid hx0
    have HP0 := Lib.hid hp0
    have HST := Lib.hid (delK_first hup hx0 hp0)
    clear hk0 hup hp0 hx0
    rcases ho.2 with ⟨hv, h0⟩ | ⟨g, cap', cur, hv, hbg, hg, hnc, hcm, hcs, htk⟩
    · omega
    · simp only [Value.slice.injEq] at hv
      obtain ⟨rfl, _, rfl⟩ := hv
      have hgB : g ≠ B := hne g rfl
      have HCM := Lib.hid hcm
      unfold maxLen at hcm
      have HF0 := Lib.hid (show Filling w g 39 2 cap ((xs.take k0).flatMap encC) from ⟨cur, hg, hcs, by
        have e := (take_flatMap_const encC_len xs k0 (by omega)).symm
        rw [length_flatMap_const encC_len, e, ← htk, List.take_take, List.length_take]
        congr 1; omega⟩)
      have HRow := Lib.hid (show ∀ j y, xs[j]? = some y → w.cell? ⟨g, j * 2, none⟩ = some (.string y.1) ∧ w.cell? ⟨g, j * 2 + 1, none⟩ = some (.string y.2) from fun j y hy => by
        rcases HR.out with rfl | ⟨b, off, e, _, h3⟩
        · simp at hy
        · cases e
          have a0 := h3 j y hy 0 _ rfl
          have a1 := h3 j y hy 1 _ rfl
          simp only [Nat.zero_add, Nat.add_zero] at a0 a1
          exact ⟨a0, a1⟩)
      have hne1 : ((k0 : Int) == -1) = false := beq_eq_false_iff_ne.2 (by omega)
      clear hg hcs htk ho hne
      go_enter Tryd.func53, Tryd.ntmps53
      go_wp2_with fail
      refine K.out.mono ?_
      rintro e w1 ⟨rfl, hb1⟩
      rw [HKK.out, HI2.out]
      have B1 := Lib.hid hb1
      clear hb1
      go_wp2
      go_loopw [5, 6, 7] (fun i j _ wr => ∃ m : Nat, k0 < m ∧ m ≤ xs.length ∧ j = .int .i64 m ∧ i = .int .i64 (delK (xs.take m) key).length ∧ Hid (Filling wr g 39 2 cap ((delK (xs.take m) key).flatMap encC)) ∧ Hid (∀ t, m * 2 ≤ t → wr.cell? ⟨g, t, none⟩ = w.cell? ⟨g, t, none⟩) ∧ Hid (w.grownBy wr (some g))) (fun _ j _ _ => xs.length - (intOf j).toNat)
      case atStart =>
        refine ⟨k0 + 1, by omega, by omega, by go_num, ?_, ?_, ?_, ?_⟩
        · rw [HST.out, List.length_take]; congr 2; omega
        · rw [HST.out]; exact Lib.hid (HF0.out.below B1.out)
        · exact Lib.hid (fun t _ => B1.out.cell (p := ⟨g, t, none⟩) (HF0.out.lt))
        · exact Lib.hid (grownBy_of_below B1.out _)
      case round =>
        obtain ⟨m, hkm, hm, rfl, rfl, HF, HC, HG⟩ := hrel
        have p1 : (0 : Int) ≤ (m : Int) := by omega
        have hdl := delK_lt HX0.out HP0.out hkm hm
        by_cases hlt2 : m < xs.length
        · obtain ⟨y, hy⟩ := some_of_lt hlt2
          have p2 : (m : Int) < (xs.length : Int) := by omega
          have HY := Lib.hid hy
          have c0 := (HC.out (m * 2) (by omega)).trans (HRow.out m y hy).1
          have c1 := (HC.out (m * 2 + 1) (by omega)).trans (HRow.out m y hy).2
          have cB : wr.cell? ⟨B, 0, none⟩ = some (.string key) := cell_keepG HG.out hgB HBc.out
          have HcB := Lib.hid cB
          have hglt : g < wr.heap.size := HF.out.lt
          have hgne : g ≠ wr.heap.size := by omega
          have hBlt2 : B < wr.heap.size := World.block_lt_of_cell? wr _ cB
          have HCall := Lib.hid (fun (W : World) (hW : Below wr.heap.size wr W) => delFn_c key B W (keepS hW HcB.out) y)
          have hl2 : (delK (xs.take m) key).length ≤ 4194304 := by omega
          obtain ⟨y0, y1⟩ := y
          dsimp only at c0 c1
          clear hy cB
          have eg := HEG.out
          cases hq : delP key (y0, y1) with
          | false =>
            have HS := Lib.hid (delK_keep HY.out hq)
            rw [hq] at HCall
            obtain ⟨n, hn⟩ : ∃ n, (delK (xs.take m) key).length = n := ⟨_, rfl⟩
            have HN := Lib.hid hn
            rw [hn] at hdl hl2 ⊢
            clear hn hq
            have pn0 : (0 : Int) ≤ (n : Int) := by omega
            have pn1 : (n : Int) < (xs.length : Int) := by omega
            go_wp2_with (go_at_fn 54; refine (HCall.out _ (by repeat (first | exact Below.refl _ _ | refine Below.allocC ?_ _ | refine Below.setCell ?_ (by simp) _))).mono ?_; rintro e w2 ⟨rfl, hb2⟩; have d0 : w2.cell? ⟨wr.heap.size, 0, none⟩ = some (.string y0) := keepS hb2 (by simp); have d1 : w2.cell? ⟨wr.heap.size, 1, none⟩ = some (.string y1) := keepS hb2 (by simp); have B2 := Lib.hid (show Below wr.heap.size wr w2 from (by repeat (first | exact Below.refl _ _ | refine Below.drew ?_ | refine below_drewN ?_ _ | refine Below.allocC ?_ _ | refine Below.setCell ?_ (by first | (simp; done) | (simp; omega)) _ | refine Below.chain ?_ (by assumption)))); have F2 := HF.out.below B2.out; have f0 := F2.free (n * 2); have f1 := F2.free (n * 2 + 1); obtain ⟨o0, z0⟩ := F2.cell (n * 2) (by omega); obtain ⟨o1, z1⟩ := F2.cell (n * 2 + 1) (by omega); clear F2)
            have hfl : ((delK (xs.take m) key).flatMap encC).length = n * 2 := by rw [length_flatMap_const encC_len, HN.out]
            have F3 := Lib.hid (show Filling ((w2.setCell ⟨g, n * 2, none⟩ (.string y0)).setCell ⟨g, n * 2 + 1, none⟩ (.string y1)) g 39 2 cap ((delK (xs.take (m + 1)) key).flatMap encC) from by
              have h := (HF.out.below B2.out).stores [.string y0, .string y1] (n * 2) hfl.symm (by rw [hfl]; simp; omega)
              rw [HS.out, List.flatMap_append]; exact h)
            have HC3 := Lib.hid (show ∀ t, (m + 1) * 2 ≤ t → ((w2.setCell ⟨g, n * 2, none⟩ (.string y0)).setCell ⟨g, n * 2 + 1, none⟩ (.string y1)).cell? ⟨g, t, none⟩ = w.cell? ⟨g, t, none⟩ from fun t ht => by
              rw [World.cell?_setCell_other _ _ _ _ (by first | (simp; done) | (simp; omega)), World.cell?_setCell_other _ _ _ _ (by first | (simp; done) | (simp; omega)), B2.out.cell (p := ⟨g, t, none⟩) hglt]
              exact HC.out t (by omega))
            have HG3 := Lib.hid (show w.grownBy ((w2.setCell ⟨g, n * 2, none⟩ (.string y0)).setCell ⟨g, n * 2 + 1, none⟩ (.string y1)) (some g) from grownBy_trans (grownBy_trans HG.out (grownBy_of_below B2.out _)) (sets_grown [.string y0, .string y1] w2 g (n * 2)))
            have HL3 := Lib.hid (show (delK (xs.take (m + 1)) key).length = n + 1 from by rw [HS.out, List.length_append, HN.out]; rfl)
            clear hfl d0 d1 f0 f1 z0 z1
            go_wp2
            go_roundw
            case rel => exact ⟨m + 1, by omega, by omega, by go_num, by rw [HL3.out]; go_num, F3, HC3, HG3⟩
            case measure => simp [intOf]; omega
          | true =>
            have HS := Lib.hid (delK_drop HY.out hq)
            rw [hq] at HCall
            clear hq
            go_wp2_with (go_at_fn 54; refine (HCall.out _ (by repeat (first | exact Below.refl _ _ | refine Below.allocC ?_ _ | refine Below.setCell ?_ (by simp) _))).mono ?_; rintro e w2 ⟨rfl, hb2⟩; have B2 := Lib.hid (show Below wr.heap.size wr w2 from (by repeat (first | exact Below.refl _ _ | refine Below.drew ?_ | refine below_drewN ?_ _ | refine Below.allocC ?_ _ | refine Below.setCell ?_ (by first | (simp; done) | (simp; omega)) _ | refine Below.chain ?_ (by assumption)))))
            have F3 := Lib.hid (show Filling w2 g 39 2 cap ((delK (xs.take (m + 1)) key).flatMap encC) from by
              rw [HS.out]; exact HF.out.below B2.out)
            have HC3 := Lib.hid (show ∀ t, (m + 1) * 2 ≤ t → w2.cell? ⟨g, t, none⟩ = w.cell? ⟨g, t, none⟩ from fun t ht => by
              rw [B2.out.cell (p := ⟨g, t, none⟩) hglt]
              exact HC.out t (by omega))
            have HG3 := Lib.hid (show w.grownBy w2 (some g) from grownBy_trans HG.out (grownBy_of_below B2.out _))
            go_wp2
            go_roundw
            case rel => exact ⟨m + 1, by omega, by omega, by go_num, by rw [HS.out], F3, HC3, HG3⟩
            case measure => simp [intOf]; omega
        · obtain rfl : m = xs.length := by omega
          rw [List.take_of_length_le (Nat.le_refl _), ← HT.out] at HF
          rw [List.take_of_length_le (Nat.le_refl _), ← HT.out] at hdl ⊢
          obtain ⟨n, hn⟩ : ∃ n, TT.length = n := ⟨_, rfl⟩
          have HN := Lib.hid hn
          have p2 : ¬ (xs.length : Int) < (xs.length : Int) := by omega
          have hfl : (TT.flatMap encC).length = n * 2 := by rw [length_flatMap_const encC_len, hn]
          rw [hn] at hdl ⊢
          clear hn
          obtain ⟨L, hL, hLs, hLt⟩ := HF.out
          rw [hfl] at hLt
          obtain ⟨L2, hL2⟩ : ∃ L2, L2 = (L.toList.take (n * 2) ++ (Builtin.zeroCells (.agg #[.string ⟨#[]⟩, .string ⟨#[]⟩] : Value).cells (xs.length - n)).toList ++ L.toList.drop (n * 2 + (xs.length - n) * 2)).toArray := ⟨_, rfl⟩
          obtain ⟨W2, hW2⟩ : ∃ W2, W2 = wr.setRow g L2 := ⟨_, rfl⟩
          have hcl : ∀ ty, (Builtin.clear_ #[22] ty #[.slice (some ⟨g, n * 2, none⟩) (xs.length - n) (cap - n)]).run Tryd.prog wr = .ok (.tuple #[]) W2 := fun ty => by
            rw [hW2, hL2]
            exact run_clearK wr _ 39 ty _ Tryd.underlying22 (fun _ => by rfl) g (n * 2) (xs.length - n) _ 2 rfl (fun u hu => by
              have := Array.mem_toList_iff.1 hu
              simp only [Builtin.zeroCells] at this
              obtain ⟨i, _, rfl⟩ := Array.mem_map.1 this
              simp only [Value.cells]
              rcases Nat.mod_two_eq_zero_or_one i with h | h <;> simp [h, Value.oneCell']) L 39 hL (by rw [hLs]; omega)
          have hz : (Builtin.zeroCells (.agg #[.string ⟨#[]⟩, .string ⟨#[]⟩] : Value).cells (xs.length - n)).toList.length = (xs.length - n) * 2 := by rw [Array.length_toList, zeroCells_toList]; rfl
          have H2 := Lib.hid (show OwnStep 39 2 base (.slice (some ⟨g, 0, none⟩) xs.length cap) n (TT.flatMap encC) w (.returned (.slice (some ⟨g, 0, none⟩) n cap)) W2 from by
            refine ⟨_, rfl, ⟨hfl, .inr ⟨g, cap, L2, rfl, hbg, by rw [hW2]; exact setRow_heap wr g L L2 _ _ hL, by omega, HCM.out, by rw [hL2, List.size_toArray, List.length_append, List.length_append, hz, List.length_take, List.length_drop, Array.length_toList, hLs]; omega, ?_⟩⟩, by rw [hW2]; exact grownBy_trans HG.out (grownBy_setRow wr g L2), .inl rfl⟩
            rw [hL2]
            simp only [List.append_assoc]
            rw [List.take_append_of_le_length (by rw [List.length_take, Array.length_toList, hLs]; omega), List.take_take, Nat.min_self, hLt])
          clear hL hLs hLt hL2 hW2 hz hfl HC HG HF
          go_wp2
          go_ret
          rw [HN.out]
          exact H2.out
  · have HI2 := Lib.hid (idxI_ge hge)
    have HE : Hid (TT = xs) := Lib.hid (by
      rw [HT.out]
      apply delK_none
      intro j y hj hy
      have := List.not_of_lt_findIdx (show j < xs.findIdx (delP key) by omega)
      obtain ⟨hl, rfl⟩ := List.getElem?_eq_some_iff.1 hy
      simpa using this)
    clear hge ho hne
    go_enter Tryd.func53, Tryd.ntmps53
    go_wp2_with fail
    refine K.out.mono ?_
    rintro e w1 ⟨rfl, hb1⟩
    rw [HI2.out]
    go_wp2
    go_ret
    rw [HE.out]
    exact OwnStep.stay HO.out hb1
end Go.Proofs.YtjlmoghifkgehaaDoor
