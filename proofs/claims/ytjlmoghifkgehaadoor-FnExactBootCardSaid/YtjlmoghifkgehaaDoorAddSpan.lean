/- Contracts: addSpan (onto an own row) and AddSpan of both sides: a text put into a list, once, in memory of its own. Conditions: at most 2^21 elements. -/
import Derived.Test.YtjlmoghifkgehaaDoorInsertS
import Derived.Test.YtjlmoghifkgehaaDoorOrd
import Derived.Test.YtjlmoghifkgehaaDoorClone
import Derived.Test.YtjlmoghifkgehaaDoorSpan
import Derived.BigQuiet
namespace Go.Proofs.YtjlmoghifkgehaaDoor
open Go.RowKit
attribute [local go_sem ↓] Go.wp_at_zero Go.wp_at_succ
theorem news_one {W : World} {b : Nat} {x : Value} (hc : W.cell? ⟨b, 0, none⟩ = some x) : ∀ j u, [x][j]? = some u → W.cell? ((⟨b, 0, none⟩ : Addr).add j) = some u := by
  intro j u hj
  match j, hj with
  | 0, hj => simp at hj; subst hj; simpa [Addr.add] using hc
theorem addSpanFn_c (x : ByteArray) (B : Nat) (W : World) (hc : W.cell? ⟨B, 0, none⟩ = some (.string x)) (y : ByteArray) :
    Calls Tryd.prog 48 #[.string y, .pointer (some ⟨B, 0, none⟩)] W fun e w' => e = .returned (.bool (geP x y)) ∧ Below W.heap.size W w' := by
  have hBW : B < W.heap.size := World.block_lt_of_cell? W _ hc
  have hne : B ≠ W.heap.size := by omega
  have HG := Lib.hid (show geP x y = !(Op.bytesLess y.toList x.toList) from rfl)
  cases hq : Op.bytesLess y.toList x.toList
  all_goals
    go_enter Tryd.func48, Tryd.ntmps48
    go_wp2
    go_ret
    exact ⟨by rw [HG.out, hq]; rfl, (by repeat (first | exact Below.refl _ _ | refine Below.drew ?_ | refine below_drewN ?_ _ | refine Below.allocC ?_ _ | refine Below.setCell ?_ (by first | (simp; done) | (simp; omega)) _ | refine Below.chain ?_ (by assumption)))⟩

set_option maxRecDepth 100000 in
set_option maxHeartbeats 4000000 in
theorem addSpan_c (v : Value) (base : Nat) (xs : List ByteArray) (x : ByteArray) (w : World) (hlen : xs.length ≤ 2097152) (ho : w.ownsRow base 9 1 v xs.length (xs.flatMap encS)) (hbase : base ≤ w.heap.size) :
    Calls Tryd.prog 40 #[v, .string x] w (OwnStep 9 1 base v (addS xs x).length ((addS xs x).flatMap encS) w) := by
  obtain ⟨i0, hinf, hzz⟩ := Option.map_eq_some_iff.1 infoString
  simp only [Prod.mk.injEq] at hzz
  have HI := Lib.hid hinf
  have HZ := Lib.hid hzz
  clear hinf hzz
  obtain ⟨a, cap, rfl, hr⟩ := reads_of_owns encS_len ho
  have HLT := Lib.hid ho.lt
  have HO := Lib.hid ho
  have HR := Lib.hid hr
  have HK := Lib.hid (fun (W : World) (hW : Below w.heap.size w W) (hc : W.cell? ⟨w.heap.size, 0, none⟩ = some (.string x)) => indexFuncS_c a cap xs (geP x) 48 #[.pointer (some ⟨w.heap.size, 0, none⟩)] (fun args w => enters_of Tryd.func48 (by kernel_rfl) rfl args w) W
    (fun W' y _ hb => addSpanFn_c x w.heap.size W' (keepS hb hc) y) (by unfold maxLen; omega) (hr.below hW))
  clear ho hr
  obtain ⟨TT, hTT⟩ : ∃ TT, TT = addS xs x := ⟨_, rfl⟩
  have HT := Lib.hid hTT
  rw [← hTT]
  clear hTT
  rcases Nat.lt_or_ge (xs.findIdx (geP x)) xs.length with hlt | hge
  · obtain ⟨y, hy⟩ := some_of_lt hlt
    have HF := Lib.hid (show xs.findIdx (geP x) = xs.findIdx (geP x) from rfl)
    have HI2 := Lib.hid (idxI_lt hlt)
    obtain ⟨k, hk⟩ : ∃ k, xs.findIdx (geP x) = k := ⟨_, rfl⟩
    have HKK := Lib.hid hk
    rw [hk] at hlt hy HI2
    have HY := Lib.hid hy
    have p1 : (0 : Int) ≤ (k : Int) := by omega
    have p2 : (k : Int) < (xs.length : Int) := by omega
    clear hk hy HF
    cases hq : eqB y x with
    | true =>
      have q : (y.toList == x.toList) = true := hq
      have HE := Lib.hid (HT.out.trans (addS_here HKK.out HY.out hq))
      clear hq
      go_enter Tryd.func40, Tryd.ntmps40
      go_wp2_with fail
      refine (HK.out _ (by repeat (first | exact Below.refl _ _ | refine Below.drew ?_ | refine below_drewN ?_ _ | refine Below.allocC ?_ _ | refine Below.setCell ?_ (by first | (simp; done) | (simp; omega)) _ | refine Below.chain ?_ (by assumption))) (by simp)).mono ?_
      rintro e w1 ⟨rfl, hb1⟩
      rw [HKK.out, HI2.out]
      have B1 : Below w.heap.size w w1 := (by repeat (first | exact Below.refl _ _ | refine Below.drew ?_ | refine below_drewN ?_ _ | refine Below.allocC ?_ _ | refine Below.setCell ?_ (by first | (simp; done) | (simp; omega)) _ | refine Below.chain ?_ (by assumption)))
      obtain ⟨b, off, rfl, c0⟩ := readFS HR.out B1 HY.out
      have c1 : w1.cell? ⟨w.heap.size, 0, none⟩ = some (.string x) := keepS hb1 (by simp)
      go_wp2_with fail
      go_quiet (fail)
      go_wp2
      go_ret
      rw [HE.out]
      exact OwnStep.stay HO.out (by repeat (first | exact Below.refl _ _ | refine Below.drew ?_ | refine below_drewN ?_ _ | refine Below.allocC ?_ _ | refine Below.setCell ?_ (by first | (simp; done) | (simp; omega)) _ | refine Below.chain ?_ (by assumption)))
    | false =>
      have q : (y.toList == x.toList) = false := hq
      have HE := Lib.hid (HT.out.trans (addS_in HKK.out HY.out hq))
      clear hq
      go_enter Tryd.func40, Tryd.ntmps40
      go_wp2_with fail
      refine (HK.out _ (by repeat (first | exact Below.refl _ _ | refine Below.drew ?_ | refine below_drewN ?_ _ | refine Below.allocC ?_ _ | refine Below.setCell ?_ (by first | (simp; done) | (simp; omega)) _ | refine Below.chain ?_ (by assumption))) (by simp)).mono ?_
      rintro e w1 ⟨rfl, hb1⟩
      rw [HKK.out, HI2.out]
      have B1 : Below w.heap.size w w1 := (by repeat (first | exact Below.refl _ _ | refine Below.drew ?_ | refine below_drewN ?_ _ | refine Below.allocC ?_ _ | refine Below.setCell ?_ (by first | (simp; done) | (simp; omega)) _ | refine Below.chain ?_ (by assumption)))
      obtain ⟨b, off, rfl, c0⟩ := readFS HR.out B1 HY.out
      have c1 : w1.cell? ⟨w.heap.size, 0, none⟩ = some (.string x) := keepS hb1 (by simp)
      go_wp2_with fail
      go_quiet (fail)
      go_wp2_with fail
      refine (insertS_c _ base k xs x _ _ (by omega) (ownsRow_below HO.out (by repeat (first | exact Below.refl _ _ | refine Below.drew ?_ | refine below_drewN ?_ _ | refine Below.allocC ?_ _ | refine Below.setCell ?_ (by first | (simp; done) | (simp; omega)) _ | refine Below.chain ?_ (by assumption)))) (by omega) (Box.new _ [.string x] _) (fun j hj => ?_) ?_).mono ?_
      · have := (HLT.out j hj).2; have := B1.size; simp; omega
      · have := B1.size; simp; omega
      intro e w' hs
      have HS := Lib.hid (hs.after (w := w) (by repeat (first | exact Below.refl _ _ | refine Below.drew ?_ | refine below_drewN ?_ _ | refine Below.allocC ?_ _ | refine Below.setCell ?_ (by first | (simp; done) | (simp; omega)) _ | refine Below.chain ?_ (by assumption))))
      clear hs
      obtain ⟨v', rfl, h1, h2, h3⟩ := HS.out
      have H2 := Lib.hid (show OwnStep 9 1 base _ TT.length (TT.flatMap encS) w (.returned v') w' from ⟨v', rfl, by
        have hl : TT.length = xs.length + 1 := by rw [HE.out]; simp; omega
        rw [hl, HE.out]; exact h1, h2, h3⟩)
      clear h1 h2 h3 HS
      go_wp2
      go_ret
      exact H2.out
  · have HI2 := Lib.hid (idxI_ge hge)
    have HE := Lib.hid (HT.out.trans (addS_end (Nat.le_antisymm (List.findIdx_le_length) hge)))
    clear hge
    go_enter Tryd.func40, Tryd.ntmps40
    go_wp2_with fail
    refine (HK.out _ (by repeat (first | exact Below.refl _ _ | refine Below.drew ?_ | refine below_drewN ?_ _ | refine Below.allocC ?_ _ | refine Below.setCell ?_ (by first | (simp; done) | (simp; omega)) _ | refine Below.chain ?_ (by assumption))) (by simp)).mono ?_
    rintro e w1 ⟨rfl, hb1⟩
    rw [HI2.out]
    have B1 : Below w.heap.size w w1 := (by repeat (first | exact Below.refl _ _ | refine Below.drew ?_ | refine below_drewN ?_ _ | refine Below.allocC ?_ _ | refine Below.setCell ?_ (by first | (simp; done) | (simp; omega)) _ | refine Below.chain ?_ (by assumption)))
    have c1 : w1.cell? ⟨w.heap.size, 0, none⟩ = some (.string x) := keepS hb1 (by simp)
    go_wp2_with (at_builtin; refine wpList_append_own2 _ rfl _ _ 27 rfl base 9 i0 (.string ⟨#[]⟩) 1 16 Tryd.underlying27 HI.out HZ.out.1 HZ.out.2.1 HZ.out.2.2 rfl (by decide) _ _ _ rfl (ownsRow_below HO.out (by repeat (first | exact Below.refl _ _ | refine Below.drew ?_ | refine below_drewN ?_ _ | refine Below.allocC ?_ _ | refine Below.setCell ?_ (by first | (simp; done) | (simp; omega)) _ | refine Below.chain ?_ (by assumption)))) ⟨w1.heap.size, 0, none⟩ 1 1 [.string x] rfl rfl ?d0 ?d1 ?d2 ?d3 ?d4 ?_)
    case d0 =>
      intro j u hj
      match j, hj with
      | 0, hj => simp at hj; subst hj; simp [Addr.add]
    case d1 => intro u hu; simp at hu; subst hu; rfl
    case d2 => unfold maxLen; omega
    case d3 => omega
    case d4 => have := B1.size; simp; omega
    intro v' w' hown hgrow hor
    have H2 := Lib.hid (show OwnStep 9 1 base _ TT.length (TT.flatMap encS) w (.returned v') w' from OwnStep.after (W := w1.alloc (.cells #[.string x] 9)) (by repeat (first | exact Below.refl _ _ | refine Below.drew ?_ | refine below_drewN ?_ _ | refine Below.allocC ?_ _ | refine Below.setCell ?_ (by first | (simp; done) | (simp; omega)) _ | refine Below.chain ?_ (by assumption))) ⟨v', rfl, by rw [HE.out, List.length_append, List.flatMap_append]; exact hown, hgrow, hor⟩)
    clear hown hgrow hor
    go_wp2
    go_ret
    exact H2.out

/-- A slice that reads as xs, and has room for itself. -/
def ReadsV {α : Type} (K : Nat) (enc : α → List Value) (xs : List α) (w : World) (e : Ending) (w' : World) : Prop :=
  ∃ a cap, e = .returned (.slice a xs.length cap) ∧ Reads w' a K enc xs ∧ xs.length ≤ cap ∧ cap ≤ maxLen ∧ Below w.heap.size w w'
theorem ReadsV.fresh {α : Type} {T K : Nat} {enc : α → List Value} {xs : List α} {w w' : World} {e : Ending} (hk : ∀ x, (enc x).length = K) (h : Fresh T K (xs.flatMap enc) xs.length w e w') : ReadsV K enc xs w e w' := by
  obtain ⟨v, rfl, h1, h2⟩ := h
  obtain ⟨a, cap, rfl, h3, h4, h5⟩ := reads_of_owns' hk h1
  exact ⟨a, cap, rfl, h3, h4, h5, h2⟩
theorem Reads.dropA {α : Type} {enc : α → List Value} {w : World} {a : Option Addr} {K k cap : Nat} {xs : List α} (h : Reads w a K enc xs) (hk : k < xs.length) : ∃ b off, a = some ⟨b, off, none⟩ ∧ Reads w (some ⟨b, off + k * K, none⟩) K enc (xs.drop k) := by
  rcases h with rfl | ⟨b, off, e, h2, h3⟩
  · simp at hk
  · refine ⟨b, off, e, .inr ⟨b, off + k * K, rfl, h2, fun i x hx j v hv => ?_⟩⟩
    rw [List.getElem?_drop] at hx
    have := h3 (k + i) x hx j v hv
    rwa [show off + ((k + i) * K + j) = off + k * K + (i * K + j) by rw [Nat.add_mul]; omega] at this

set_option maxRecDepth 100000 in
set_option maxHeartbeats 4000000 in
theorem specPut_c (a : Option Addr) (cap : Nat) (xs : List ByteArray) (x : ByteArray) (w : World) (hlen : xs.length ≤ 2097152) (hr : Reads w a 1 encS xs) (hcap : xs.length ≤ cap) (hcm : cap ≤ maxLen) :
    Calls Tryd.prog 44 #[.slice a xs.length cap, .string x] w (ReadsV 1 encS (addS xs x) w) := by
  obtain ⟨i0, hinf, hzz⟩ := Option.map_eq_some_iff.1 infoString
  simp only [Prod.mk.injEq] at hzz
  have HI := Lib.hid hinf
  have HZ := Lib.hid hzz
  have HR := Lib.hid hr
  have HCM := Lib.hid hcm
  unfold maxLen at hcm
  obtain ⟨TT, hTT⟩ : ∃ TT, TT = addS xs x := ⟨_, rfl⟩
  have HT := Lib.hid hTT
  rw [← hTT]
  clear hTT hinf hzz hr
  go_enter Tryd.func44, Tryd.ntmps44
  go_wp2
  go_loop [5] (fun i => ∃ k : Nat, k ≤ xs.length ∧ i = .int .i64 k ∧ Hid (noneUp (geP x) xs k)) (fun i => xs.length - (intOf i).toNat)
  case atStart => exact ⟨0, Nat.zero_le _, rfl, Lib.hid (noneUp_zero _ _)⟩
  case round =>
    obtain ⟨k, hk, rfl, HU⟩ := hrel
    have p1 : (0 : Int) ≤ (k : Int) := by omega
    rcases Nat.lt_or_ge k xs.length with hlt | hge
    · obtain ⟨y, hy⟩ := some_of_lt hlt
      have p2 : (k : Int) < (xs.length : Int) := by omega
      have HY := Lib.hid hy
      obtain ⟨b, off, hab, c0⟩ := readFS HR.out (Below.refl _ _) hy
      clear hy
      cases hq : Op.bytesLess y.toList x.toList with
      | true =>
        have hs := Lib.hid (noneUp_succ HU.out HY.out (show geP x y = false by simp [geP, ltB, hq]))
        subst hab
        go_wp2
        go_round
        case rel => exact ⟨k + 1, by omega, by go_num, hs⟩
        case measure => simp [intOf]; omega
      | false =>
        have HK := Lib.hid (find_hit HU.out HY.out (show geP x y = true by simp [geP, ltB, hq]))
        cases he : eqB y x with
        | true =>
          have q : (y.toList == x.toList) = true := he
          have HE := Lib.hid (HT.out.trans (addS_here HK.out HY.out he))
          clear he
          have HR2 := HR
          subst hab
          go_wp2
          go_ret
          rw [HE.out]
          exact ⟨_, _, rfl, HR2.out, hcap, HCM.out, Below.refl _ _⟩
        | false =>
          have q : (y.toList == x.toList) = false := he
          have HE := Lib.hid (HT.out.trans (addS_in HK.out HY.out he))
          clear he
          obtain ⟨b', off', hab', hd⟩ := HR.out.dropA (cap := cap) hlt
          rw [hab] at hab'
          cases hab'
          have HD := Lib.hid hd
          have HTk := Lib.hid (HR.out.take k)
          have HTl := Lib.hid (show (xs.take k).length = k from by rw [List.length_take]; omega)
          have HDl := Lib.hid (show (xs.drop k).length = xs.length - k from by rw [List.length_drop])
          have hck : ¬ (cap = k) := by omega
          clear hd
          subst hab
          go_wp2_with (at_builtin; refine wpList_append_reads _ rfl _ _ 27 rfl w.heap.size 9 i0 (.string ⟨#[]⟩) 1 16 Tryd.underlying27 HI.out HZ.out.1 HZ.out.2.1 HZ.out.2.2 rfl (by decide) encS_len encS_one _ 0 [] rfl ⟨rfl, .inr ⟨w.heap.size, 0, #[], rfl, Nat.le_refl _, heap_alloc_new w _, Nat.le_refl _, Nat.zero_le _, rfl, rfl⟩⟩ (some ⟨b, off, none⟩) k cap (xs.take k) rfl HTl.out.symm (HTk.out.below (by repeat (first | exact Below.refl _ _ | refine Below.drew ?_ | refine below_drewN ?_ _ | refine Below.allocC ?_ _ | refine Below.setCell ?_ (by first | (simp; done) | (simp; omega)) _ | refine Below.chain ?_ (by assumption)))) (by rw [HTl.out]; unfold maxLen; omega) (by rw [HTl.out]; omega) (by simp) ?_)
          intro v1 w1 o1 g1 or1
          have B1 : Below w.heap.size w w1 := by
            refine Below.trans (show Below w.heap.size w (w.alloc (.cells #[] 9)) from (by repeat (first | exact Below.refl _ _ | refine Below.drew ?_ | refine below_drewN ?_ _ | refine Below.allocC ?_ _ | refine Below.setCell ?_ (by first | (simp; done) | (simp; omega)) _ | refine Below.chain ?_ (by assumption)))) (below_of_grown g1 (Nat.le_refl _) (by simp))
          have HO1 := Lib.hid (show w1.ownsRow w.heap.size 9 1 v1 k ((xs.take k).flatMap encS) from by first | exact o1 | simpa [HTl.out] using o1)
          clear o1 g1 or1
          go_wp2_with (at_builtin; refine wpList_append_own2 _ rfl _ _ 27 rfl w.heap.size 9 i0 (.string ⟨#[]⟩) 1 16 Tryd.underlying27 HI.out HZ.out.1 HZ.out.2.1 HZ.out.2.2 rfl (by decide) _ _ _ rfl (HO1.out.alloc _) ⟨w1.heap.size, 0, none⟩ 1 1 [.string x] rfl rfl ?e0 ?e1 ?e2 ?e3 ?e4 ?_)
          case e0 =>
            intro j u hj
            match j, hj with
            | 0, hj => simp at hj; subst hj; simp [Addr.add]
          case e1 => intro u hu; simp at hu; subst hu; rfl
          case e2 => unfold maxLen; omega
          case e3 => omega
          case e4 => have := B1.size; simp; omega
          intro v2 w2 o2 g2 or2
          have B2 : Below w.heap.size w w2 := by
            have h := OwnStep.fresh (w := w) (W := w1.alloc (.cells #[.string x] 9)) (e := .returned v2) (w' := w2) (by repeat (first | exact Below.refl _ _ | refine Below.drew ?_ | refine below_drewN ?_ _ | refine Below.allocC ?_ _ | refine Below.setCell ?_ (by first | (simp; done) | (simp; omega)) _ | refine Below.chain ?_ (by assumption))) (HO1.out.alloc _) ⟨v2, rfl, o2, g2, or2⟩
            obtain ⟨_, _, _, h⟩ := h
            exact h
          have HO2 := Lib.hid o2
          clear o2 g2 or2
          go_wp2_with (at_builtin; refine wpList_append_reads _ rfl _ _ 27 rfl w.heap.size 9 i0 (.string ⟨#[]⟩) 1 16 Tryd.underlying27 HI.out HZ.out.1 HZ.out.2.1 HZ.out.2.2 rfl (by decide) encS_len encS_one _ _ _ rfl HO2.out (some ⟨b, off + k, none⟩) (xs.length - k) (cap - k) (xs.drop k) rfl HDl.out.symm (show Reads w2 _ _ _ _ by have := HD.out.below B2; rwa [Nat.mul_one] at this) (by rw [HDl.out]; unfold maxLen; omega) (by rw [HDl.out]; omega) B2.size ?_)
          intro v3 w3 o3 g3 or3
          have h := OwnStep.fresh (w := w) (e := .returned v3) (w' := w3) B2 HO2.out ⟨v3, rfl, o3, g3, or3⟩
          have H2 := Lib.hid (show ReadsV 1 encS TT w (.returned v3) w3 from ReadsV.fresh encS_len (T := 9) (by
            have hl : TT.length = k + 1 + (xs.length - k) := by rw [HE.out, List.length_append, List.length_cons, HTl.out, HDl.out]; omega
            have hf : TT.flatMap encS = (xs.take k).flatMap encS ++ Value.string x :: (xs.drop k).flatMap encS := by rw [HE.out]; simp [List.flatMap_append, encS]
            rw [hl, hf]
            first | exact h | simpa using h))
          clear h o3 g3 or3
          go_wp2
          go_ret
          exact H2.out
    · obtain rfl : k = xs.length := by omega
      have HE := Lib.hid (HT.out.trans (addS_end (find_miss HU.out (Nat.le_refl _))))
      have p2 : ¬ (xs.length : Int) < (xs.length : Int) := by omega
      clear HU
      cases a with
      | none =>
        have hz : xs.length = 0 := by
          rcases HR.out with h | ⟨_, _, h, _⟩
          · rw [h]; rfl
          · cases h
        have hx : xs = [] := List.eq_nil_of_length_eq_zero hz
        subst hx
        go_wp2_with (at_builtin; refine wpList_append_reads _ rfl _ _ 27 rfl w.heap.size 9 i0 (.string ⟨#[]⟩) 1 16 Tryd.underlying27 HI.out HZ.out.1 HZ.out.2.1 HZ.out.2.2 rfl (by decide) encS_len encS_one _ 0 [] rfl ⟨rfl, .inr ⟨w.heap.size, 0, #[], rfl, Nat.le_refl _, heap_alloc_new w _, Nat.le_refl _, Nat.zero_le _, rfl, rfl⟩⟩ _ _ _ [] rfl (by simp) (.inl rfl) (by simp) (by simp) (by simp) ?_)
        intro v1 w1 o1 g1 or1
        have B1 : Below w.heap.size w w1 := by
          refine Below.trans (show Below w.heap.size w (w.alloc (.cells #[] 9)) from (by repeat (first | exact Below.refl _ _ | refine Below.drew ?_ | refine below_drewN ?_ _ | refine Below.allocC ?_ _ | refine Below.setCell ?_ (by first | (simp; done) | (simp; omega)) _ | refine Below.chain ?_ (by assumption)))) (below_of_grown g1 (Nat.le_refl _) (by simp))
        have HO1 := Lib.hid (show w1.ownsRow w.heap.size 9 1 v1 ([] : List ByteArray).length (([] : List ByteArray).flatMap encS) from by first | exact o1 | simpa using o1)
        clear o1 g1 or1
        go_wp2_with (at_builtin; refine wpList_append_own2 _ rfl _ _ 27 rfl w.heap.size 9 i0 (.string ⟨#[]⟩) 1 16 Tryd.underlying27 HI.out HZ.out.1 HZ.out.2.1 HZ.out.2.2 rfl (by decide) _ _ _ rfl (HO1.out.alloc _) ⟨w1.heap.size, 0, none⟩ 1 1 [.string x] rfl rfl (news_one (by simp)) (by intro u hu; simp at hu; subst hu; rfl) (by unfold maxLen; omega) (by omega) (by have := B1.size; simp; omega) ?_)
        intro v2 w2 o2 g2 or2
        have B2 : Below w.heap.size w w2 := by
          have h := OwnStep.fresh (w := w) (W := w1.alloc (.cells #[.string x] 9)) (e := .returned v2) (w' := w2) (by repeat (first | exact Below.refl _ _ | refine Below.drew ?_ | refine below_drewN ?_ _ | refine Below.allocC ?_ _ | refine Below.setCell ?_ (by first | (simp; done) | (simp; omega)) _ | refine Below.chain ?_ (by assumption))) (HO1.out.alloc _) ⟨v2, rfl, o2, g2, or2⟩
          obtain ⟨_, _, _, h⟩ := h
          exact h
        have HO2 := Lib.hid o2
        clear o2 g2 or2
        go_wp2_with (at_builtin; refine wpList_append_reads _ rfl _ _ 27 rfl w.heap.size 9 i0 (.string ⟨#[]⟩) 1 16 Tryd.underlying27 HI.out HZ.out.1 HZ.out.2.1 HZ.out.2.2 rfl (by decide) encS_len encS_one _ _ _ rfl HO2.out _ _ _ [] rfl (by simp) (.inl rfl) (by first | (simp; done) | (simp; unfold maxLen; omega) | (unfold maxLen; simp)) (by first | (simp; done) | (simp; omega)) B2.size ?_)
        intro v3 w3 o3 g3 or3
        have h := OwnStep.fresh (w := w) (e := .returned v3) (w' := w3) B2 HO2.out ⟨v3, rfl, o3, g3, or3⟩
        have H2 := Lib.hid (show ReadsV 1 encS TT w (.returned v3) w3 from ReadsV.fresh encS_len (T := 9) (by
          have hl : TT.length = 1 := by rw [HE.out]; simp
          have hf : TT.flatMap encS = [Value.string x] := by rw [HE.out]; simp [List.flatMap_append, encS]
          rw [hl, hf]
          first | exact h | simpa using h))
        clear h o3 g3 or3
        go_wp2
        go_ret
        exact H2.out
      | some ad =>
        have HRB := Lib.hid (HR.out.below (show Below w.heap.size w (w.alloc (.cells #[] 9)) from (by repeat (first | exact Below.refl _ _ | refine Below.drew ?_ | refine below_drewN ?_ _ | refine Below.allocC ?_ _ | refine Below.setCell ?_ (by first | (simp; done) | (simp; omega)) _ | refine Below.chain ?_ (by assumption)))))
        obtain ⟨b, off, spot⟩ := ad
        by_cases hck : cap = xs.length
        all_goals
          go_wp2_with (at_builtin; refine wpList_append_reads _ rfl _ _ 27 rfl w.heap.size 9 i0 (.string ⟨#[]⟩) 1 16 Tryd.underlying27 HI.out HZ.out.1 HZ.out.2.1 HZ.out.2.2 rfl (by decide) encS_len encS_one _ 0 [] rfl ⟨rfl, .inr ⟨w.heap.size, 0, #[], rfl, Nat.le_refl _, heap_alloc_new w _, Nat.le_refl _, Nat.zero_le _, rfl, rfl⟩⟩ _ _ _ xs rfl (by simp) HRB.out (by unfold maxLen; omega) (by omega) (by simp) ?_)
          intro v1 w1 o1 g1 or1
          have B1 : Below w.heap.size w w1 := by
            refine Below.trans (show Below w.heap.size w (w.alloc (.cells #[] 9)) from (by repeat (first | exact Below.refl _ _ | refine Below.drew ?_ | refine below_drewN ?_ _ | refine Below.allocC ?_ _ | refine Below.setCell ?_ (by first | (simp; done) | (simp; omega)) _ | refine Below.chain ?_ (by assumption)))) (below_of_grown g1 (Nat.le_refl _) (by simp))
          have HO1 := Lib.hid (show w1.ownsRow w.heap.size 9 1 v1 xs.length (xs.flatMap encS) from by first | exact o1 | simpa using o1)
          clear o1 g1 or1
          go_wp2_with (at_builtin; refine wpList_append_own2 _ rfl _ _ 27 rfl w.heap.size 9 i0 (.string ⟨#[]⟩) 1 16 Tryd.underlying27 HI.out HZ.out.1 HZ.out.2.1 HZ.out.2.2 rfl (by decide) _ _ _ rfl (HO1.out.alloc _) ⟨w1.heap.size, 0, none⟩ 1 1 [.string x] rfl rfl (news_one (by simp)) (by intro u hu; simp at hu; subst hu; rfl) (by unfold maxLen; omega) (by omega) (by have := B1.size; simp; omega) ?_)
          intro v2 w2 o2 g2 or2
          have B2 : Below w.heap.size w w2 := by
            have h := OwnStep.fresh (w := w) (W := w1.alloc (.cells #[.string x] 9)) (e := .returned v2) (w' := w2) (by repeat (first | exact Below.refl _ _ | refine Below.drew ?_ | refine below_drewN ?_ _ | refine Below.allocC ?_ _ | refine Below.setCell ?_ (by first | (simp; done) | (simp; omega)) _ | refine Below.chain ?_ (by assumption))) (HO1.out.alloc _) ⟨v2, rfl, o2, g2, or2⟩
            obtain ⟨_, _, _, h⟩ := h
            exact h
          have HO2 := Lib.hid o2
          clear o2 g2 or2
          go_wp2_with (at_builtin; refine wpList_append_reads _ rfl _ _ 27 rfl w.heap.size 9 i0 (.string ⟨#[]⟩) 1 16 Tryd.underlying27 HI.out HZ.out.1 HZ.out.2.1 HZ.out.2.2 rfl (by decide) encS_len encS_one _ _ _ rfl HO2.out _ _ _ [] rfl (by simp) (.inl rfl) (by first | (simp; done) | (simp; unfold maxLen; omega) | (unfold maxLen; simp)) (by first | (simp; done) | (simp; omega)) B2.size ?_)
          intro v3 w3 o3 g3 or3
          have h := OwnStep.fresh (w := w) (e := .returned v3) (w' := w3) B2 HO2.out ⟨v3, rfl, o3, g3, or3⟩
          have H2 := Lib.hid (show ReadsV 1 encS TT w (.returned v3) w3 from ReadsV.fresh encS_len (T := 9) (by
            have hl : TT.length = xs.length + 1 := by rw [HE.out]; simp
            have hf : TT.flatMap encS = xs.flatMap encS ++ [Value.string x] := by rw [HE.out]; simp [List.flatMap_append, encS]
            rw [hl, hf]
            first | exact h | simpa using h))
          clear h o3 g3 or3
          go_wp2
          go_ret
          exact H2.out

set_option maxRecDepth 100000 in
set_option maxHeartbeats 2000000 in
theorem specAddSpan_c (a : Option Addr) (cap : Nat) (xs : List ByteArray) (x : ByteArray) (w : World) (hlen : xs.length ≤ 1048576) (hr : Reads w a 1 encS xs) (hcap : xs.length ≤ cap) (hcm : cap ≤ maxLen) :
    Calls Tryd.prog 34 #[.slice a xs.length cap, .string x] w (Fresh 9 1 ((addS xs x).flatMap encS) (addS xs x).length w) := by
  obtain ⟨i0, hinf, hzz⟩ := Option.map_eq_some_iff.1 infoString
  simp only [Prod.mk.injEq] at hzz
  have HI := Lib.hid hinf
  have HZ := Lib.hid hzz
  have K := Lib.hid (specPut_c a cap xs x (w.alloc (.cells #[] 9)) (by omega) (hr.below (by repeat (first | exact Below.refl _ _ | refine Below.drew ?_ | refine below_drewN ?_ _ | refine Below.allocC ?_ _ | refine Below.setCell ?_ (by first | (simp; done) | (simp; omega)) _ | refine Below.chain ?_ (by assumption)))) hcap hcm)
  have HL := Lib.hid (addS_len xs x)
  clear hr hinf hzz
  generalize addS xs x = TT at *
  go_enter Tryd.func34, Tryd.ntmps34
  go_wp2_with fail
  refine K.out.mono ?_
  rintro e w1 ⟨a1, cap1, rfl, r1, q1, q2, hb1⟩
  have HR := Lib.hid r1
  clear r1
  have hl := HL.out
  go_wp2_with (at_builtin; refine wpList_append_reads _ rfl _ _ 27 rfl w.heap.size 9 i0 (.string ⟨#[]⟩) 1 16 Tryd.underlying27 HI.out HZ.out.1 HZ.out.2.1 HZ.out.2.2 rfl (by decide) encS_len encS_one _ 0 [] rfl (ownsRow_below (w := w.alloc (.cells #[] 9)) ⟨rfl, .inr ⟨w.heap.size, 0, #[], rfl, Nat.le_refl _, heap_alloc_new w _, Nat.le_refl _, Nat.zero_le _, rfl, rfl⟩⟩ hb1) _ _ _ TT rfl rfl HR.out (by unfold maxLen; omega) (by omega) (by have := hb1.size; simp at this; omega) ?_)
  intro v2 w2 o2 g2 or2
  have B1 : Below w.heap.size w w1 := (by repeat (first | exact Below.refl _ _ | refine Below.drew ?_ | refine below_drewN ?_ _ | refine Below.allocC ?_ _ | refine Below.setCell ?_ (by first | (simp; done) | (simp; omega)) _ | refine Below.chain ?_ (by assumption)))
  have HO2 := Lib.hid (show w2.ownsRow w.heap.size 9 1 v2 TT.length (TT.flatMap encS) from by first | exact o2 | simpa using o2)
  have B2 : Below w.heap.size w w2 := B1.trans (below_of_grown g2 (Nat.le_refl _) B1.size)
  clear o2 g2 or2
  go_wp2
  go_ret
  exact ⟨_, rfl, HO2.out, B2⟩
end Go.Proofs.YtjlmoghifkgehaaDoor
