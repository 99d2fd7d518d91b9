/- Contracts: addSpan (onto an own row) and AddSpan of both sides: a text put into a list, once, in memory of its own. Conditions: at most 2^21 elements. -/
import Derived.Test.YtedbmmoddemngaaInsertS
import Derived.Test.YtedbmmoddemngaaOrd
import Derived.Test.YtedbmmoddemngaaClone
import Derived.Test.YtedbmmoddemngaaSpan
import Derived.BigQuiet
namespace Go.Proofs.Ytedbmmoddemngaa
open Go.RowKit
attribute [local go_sem ↓] Go.wp_at_zero Go.wp_at_succ
theorem news_one {W : World} {b : Nat} {x : Value} (hc : W.cell? ⟨b, 0, none⟩ = some x) : ∀ j u, [x][j]? = some u → W.cell? ((⟨b, 0, none⟩ : Addr).add j) = some u := by
  intro j u hj
  match j, hj with
  | 0, hj => simp at hj; subst hj; simpa [Addr.add] using hc
/-- A slice that reads as xs, and has room for itself. -/
def ReadsV {α : Type} (K : Nat) (enc : α → List Value) (xs : List α) (w : World) (e : Ending) (w' : World) : Prop :=
  ∃ a cap, e = .returned (.slice a xs.length cap) ∧ Reads w' a K enc xs ∧ xs.length ≤ cap ∧ cap ≤ maxLen ∧ Below w.heap.size w w'
theorem ReadsV.fresh {α : Type} {T K : Nat} {enc : α → List Value} {xs : List α} {w w' : World} {e : Ending} (hk : ∀ x, (enc x).length = K) (h : Fresh T K (xs.flatMap enc) xs.length w e w') : ReadsV K enc xs w e w' := by
  obtain ⟨v, rfl, h1, h2⟩ := h
  obtain ⟨a, cap, rfl, h3, h4, h5⟩ := reads_of_owns' hk h1
  exact ⟨a, cap, rfl, h3, h4, h5, h2⟩
theorem Reads.dropA {α : Type} {enc : α → List Value} {w : World} {a : Option Addr} {K k cap : Nat} {xs : List α} (h : Reads w a K enc xs) (hk : k < xs.length) : ∃ b off, a = some ⟨b, off, none⟩ ∧ Reads w (some ⟨b, off + k * K, none⟩) K enc (xs.drop k) := by
  rcases h with rfl | ⟨b, off, e, h2, h3⟩
  · simp at hk
  · refine ⟨b, off, e, .inr ⟨b, off + k * K, rfl, h2, fun i x hx j v hv => ?_⟩⟩
    rw [List.getElem?_drop] at hx
    have := h3 (k + i) x hx j v hv
    rwa [show off + ((k + i) * K + j) = off + k * K + (i * K + j) by rw [Nat.add_mul]; omega] at this

set_option maxRecDepth 100000 in
set_option maxHeartbeats 4000000 in
theorem specPut_c (a : Option Addr) (cap : Nat) (xs : List ByteArray) (x : ByteArray) (w : World) (hlen : xs.length ≤ 2097152) (hr : Reads w a 1 encS xs) (hcap : xs.length ≤ cap) (hcm : cap ≤ maxLen) :
    Calls Try.prog 23 #[.slice a xs.length cap, .string x] w (ReadsV 1 encS (addS xs x) w) := by
  obtain ⟨i0, hinf, hzz⟩ := Option.map_eq_some_iff.1 infoString
  simp only [Prod.mk.injEq] at hzz
  have HI := Lib.hid hinf
  have HZ := Lib.hid hzz
  have HR := Lib.hid hr
  have HCM := Lib.hid hcm
  unfold maxLen at hcm
  obtain ⟨TT, hTT⟩ : ∃ TT, TT = addS xs x := ⟨_, rfl⟩
  have HT := Lib.hid hTT
  rw [← hTT]
  clear hTT hinf hzz hr
  go_enter Try.func23, Try.ntmps23
  go_wp2
  go_loop [5] (fun i => ∃ k : Nat, k ≤ xs.length ∧ i = .int .i64 k ∧ Hid (noneUp (geP x) xs k)) (fun i => xs.length - (intOf i).toNat)
  case atStart => exact ⟨0, Nat.zero_le _, rfl, Lib.hid (noneUp_zero _ _)⟩
  case round =>
    obtain ⟨k, hk, rfl, HU⟩ := hrel
    have p1 : (0 : Int) ≤ (k : Int) := by omega
    rcases Nat.lt_or_ge k xs.length with hlt | hge
    · obtain ⟨y, hy⟩ := some_of_lt hlt
      have p2 : (k : Int) < (xs.length : Int) := by omega
      have HY := Lib.hid hy
      obtain ⟨b, off, hab, c0⟩ := readFS HR.out (Below.refl _ _) hy
      clear hy
      cases hq : Op.bytesLess y.toList x.toList with
      | true =>
        have hs := Lib.hid (noneUp_succ HU.out HY.out (show geP x y = false by simp [geP, ltB, hq]))
        subst hab
        go_wp2
        go_round
        case rel => exact ⟨k + 1, by omega, by go_num, hs⟩
        case measure => simp [intOf]; omega
      | false =>
        have HK := Lib.hid (find_hit HU.out HY.out (show geP x y = true by simp [geP, ltB, hq]))
        cases he : eqB y x with
        | true =>
          have q : (y.toList == x.toList) = true := he
          have HE := Lib.hid (HT.out.trans (addS_here HK.out HY.out he))
          clear he
          have HR2 := HR
          subst hab
          go_wp2
          go_ret
          rw [HE.out]
          exact ⟨_, _, rfl, HR2.out, hcap, HCM.out, Below.refl _ _⟩
        | false =>
          have q : (y.toList == x.toList) = false := he
          have HE := Lib.hid (HT.out.trans (addS_in HK.out HY.out he))
          clear he
          obtain ⟨b', off', hab', hd⟩ := HR.out.dropA (cap := cap) hlt
          rw [hab] at hab'
          cases hab'
          have HD := Lib.hid hd
          have HTk := Lib.hid (HR.out.take k)
          have HTl := Lib.hid (show (xs.take k).length = k from by rw [List.length_take]; omega)
          have HDl := Lib.hid (show (xs.drop k).length = xs.length - k from by rw [List.length_drop])
          have hck : ¬ (cap = k) := by omega
          clear hd
          subst hab
          go_wp2_with (at_builtin; refine wpList_append_reads _ rfl _ _ 24 rfl w.heap.size 9 i0 (.string ⟨#[]⟩) 1 16 Try.underlying24 HI.out HZ.out.1 HZ.out.2.1 HZ.out.2.2 rfl (by decide) encS_len encS_one _ 0 [] rfl ⟨rfl, .inr ⟨w.heap.size, 0, #[], rfl, Nat.le_refl _, heap_alloc_new w _, Nat.le_refl _, Nat.zero_le _, rfl, rfl⟩⟩ (some ⟨b, off, none⟩) k cap (xs.take k) rfl HTl.out.symm (HTk.out.below (by repeat (first | exact Below.refl _ _ | refine Below.drew ?_ | refine below_drewN ?_ _ | refine Below.allocC ?_ _ | refine Below.setCell ?_ (by first | (simp; done) | (simp; omega)) _ | refine Below.chain ?_ (by assumption)))) (by rw [HTl.out]; unfold maxLen; omega) (by rw [HTl.out]; omega) (by simp) ?_)
          intro v1 w1 o1 g1 or1
          have B1 : Below w.heap.size w w1 := by
            refine Below.trans (show Below w.heap.size w (w.alloc (.cells #[] 9)) from (by repeat (first | exact Below.refl _ _ | refine Below.drew ?_ | refine below_drewN ?_ _ | refine Below.allocC ?_ _ | refine Below.setCell ?_ (by first | (simp; done) | (simp; omega)) _ | refine Below.chain ?_ (by assumption)))) (below_of_grown g1 (Nat.le_refl _) (by simp))
          have HO1 := Lib.hid (show w1.ownsRow w.heap.size 9 1 v1 k ((xs.take k).flatMap encS) from by first | exact o1 | simpa [HTl.out] using o1)
          clear o1 g1 or1
          go_wp2_with (at_builtin; refine wpList_append_own2 _ rfl _ _ 24 rfl w.heap.size 9 i0 (.string ⟨#[]⟩) 1 16 Try.underlying24 HI.out HZ.out.1 HZ.out.2.1 HZ.out.2.2 rfl (by decide) _ _ _ rfl (HO1.out.alloc _) ⟨w1.heap.size, 0, none⟩ 1 1 [.string x] rfl rfl ?e0 ?e1 ?e2 ?e3 ?e4 ?_)
          case e0 =>
            intro j u hj
            match j, hj with
            | 0, hj => simp at hj; subst hj; simp [Addr.add]
          case e1 => intro u hu; simp at hu; subst hu; rfl
          case e2 => unfold maxLen; omega
          case e3 => omega
          case e4 => have := B1.size; simp; omega
          intro v2 w2 o2 g2 or2
          have B2 : Below w.heap.size w w2 := by
            have h := OwnStep.fresh (w := w) (W := w1.alloc (.cells #[.string x] 9)) (e := .returned v2) (w' := w2) (by repeat (first | exact Below.refl _ _ | refine Below.drew ?_ | refine below_drewN ?_ _ | refine Below.allocC ?_ _ | refine Below.setCell ?_ (by first | (simp; done) | (simp; omega)) _ | refine Below.chain ?_ (by assumption))) (HO1.out.alloc _) ⟨v2, rfl, o2, g2, or2⟩
            obtain ⟨_, _, _, h⟩ := h
            exact h
          have HO2 := Lib.hid o2
          clear o2 g2 or2
          go_wp2_with (at_builtin; refine wpList_append_reads _ rfl _ _ 24 rfl w.heap.size 9 i0 (.string ⟨#[]⟩) 1 16 Try.underlying24 HI.out HZ.out.1 HZ.out.2.1 HZ.out.2.2 rfl (by decide) encS_len encS_one _ _ _ rfl HO2.out (some ⟨b, off + k, none⟩) (xs.length - k) (cap - k) (xs.drop k) rfl HDl.out.symm (show Reads w2 _ _ _ _ by have := HD.out.below B2; rwa [Nat.mul_one] at this) (by rw [HDl.out]; unfold maxLen; omega) (by rw [HDl.out]; omega) B2.size ?_)
          intro v3 w3 o3 g3 or3
          have h := OwnStep.fresh (w := w) (e := .returned v3) (w' := w3) B2 HO2.out ⟨v3, rfl, o3, g3, or3⟩
          have H2 := Lib.hid (show ReadsV 1 encS TT w (.returned v3) w3 from ReadsV.fresh encS_len (T := 9) (by
            have hl : TT.length = k + 1 + (xs.length - k) := by rw [HE.out, List.length_append, List.length_cons, HTl.out, HDl.out]; omega
            have hf : TT.flatMap encS = (xs.take k).flatMap encS ++ Value.string x :: (xs.drop k).flatMap encS := by rw [HE.out]; simp [List.flatMap_append, encS]
            rw [hl, hf]
            first | exact h | simpa using h))
          clear h o3 g3 or3
          go_wp2
          go_ret
          exact H2.out
    · obtain rfl : k = xs.length := by omega
      have HE := Lib.hid (HT.out.trans (addS_end (find_miss HU.out (Nat.le_refl _))))
      have p2 : ¬ (xs.length : Int) < (xs.length : Int) := by omega
      clear HU
      cases a with
      | none =>
        have hz : xs.length = 0 := by
          rcases HR.out with h | ⟨_, _, h, _⟩
          · rw [h]; rfl
          · cases h
        have hx : xs = [] := List.eq_nil_of_length_eq_zero hz
        subst hx
        go_wp2_with (at_builtin; refine wpList_append_reads _ rfl _ _ 24 rfl w.heap.size 9 i0 (.string ⟨#[]⟩) 1 16 Try.underlying24 HI.out HZ.out.1 HZ.out.2.1 HZ.out.2.2 rfl (by decide) encS_len encS_one _ 0 [] rfl ⟨rfl, .inr ⟨w.heap.size, 0, #[], rfl, Nat.le_refl _, heap_alloc_new w _, Nat.le_refl _, Nat.zero_le _, rfl, rfl⟩⟩ _ _ _ [] rfl (by simp) (.inl rfl) (by simp) (by simp) (by simp) ?_)
        intro v1 w1 o1 g1 or1
        have B1 : Below w.heap.size w w1 := by
          refine Below.trans (show Below w.heap.size w (w.alloc (.cells #[] 9)) from (by repeat (first | exact Below.refl _ _ | refine Below.drew ?_ | refine below_drewN ?_ _ | refine Below.allocC ?_ _ | refine Below.setCell ?_ (by first | (simp; done) | (simp; omega)) _ | refine Below.chain ?_ (by assumption)))) (below_of_grown g1 (Nat.le_refl _) (by simp))
        have HO1 := Lib.hid (show w1.ownsRow w.heap.size 9 1 v1 ([] : List ByteArray).length (([] : List ByteArray).flatMap encS) from by first | exact o1 | simpa using o1)
        clear o1 g1 or1
        go_wp2_with (at_builtin; refine wpList_append_own2 _ rfl _ _ 24 rfl w.heap.size 9 i0 (.string ⟨#[]⟩) 1 16 Try.underlying24 HI.out HZ.out.1 HZ.out.2.1 HZ.out.2.2 rfl (by decide) _ _ _ rfl (HO1.out.alloc _) ⟨w1.heap.size, 0, none⟩ 1 1 [.string x] rfl rfl (news_one (by simp)) (by intro u hu; simp at hu; subst hu; rfl) (by unfold maxLen; omega) (by omega) (by have := B1.size; simp; omega) ?_)
        intro v2 w2 o2 g2 or2
        have B2 : Below w.heap.size w w2 := by
          have h := OwnStep.fresh (w := w) (W := w1.alloc (.cells #[.string x] 9)) (e := .returned v2) (w' := w2) (by repeat (first | exact Below.refl _ _ | refine Below.drew ?_ | refine below_drewN ?_ _ | refine Below.allocC ?_ _ | refine Below.setCell ?_ (by first | (simp; done) | (simp; omega)) _ | refine Below.chain ?_ (by assumption))) (HO1.out.alloc _) ⟨v2, rfl, o2, g2, or2⟩
          obtain ⟨_, _, _, h⟩ := h
          exact h
        have HO2 := Lib.hid o2
        clear o2 g2 or2
        go_wp2_with (at_builtin; refine wpList_append_reads _ rfl _ _ 24 rfl w.heap.size 9 i0 (.string ⟨#[]⟩) 1 16 Try.underlying24 HI.out HZ.out.1 HZ.out.2.1 HZ.out.2.2 rfl (by decide) encS_len encS_one _ _ _ rfl HO2.out _ _ _ [] rfl (by simp) (.inl rfl) (by first | (simp; done) | (simp; unfold maxLen; omega) | (unfold maxLen; simp)) (by first | (simp; done) | (simp; omega)) B2.size ?_)
        intro v3 w3 o3 g3 or3
        have h := OwnStep.fresh (w := w) (e := .returned v3) (w' := w3) B2 HO2.out ⟨v3, rfl, o3, g3, or3⟩
        have H2 := Lib.hid (show ReadsV 1 encS TT w (.returned v3) w3 from ReadsV.fresh encS_len (T := 9) (by
          have hl : TT.length = 1 := by rw [HE.out]; simp
          have hf : TT.flatMap encS = [Value.string x] := by rw [HE.out]; simp [List.flatMap_append, encS]
          rw [hl, hf]
          first | exact h | simpa using h))
        clear h o3 g3 or3
        go_wp2
        go_ret
        exact H2.out
      | some ad =>
        have HRB := Lib.hid (HR.out.below (show Below w.heap.size w (w.alloc (.cells #[] 9)) from (by repeat (first | exact Below.refl _ _ | refine Below.drew ?_ | refine below_drewN ?_ _ | refine Below.allocC ?_ _ | refine Below.setCell ?_ (by first | (simp; done) | (simp; omega)) _ | refine Below.chain ?_ (by assumption)))))
        obtain ⟨b, off, spot⟩ := ad
        by_cases hck : cap = xs.length
        all_goals
          go_wp2_with (at_builtin; refine wpList_append_reads _ rfl _ _ 24 rfl w.heap.size 9 i0 (.string ⟨#[]⟩) 1 16 Try.underlying24 HI.out HZ.out.1 HZ.out.2.1 HZ.out.2.2 rfl (by decide) encS_len encS_one _ 0 [] rfl ⟨rfl, .inr ⟨w.heap.size, 0, #[], rfl, Nat.le_refl _, heap_alloc_new w _, Nat.le_refl _, Nat.zero_le _, rfl, rfl⟩⟩ _ _ _ xs rfl (by simp) HRB.out (by unfold maxLen; omega) (by omega) (by simp) ?_)
          intro v1 w1 o1 g1 or1
          have B1 : Below w.heap.size w w1 := by
            refine Below.trans (show Below w.heap.size w (w.alloc (.cells #[] 9)) from (by repeat (first | exact Below.refl _ _ | refine Below.drew ?_ | refine below_drewN ?_ _ | refine Below.allocC ?_ _ | refine Below.setCell ?_ (by first | (simp; done) | (simp; omega)) _ | refine Below.chain ?_ (by assumption)))) (below_of_grown g1 (Nat.le_refl _) (by simp))
          have HO1 := Lib.hid (show w1.ownsRow w.heap.size 9 1 v1 xs.length (xs.flatMap encS) from by first | exact o1 | simpa using o1)
          clear o1 g1 or1
          go_wp2_with (at_builtin; refine wpList_append_own2 _ rfl _ _ 24 rfl w.heap.size 9 i0 (.string ⟨#[]⟩) 1 16 Try.underlying24 HI.out HZ.out.1 HZ.out.2.1 HZ.out.2.2 rfl (by decide) _ _ _ rfl (HO1.out.alloc _) ⟨w1.heap.size, 0, none⟩ 1 1 [.string x] rfl rfl (news_one (by simp)) (by intro u hu; simp at hu; subst hu; rfl) (by unfold maxLen; omega) (by omega) (by have := B1.size; simp; omega) ?_)
          intro v2 w2 o2 g2 or2
          have B2 : Below w.heap.size w w2 := by
            have h := OwnStep.fresh (w := w) (W := w1.alloc (.cells #[.string x] 9)) (e := .returned v2) (w' := w2) (by repeat (first | exact Below.refl _ _ | refine Below.drew ?_ | refine below_drewN ?_ _ | refine Below.allocC ?_ _ | refine Below.setCell ?_ (by first | (simp; done) | (simp; omega)) _ | refine Below.chain ?_ (by assumption))) (HO1.out.alloc _) ⟨v2, rfl, o2, g2, or2⟩
            obtain ⟨_, _, _, h⟩ := h
            exact h
          have HO2 := Lib.hid o2
          clear o2 g2 or2
          go_wp2_with (at_builtin; refine wpList_append_reads _ rfl _ _ 24 rfl w.heap.size 9 i0 (.string ⟨#[]⟩) 1 16 Try.underlying24 HI.out HZ.out.1 HZ.out.2.1 HZ.out.2.2 rfl (by decide) encS_len encS_one _ _ _ rfl HO2.out _ _ _ [] rfl (by simp) (.inl rfl) (by first | (simp; done) | (simp; unfold maxLen; omega) | (unfold maxLen; simp)) (by first | (simp; done) | (simp; omega)) B2.size ?_)
          intro v3 w3 o3 g3 or3
          have h := OwnStep.fresh (w := w) (e := .returned v3) (w' := w3) B2 HO2.out ⟨v3, rfl, o3, g3, or3⟩
          have H2 := Lib.hid (show ReadsV 1 encS TT w (.returned v3) w3 from ReadsV.fresh encS_len (T := 9) (by
            have hl : TT.length = xs.length + 1 := by rw [HE.out]; simp
            have hf : TT.flatMap encS = xs.flatMap encS ++ [Value.string x] := by rw [HE.out]; simp [List.flatMap_append, encS]
            rw [hl, hf]
            first | exact h | simpa using h))
          clear h o3 g3 or3
          go_wp2
          go_ret
          exact H2.out

end Go.Proofs.Ytedbmmoddemngaa
