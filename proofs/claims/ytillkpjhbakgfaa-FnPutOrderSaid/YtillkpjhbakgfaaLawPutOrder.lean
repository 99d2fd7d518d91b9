/- FnPutOrder: puts at two keys may change places in a right store; put twice is put once. No conditions. -/
import Derived.Test.YtillkpjhbakgfaaRows
import Derived.Test.YtillkpjhbakgfaaDrawC
import Derived.Test.YtillkpjhbakgfaaBig
import Derived.Test.YtillkpjhbakgfaaPutFacts
import Derived.Test.YtillkpjhbakgfaaEqCCell
namespace Go.Proofs.Ytillkpjhbakgfaa.fnPutOrder
open Go.ChangeShapes Go.WideShapes Go.ChangeAt Go.RowKit
attribute [local go_sem ↓] Go.wp_at_zero Go.wp_at_succ
/-- Keys and values are no longer than a Go string may be. -/
def Ok (L : Sto) : Prop := ∀ x ∈ L, x.1.size ≤ maxLen ∧ x.2.size ≤ maxLen
theorem ok_put {L : Sto} (h : Ok L) {k v : ByteArray} (hk : k.size ≤ maxLen) (hv : v.size ≤ maxLen) : Ok (putKeyS L k v) := fun x hx => by
  rcases putKeyS_mem hx with rfl | hx
  · exact ⟨hk, hv⟩
  · exact h x hx
theorem put_r (a : Option Addr) (cap : Nat) (L : Sto) (k v : ByteArray) (w : World) (hl : L.length ≤ 100) (hr : Reads w a 2 encC L) (ho : Ok L) (hk : k.size ≤ maxLen) (hv : v.size ≤ maxLen) :
    Calls Try.prog 33 #[.slice a L.length cap, .string k, .string v] w fun e w' => ∃ a' cap', e = .returned (.slice a' (putKeyS L k v).length cap') ∧ Reads w' a' 2 encC (putKeyS L k v) ∧ Below w.heap.size w w' :=
  (implPutKey_c a cap L k v w (by omega) hr ho hk hv).mono fun _ _ ⟨_, h1, h2, h3⟩ => by
    obtain ⟨a', cap', rfl, hr'⟩ := reads_of_owns encC_len h2
    exact ⟨a', cap', h1, hr', h3⟩
theorem new_get : getKeyS (putKeyS [] ⟨#[97]⟩ ⟨#[98]⟩) ⟨#[97]⟩ = ⟨#[98]⟩ := by kernel_rfl

set_option maxRecDepth 100000 in
set_option maxHeartbeats 4000000 in
theorem walk (a0 : Option Addr) (len0 cap0 : Nat) (z0 : List Int) (w : World) (w0 : IsRow .u8 w a0 len0 cap0 z0) :
    Calls Try.prog 8 #[.slice a0 len0 cap0] w fun e w' => e = .returned (.bool true) ∧ Below w.heap.size w w' := by
  have HZ := Lib.hid w0
  clear w0
  by_cases hbig : 1048576 < len0
  · have KB := Lib.hid (fun W => big_yes a0 len0 cap0 W hbig)
    go_enter Try.func8, Try.ntmps8
    go_wp2_with fail
    refine (KB.out _).mono ?_
    rintro e w1 ⟨rfl, rfl⟩
    go_wp2
    go_ret
    exact ⟨rfl, Below.refl _ _⟩
  · have KB := Lib.hid (fun W => big_no a0 len0 cap0 W (by omega))
    have KM := Lib.hid (drawPut_c a0 len0 cap0 z0 w HZ.out)
    go_enter Try.func8, Try.ntmps8
    go_wp2_with fail
    refine (KB.out _).mono ?_
    rintro e w1 ⟨rfl, rfl⟩
    go_wp2_with fail
    refine KM.out.mono ?_
    rintro e w1 ⟨v, xs, key, val, rfl, hkey, hval, ho1, hl, hin, hb1⟩
    obtain ⟨a, cap, hv, hr⟩ := reads_of_owns encC_len ho1
    subst hv
    have KD := Lib.hid (drawGet_c a0 len0 cap0 z0 w1 (HZ.out.below hb1))
    clear ho1
    have HR1 := Lib.hid hr
    have HB1 := Lib.hid hb1
    have HOK := Lib.hid (show Ok xs from CellsIn.ok anyList_sizes hin)
    have SK := Lib.hid (show key.size ≤ maxLen from by have := anyList_sizes key hkey; unfold maxLen; omega)
    have SV := Lib.hid (show val.size ≤ maxLen from by unfold maxLen; omega)
    clear hr hb1 hin hkey hval
    go_wp2_with fail
    refine KD.out.mono ?_
    rintro e w2 ⟨vd, ds, other, rfl, hoth, hod, _, _, hb2⟩
    obtain ⟨ad, capd, hvd, _⟩ := reads_of_owns encC_len hod
    subst hvd
    have SO := Lib.hid (show other.size ≤ maxLen from by have := anyList_sizes other hoth; unfold maxLen; omega)
    have HR2 := Lib.hid (HR1.out.below hb2)
    have HB2 := Lib.hid (HB1.out.trans (hb2.mono HB1.out.size))
    clear hb2 hod hoth HR1 HB1
    have S9 : (⟨#[57]⟩ : ByteArray).size ≤ maxLen := by decide
    obtain ⟨L1, h1⟩ : ∃ L, L = putKeyS xs key val := ⟨_, rfl⟩
    obtain ⟨L2, h2⟩ : ∃ L, L = putKeyS L1 other ⟨#[57]⟩ := ⟨_, rfl⟩
    obtain ⟨M1, g1⟩ : ∃ L, L = putKeyS xs other ⟨#[57]⟩ := ⟨_, rfl⟩
    obtain ⟨M2, g2⟩ : ∃ L, L = putKeyS M1 key val := ⟨_, rfl⟩
    have l1 : L1.length ≤ 10 := by have := putKeyS_len xs key val; rw [h1]; omega
    have l2 : L2.length ≤ 11 := by have := putKeyS_len L1 other ⟨#[57]⟩; rw [h2]; omega
    have m1 : M1.length ≤ 10 := by have := putKeyS_len xs other ⟨#[57]⟩; rw [g1]; omega
    have m2 : M2.length ≤ 11 := by have := putKeyS_len M1 key val; rw [g2]; omega
    have O1 := Lib.hid (show Ok L1 from h1 ▸ ok_put HOK.out SK.out SV.out)
    have P1 := Lib.hid (show Ok M1 from g1 ▸ ok_put HOK.out SO.out S9)
    have HTW := Lib.hid (show putKeyS L1 key val = L1 from by rw [h1]; exact putKeyS_twice xs key val)
    have HCM := Lib.hid (show key ≠ other → storeOkB xs = true → L2 = M2 from fun hn ho => by
      rw [h2, g2, h1, g1]; exact putKeyS_comm ((storeOk_iff xs).1 ho).2.1 hn)
    have K1 := Lib.hid (put_r a cap xs key val w2 (by omega) HR2.out HOK.out SK.out SV.out)
    rw [← h1] at K1
    have K2 := Lib.hid (fun A C W h => put_r A C L1 other ⟨#[57]⟩ W (by omega) h O1.out SO.out S9)
    rw [← h2] at K2
    have K3 := Lib.hid (fun W h => put_r a cap xs other ⟨#[57]⟩ W (by omega) h HOK.out SO.out S9)
    rw [← g1] at K3
    have K4 := Lib.hid (fun A C W h => put_r A C M1 key val W (by omega) h P1.out SK.out SV.out)
    rw [← g2] at K4
    have K5 := Lib.hid (fun W h => put_r a cap xs key val W (by omega) h HOK.out SK.out SV.out)
    rw [← h1] at K5
    have K6 := Lib.hid (fun A C W h => put_r A C L1 key val W (by omega) h O1.out SK.out SV.out)
    rw [HTW.out] at K6
    have KS := Lib.hid (fun W h => specStoreOk_c a cap xs W (by unfold maxLen; omega) h HOK.out)
    have KE := Lib.hid (fun A C A2 C2 W h h2 => lawEqCell_c A A2 C C2 L2 M2 W (by unfold maxLen; omega) h h2)
    have KE1 := Lib.hid (fun A C A2 C2 W h h2 => lawEqCell_c A A2 C C2 L1 L1 W (by unfold maxLen; omega) h h2)
    have KN := Lib.hid (fun W => put_r none 0 [] ⟨#[97]⟩ ⟨#[98]⟩ W (by decide) (.inl rfl) (fun x hx => by cases hx) (by decide) (by decide))
    have KG := Lib.hid (fun A C W h => implGetKey_c A C (putKeyS [] ⟨#[97]⟩ ⟨#[98]⟩) ⟨#[97]⟩ W (by have := putKeyS_len [] ⟨#[97]⟩ ⟨#[98]⟩; unfold maxLen; simp at this; omega) h)
    rw [new_get] at KG
    obtain ⟨NN, hNN⟩ : ∃ L, L = putKeyS [] ⟨#[97]⟩ ⟨#[98]⟩ := ⟨_, rfl⟩
    rw [← hNN] at KN KG
    clear h1 h2 g1 g2 hNN HTW
    obtain ⟨ok, hok⟩ : ∃ b, storeOkB xs = b := ⟨_, rfl⟩
    rw [hok] at KS HCM
    clear hok
    go_wp2_with fail
    refine K1.out.mono ?_
    rintro e w3 ⟨a1, c1, rfl, r3, hb3⟩
    have HL1 := Lib.hid r3
    have HB3 := Lib.hid (HB2.out.trans (hb3.mono HB2.out.size))
    have HR3 := Lib.hid (HR2.out.below hb3)
    clear r3 hb3 HR2 HB2
    go_wp2_with fail
    refine (K2.out _ _ _ HL1.out).mono ?_
    rintro e w4 ⟨a2, c2, rfl, r4, hb4⟩
    have HL2 := Lib.hid r4
    have HB4 := Lib.hid (HB3.out.trans (hb4.mono HB3.out.size))
    have HR4 := Lib.hid (HR3.out.below hb4)
    clear r4 hb4 HR3 HB3 HL1
    go_wp2_with fail
    refine (K3.out _ HR4.out).mono ?_
    rintro e w5 ⟨a3, c3, rfl, r5, hb5⟩
    have HM1 := Lib.hid r5
    have HB5 := Lib.hid (HB4.out.trans (hb5.mono HB4.out.size))
    have HR5 := Lib.hid (HR4.out.below hb5)
    have HL2' := Lib.hid (HL2.out.below hb5)
    clear r5 hb5 HR4 HB4 HL2
    go_wp2_with fail
    refine (K4.out _ _ _ HM1.out).mono ?_
    rintro e w6 ⟨a4, c4, rfl, r6, hb6⟩
    have HM2 := Lib.hid r6
    have HB6 := Lib.hid (HB5.out.trans (hb6.mono HB5.out.size))
    have HR6 := Lib.hid (HR5.out.below hb6)
    have HL6 := Lib.hid (HL2'.out.below hb6)
    clear r6 hb6 HR5 HB5 HL2' HM1
    go_wp2_with fail
    refine (K5.out _ HR6.out).mono ?_
    rintro e w7 ⟨az, cz, rfl, r7, hb7⟩
    have HZ7 := Lib.hid r7
    have HB7 := Lib.hid (HB6.out.trans (hb7.mono HB6.out.size))
    have HR7 := Lib.hid (HR6.out.below hb7)
    have HL7 := Lib.hid (HL6.out.below hb7)
    have HM7 := Lib.hid (HM2.out.below hb7)
    clear r7 hb7 HR6 HB6 HL6 HM2
    by_cases hko : key = other
    · have q2 : (key.toList == other.toList) = true := by rw [hko]; exact beq_self_eq_true _
      clear HCM hko
      go_wp2_with fail
      refine (K6.out _ _ _ HZ7.out).mono ?_
      rintro e w8 ⟨a8, c8, rfl, r8, hb8⟩
      have HB8 := Lib.hid (HB7.out.trans (hb8.mono HB7.out.size))
      have KX := Lib.hid (KE1.out a8 c8 az cz w8 r8 (HZ7.out.below hb8))
      rw [same_self] at KX
      clear r8 hb8
      go_wp2_with fail
      refine KX.out.mono ?_
      rintro e w9 ⟨rfl, hb9⟩
      have HB9 := Lib.hid (HB8.out.trans (hb9.mono HB8.out.size))
      clear hb9
      go_wp2_with fail
      refine (KN.out _).mono ?_
      rintro e w10 ⟨an, cn, rfl, r10, hb10⟩
      have HN := Lib.hid r10
      have HB10 := Lib.hid (HB9.out.trans (hb10.mono HB9.out.size))
      clear hb10 r10
      go_wp2_with fail
      refine (KG.out _ _ _ HN.out).mono ?_
      rintro e w11 ⟨rfl, hb11⟩
      have HB11 := Lib.hid (HB10.out.trans (hb11.mono HB10.out.size))
      clear hb11
      go_wp2
      go_ret
      exact ⟨rfl, HB11.out⟩
    · have q2 : (key.toList == other.toList) = false := beq_toList_false hko
      go_wp2_with fail
      refine (KS.out _ HR7.out).mono ?_
      rintro e ws ⟨rfl, hbs⟩
      have HBs := Lib.hid (HB7.out.trans (hbs.mono HB7.out.size))
      have HZs := Lib.hid (HZ7.out.below hbs)
      have HLs := Lib.hid (HL7.out.below hbs)
      have HMs := Lib.hid (HM7.out.below hbs)
      clear hbs HR7
      cases ok
      · clear HCM hko
        go_wp2_with fail
        refine (K6.out _ _ _ HZs.out).mono ?_
        rintro e w8 ⟨a8, c8, rfl, r8, hb8⟩
        have HB8 := Lib.hid (HBs.out.trans (hb8.mono HBs.out.size))
        have KX := Lib.hid (KE1.out a8 c8 az cz w8 r8 (HZs.out.below hb8))
        rw [same_self] at KX
        clear r8 hb8
        go_wp2_with fail
        refine KX.out.mono ?_
        rintro e w9 ⟨rfl, hb9⟩
        have HB9 := Lib.hid (HB8.out.trans (hb9.mono HB8.out.size))
        clear hb9
        go_wp2_with fail
        refine (KN.out _).mono ?_
        rintro e w10 ⟨an, cn, rfl, r10, hb10⟩
        have HN := Lib.hid r10
        have HB10 := Lib.hid (HB9.out.trans (hb10.mono HB9.out.size))
        clear hb10 r10
        go_wp2_with fail
        refine (KG.out _ _ _ HN.out).mono ?_
        rintro e w11 ⟨rfl, hb11⟩
        have HB11 := Lib.hid (HB10.out.trans (hb11.mono HB10.out.size))
        clear hb11
        go_wp2
        go_ret
        exact ⟨rfl, HB11.out⟩
      · have KY := Lib.hid (KE.out a2 c2 a4 c4 _ HLs.out HMs.out)
        rw [HCM.out hko rfl, same_self] at KY
        have hlm := HCM.out hko rfl
        subst hlm
        clear HCM hko
        go_wp2_with fail
        refine KY.out.mono ?_
        rintro e wt ⟨rfl, hbt⟩
        have HBt := Lib.hid (HBs.out.trans (hbt.mono HBs.out.size))
        have HZt := Lib.hid (HZs.out.below hbt)
        clear hbt
        go_wp2_with fail
        refine (K6.out _ _ _ HZt.out).mono ?_
        rintro e w8 ⟨a8, c8, rfl, r8, hb8⟩
        have HB8 := Lib.hid (HBt.out.trans (hb8.mono HBt.out.size))
        have KX := Lib.hid (KE1.out a8 c8 az cz w8 r8 (HZt.out.below hb8))
        rw [same_self] at KX
        clear r8 hb8
        go_wp2_with fail
        refine KX.out.mono ?_
        rintro e w9 ⟨rfl, hb9⟩
        have HB9 := Lib.hid (HB8.out.trans (hb9.mono HB8.out.size))
        clear hb9
        go_wp2_with fail
        refine (KN.out _).mono ?_
        rintro e w10 ⟨an, cn, rfl, r10, hb10⟩
        have HN := Lib.hid r10
        have HB10 := Lib.hid (HB9.out.trans (hb10.mono HB9.out.size))
        clear hb10 r10
        go_wp2_with fail
        refine (KG.out _ _ _ HN.out).mono ?_
        rintro e w11 ⟨rfl, hb11⟩
        have HB11 := Lib.hid (HB10.out.trans (hb11.mono HB10.out.size))
        clear hb11
        go_wp2
        go_ret
        exact ⟨rfl, HB11.out⟩

/- SIG
theorem walk (a0 : Option Addr) (len0 cap0 : Nat) (z0 : List Int) (w : World) (w0 : IsRow .u8 w a0 len0 cap0 z0) :
    Calls Try.prog 8 #[.slice a0 len0 cap0] w fun e w' => e = .returned (.bool true) ∧ Below w.heap.size w w' := by
-/
theorem own : ownKnob Try.prog.godebug = none := by kernel_rfl
theorem laidOut : laidOutB Try.prog = true := by kernel_rfl
set_option maxRecDepth 100000 in
theorem lifted (os : Os) (started : os.Started) (H : Type) (enc : TypeId × Value → H) :
    ReturnsInHanded {} Try.checked os 8 .any (Rows.fnPutOrderSpec.pre6 enc Try.prog Try.f8 Rows.fnPutOrderRow.domain false) (Rows.fnPutOrderSpec.post enc Try.prog Try.f8 false true false false) := by
  refine returnsInHanded_of_change (C := Try.checked) own started (by kernel_rfl) Try.func8
    (ChangeSpec.witness6 (enc := enc) (C := Try.checked) false ⟨#[], #[.slice none 0 0], []⟩ 8 (by kernel_rfl) (by kernel_rfl) (by kernel_rfl) (by kernel_rfl)) ?_
  intro W base args ds gs before hval0 hW _ _
  have hval : ∀ (j : Nat) t v, Try.f8.params[j]? = some t → args[j]? = some v → Value.okWide Try.prog W .any base t v := hval0
  have hW' := hW
  obtain ⟨p, q, hA0, hV, rfl, hfz, hnd⟩ := hW
  have hA : DataW.TrodAll enc Try.prog W 0 (fun _ => true) true Try.f8.params.toList args.toList ds p := hA0
  rw [Try.params8] at hA hval
  obtain ⟨v0, vs0, d0, ds0, p0, q0, hargs, rfl, rfl, h0, g0⟩ := trodAll_cons hA
  obtain ⟨rfl, rfl, rfl⟩ := trodAll_nil g0
  obtain rfl : args = #[v0] := by cases args; simp_all
  obtain ⟨rfl, rfl⟩ := trodVars_none hV
  have k0 := h0
  have lt0 : ∀ x ∈ p0, x.block < W.heap.size := by obtain ⟨m, hm⟩ := k0; exact DataW.trod_lt m _ _ _ hm
  obtain ⟨a0, len0, cap0, rfl⟩ := okWide_slice Try.underlying28 (hval 0 28 v0 rfl rfl)
  obtain ⟨z0, w0⟩ := isRow_of Try.underlying28 Try.underlying5 (by kernel_rfl) h0
  clear hA0 hval0
  refine (walk a0 len0 cap0 z0 W w0).mono fun e W' ⟨he, bel⟩ => ?_
  subst he
  exact ⟨_, rfl, _, _, _, [], _, [], hW', trodAll_mk1 (shut_bool Try.underlying4 _), (trodAll_cons_mk (Below.trod laidOut (by kernel_rfl) (of_decide_eq_true (by kernel_rfl)) k0 bel lt0) trodAll_mk0), rfl, bel.frame _, fun h => by cases h⟩
theorem over : Rows.fnPutOrderRow.holds Try.pinned (OpenSpec.ofChange Rows.fnPutOrderSpec) :=
  OpenClaim.holds_of_wide 8 Try.f8 rfl rfl rfl rfl rfl rfl rfl ⟨rfl, rfl, rfl, rfl, rfl⟩ rfl rfl rfl rfl rfl (by kernel_rfl) Try.func8 (by kernel_rfl)
    (of_decide_eq_true (by kernel_rfl)) (by unfold Func.isWrapper; first | (rw [if_pos (by decide +kernel)]; kernel_rfl) | (rw [if_neg (by decide +kernel)]; exact ⟨rfl, rfl⟩))
    (fun os started H enc _ => lifted os started H enc)
theorem proved : Rows.FnPutOrderSaid := over
#print axioms proved

end Go.Proofs.Ytillkpjhbakgfaa.fnPutOrder
