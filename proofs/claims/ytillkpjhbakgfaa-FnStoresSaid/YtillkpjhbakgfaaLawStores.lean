/- FnStores: a right store stays right, with room; keys under a beginning begin with it, and no others do. No conditions. -/
import Derived.Test.YtillkpjhbakgfaaRows
import Derived.Test.YtillkpjhbakgfaaDrawC
import Derived.Test.YtillkpjhbakgfaaBig
import Derived.Test.YtillkpjhbakgfaaPutFacts
import Derived.Test.YtillkpjhbakgfaaEqCString
import Derived.Test.YtillkpjhbakgfaaKeysUnder
namespace Go.Proofs.Ytillkpjhbakgfaa.fnStores
open Go.ChangeShapes Go.WideShapes Go.ChangeAt Go.RowKit
attribute [local go_sem ↓] Go.wp_at_zero Go.wp_at_succ
/-- Keys and values are no longer than a Go string may be. -/
def Ok (L : Sto) : Prop := ∀ x ∈ L, x.1.size ≤ maxLen ∧ x.2.size ≤ maxLen
theorem ok_put {L : Sto} (h : Ok L) {k v : ByteArray} (hk : k.size ≤ maxLen) (hv : v.size ≤ maxLen) : Ok (putKeyS L k v) := fun x hx => by
  rcases putKeyS_mem hx with rfl | hx
  · exact ⟨hk, hv⟩
  · exact h x hx
theorem put_r (a : Option Addr) (cap : Nat) (L : Sto) (k v : ByteArray) (w : World) (hl : L.length ≤ 100) (hr : Reads w a 2 encC L) (ho : Ok L) (hk : k.size ≤ maxLen) (hv : v.size ≤ maxLen) :
    Calls Try.prog 33 #[.slice a L.length cap, .string k, .string v] w fun e w' => ∃ a' cap', e = .returned (.slice a' (putKeyS L k v).length cap') ∧ Reads w' a' 2 encC (putKeyS L k v) ∧ Below w.heap.size w w' :=
  (implPutKey_c a cap L k v w (by omega) hr ho hk hv).mono fun _ _ ⟨_, h1, h2, h3⟩ => by
    obtain ⟨a', cap', rfl, hr'⟩ := reads_of_owns encC_len h2
    exact ⟨a', cap', h1, hr', h3⟩
theorem readsC_new (w : World) (xs : Sto) (T : TypeId) : Reads (w.alloc (.cells (xs.flatMap encC).toArray T)) (some ⟨w.heap.size, 0, none⟩) 2 encC xs :=
  .inr ⟨w.heap.size, 0, rfl, by simp, fun i x hx j v hv => by
    have hj : j < 2 := (List.getElem?_eq_some_iff.1 hv).1
    have h := getElem_flatMap encC_len xs i j x hx hj
    rw [hv] at h
    have := (Box.new w (xs.flatMap encC) T).cell (i * 2 + j) v h
    simpa using this⟩
theorem new_ok : storeOkB [(⟨#[97]⟩, ⟨#[98]⟩)] = true := by kernel_rfl
theorem pre_sizes : ∀ s ∈ prefixList, s.size ≤ 100 := fun s h => by
  have : (prefixList.all fun a => decide (a.size ≤ 100)) = true := by kernel_rfl
  exact of_decide_eq_true (List.all_eq_true.1 this s h)

set_option maxRecDepth 100000 in
set_option maxHeartbeats 4000000 in
theorem walk (a0 : Option Addr) (len0 cap0 : Nat) (z0 : List Int) (w : World) (w0 : IsRow .u8 w a0 len0 cap0 z0) :
    Calls Try.prog 10 #[.slice a0 len0 cap0] w fun e w' => e = .returned (.bool true) ∧ Below w.heap.size w w' := by
  have HZ := Lib.hid w0
  clear w0
  by_cases hbig : 1048576 < len0
  · have KB := Lib.hid (fun W => big_yes a0 len0 cap0 W hbig)
    go_enter Try.func10, Try.ntmps10
    go_wp2_with fail
    refine (KB.out _).mono ?_
    rintro e w1 ⟨rfl, rfl⟩
    go_wp2
    go_ret
    exact ⟨rfl, Below.refl _ _⟩
  · have KB := Lib.hid (fun W => big_no a0 len0 cap0 W (by omega))
    have KM := Lib.hid (drawUnder_c a0 len0 cap0 z0 w HZ.out)
    go_enter Try.func10, Try.ntmps10
    go_wp2_with fail
    refine (KB.out _).mono ?_
    rintro e w1 ⟨rfl, rfl⟩
    go_wp2_with fail
    refine KM.out.mono ?_
    rintro e w1 ⟨v, xs, p, rfl, hp, ho1, hl, hin, hb1⟩
    obtain ⟨a, cap, hv, hr⟩ := reads_of_owns encC_len ho1
    subst hv
    have hps := pre_sizes p hp
    clear ho1 hp
    have HR := Lib.hid hr
    have HB := Lib.hid hb1
    have HOK := Lib.hid (CellsIn.ok anyList_sizes hin)
    have KI := Lib.hid (implKeysUnder_c a cap xs p w1 (by omega) hr HOK.out (by unfold maxLen; omega))
    have KS := Lib.hid (fun W (h : Reads W a 2 encC xs) => specKeysUnder_c a cap xs p W (by omega) h HOK.out (by unfold maxLen; omega))
    have KO := Lib.hid (fun W (h : Reads W a 2 encC xs) => specStoreOk_c a cap xs W (by unfold maxLen; omega) h HOK.out)
    have KO2 := Lib.hid (fun W (h : Reads W a 2 encC xs) => implStoreOk_c a cap xs W (by unfold maxLen; omega) h HOK.out)
    have HKL := Lib.hid (keysU_len xs p)
    clear hr hb1 hin
    generalize storeOkB xs = ok at *
    go_wp2_with fail
    refine KI.out.mono ?_
    rintro e w2 ⟨v2, rfl, o2, hb2⟩
    obtain ⟨a2, cap2, hv2, r2⟩ := reads_of_owns encS_len o2
    subst hv2
    have HL2 := Lib.hid r2
    have HR2 := Lib.hid (HR.out.below hb2)
    have HB2 := Lib.hid (HB.out.trans (hb2.mono HB.out.size))
    clear o2 hb2 r2 KI
    have KS2 := Lib.hid (KS.out w2 HR2.out)
    go_wp2_with fail
    refine KS2.out.mono ?_
    rintro e w3 ⟨v3, rfl, o3, hb3⟩
    obtain ⟨a3, cap3, hv3, r3⟩ := reads_of_owns encS_len o3
    subst hv3
    have KE := Lib.hid (lawEqString_c a2 a3 cap2 cap3 (keysU xs p) (keysU xs p) w3 (by have := HKL.out; unfold maxLen; omega) (HL2.out.below hb3) r3)
    rw [same_self] at KE
    have HR3 := Lib.hid (HR2.out.below hb3)
    have HB3 := Lib.hid (HB2.out.trans (hb3.mono HB2.out.size))
    clear o3 hb3 r3 KS2
    go_wp2_with fail
    refine KE.out.mono ?_
    rintro e w4 ⟨rfl, hb4⟩
    have HR4 := Lib.hid (HR3.out.below hb4)
    have HB4 := Lib.hid (HB3.out.trans (hb4.mono HB3.out.size))
    clear hb4
    have K1 := Lib.hid (KO2.out w4 HR4.out)
    go_wp2_with fail
    refine K1.out.mono ?_
    rintro e w5 ⟨rfl, hb5⟩
    have HR5 := Lib.hid (HR4.out.below hb5)
    have HB5 := Lib.hid (HB4.out.trans (hb5.mono HB4.out.size))
    clear hb5
    have K2 := Lib.hid (KO.out w5 HR5.out)
    go_wp2_with fail
    refine K2.out.mono ?_
    rintro e w6 ⟨rfl, hb6⟩
    have HR6 := Lib.hid (HR5.out.below hb6)
    have HB6 := Lib.hid (HB5.out.trans (hb6.mono HB5.out.size))
    clear hb6
    have q1 : (ok != ok) = false := by cases ok <;> rfl
    have KD := Lib.hid (drawPut_c a0 len0 cap0 z0 w6 (HZ.out.below (HB6.out)))
    have HFULL := Lib.hid (show keysU (xs.take xs.length) p = keysU xs p from by rw [List.take_length])
    clear HR HB HR2 HB2 HR3 HB3 HR4 HB4 HR5 HB5 HL2 KS KO KO2 K1 K2 KE HOK
    go_wp2
    go_loop [6, 7] (fun n i => ∃ k : Nat, k ≤ xs.length ∧ i = .int .i64 k ∧ n = .int .i64 ((keysU (xs.take k) p).length : Nat)) (fun _ i => xs.length - (intOf i).toNat)
    case atStart => exact ⟨0, Nat.zero_le _, rfl, rfl⟩
    case round =>
      obtain ⟨k, hk, rfl, rfl⟩ := hrel
      have hkl : (keysU (xs.take k) p).length ≤ k := by have := keysU_len (xs.take k) p; rw [List.length_take] at this; omega
      by_cases hlt : k < xs.length
      · have p1 : (0 : Int) ≤ (k : Int) := by omega
        have p2 : (k : Int) < (xs.length : Int) := by omega
        obtain ⟨x, hx⟩ := some_of_lt hlt
        obtain ⟨b, off, hab, c0, c1⟩ := readFC HR6.out (Below.refl _ _) hx
        cases hab
        obtain ⟨x0, x1⟩ := x
        dsimp only at c0 c1
        have HHIT := Lib.hid (fun h => keysU_hit (p := p) hx h)
        have HMISS := Lib.hid (fun h => keysU_miss (p := p) hx h)
        dsimp only at HHIT HMISS
        clear hx
        by_cases h : p.size ≤ x0.size
        · have h' : (p.size : Int) ≤ (x0.size : Int) := by omega
          have HBG := Lib.hid (begins_is h)
          generalize hq : ((x0.extract 0 p.size).toList == p.toList) = r at *
          cases r
          · have HS := Lib.hid (HMISS.out HBG.out)
            clear HHIT HMISS HBG h
            go_wp2
            go_round
            case rel => exact ⟨k + 1, by omega, by go_num, by rw [HS.out]⟩
            case measure => simp [intOf]; omega
          · have HS := Lib.hid (HHIT.out HBG.out)
            clear HHIT HMISS HBG h
            go_wp2
            go_round
            case rel => exact ⟨k + 1, by omega, by go_num, by rw [HS.out, List.length_append]; go_num⟩
            case measure => simp [intOf]; omega
        · have h' : ¬ (p.size : Int) ≤ (x0.size : Int) := by omega
          have HS := Lib.hid (HMISS.out (begins_no (by omega)))
          clear HHIT HMISS h
          go_wp2
          go_round
          case rel => exact ⟨k + 1, by omega, by go_num, by rw [HS.out]⟩
          case measure => simp [intOf]; omega
      · obtain rfl : k = xs.length := by omega
        rw [HFULL.out] at *
        go_wp2_with fail
        refine KD.out.mono ?_
        rintro e w7 ⟨vt, ts, key, val, rfl, hkey, hval, hot, htl, htin, hb7⟩
        obtain ⟨at1, ct, hvt, rt⟩ := reads_of_owns encC_len hot
        subst hvt
        have HOKt := Lib.hid (show Ok ts from CellsIn.ok anyList_sizes htin)
        have HRt := Lib.hid rt
        have HB7 := Lib.hid (HB6.out.trans (hb7.mono HB6.out.size))
        have sk : key.size ≤ maxLen := by have := anyList_sizes key hkey; unfold maxLen; omega
        have sv : val.size ≤ maxLen := by unfold maxLen; omega
        have KT := Lib.hid (specStoreOk_c at1 ct ts w7 (by unfold maxLen; omega) rt HOKt.out)
        have KP := Lib.hid (fun W h => put_r at1 ct ts key val W (by omega) h HOKt.out sk sv)
        have hpl := putKeyS_len ts key val
        have KQ := Lib.hid (fun A C W h => implStoreOk_c A C (putKeyS ts key val) W (by unfold maxLen; omega) h (ok_put HOKt.out sk sv))
        have HST := Lib.hid (fun h => storeOk_put (xs := ts) h (by omega) key val)
        have KNEW := Lib.hid (fun W => implStoreOk_c (some ⟨W.heap.size, 0, none⟩) 1 [(⟨#[97]⟩, ⟨#[98]⟩)] (W.alloc (.cells #[.string ⟨#[97]⟩, .string ⟨#[98]⟩] 39)) (by decide) (readsC_new W [(⟨#[97]⟩, ⟨#[98]⟩)] 39) (fun x hx => by have := List.mem_singleton.1 hx; subst this; decide))
        rw [new_ok] at KNEW
        have p9 : ¬ (900 : Int) ≤ (ts.length : Int) := by omega
        clear hot htin hb7 rt hpl sk sv hval hkey
        obtain ⟨okt, hokt⟩ : ∃ b, storeOkB ts = b := ⟨_, rfl⟩
        rw [hokt] at KT HST
        clear hokt
        generalize (keysU xs p).length = n at *
        go_wp2_with fail
        refine KT.out.mono ?_
        rintro e w8 ⟨rfl, hb8⟩
        have HB8 := Lib.hid (HB7.out.trans (hb8.mono HB7.out.size))
        have HRt8 := Lib.hid (HRt.out.below hb8)
        clear hb8
        cases okt
        · go_wp2_with fail
          refine (KNEW.out _).mono ?_
          rintro e wz ⟨rfl, hbz⟩
          have HBZ := Lib.hid (HB8.out.trans ((show Below w8.heap.size w8 wz from (by repeat (first | exact Below.refl _ _ | refine Below.drew ?_ | refine below_drewN ?_ _ | refine Below.allocC ?_ _ | refine Below.setCell ?_ (by first | (simp; done) | (simp; omega)) _ | refine Below.chain ?_ (by assumption)))).mono HB8.out.size))
          clear hbz
          go_wp2
          go_ret
          exact ⟨rfl, HBZ.out⟩
        · have KP8 := Lib.hid (KP.out w8 HRt8.out)
          go_wp2_with fail
          refine KP8.out.mono ?_
          rintro e w9 ⟨a9, c9, rfl, r9, hb9⟩
          have HB9 := Lib.hid (HB8.out.trans (hb9.mono HB8.out.size))
          have KQ9 := Lib.hid (KQ.out a9 c9 w9 r9)
          rw [HST.out trivial] at KQ9
          clear hb9 r9
          go_wp2_with fail
          refine KQ9.out.mono ?_
          rintro e w10 ⟨rfl, hb10⟩
          have HB10 := Lib.hid (HB9.out.trans (hb10.mono HB9.out.size))
          clear hb10
          go_wp2_with fail
          refine (KNEW.out _).mono ?_
          rintro e wz ⟨rfl, hbz⟩
          have HBZ := Lib.hid (HB10.out.trans ((show Below w10.heap.size w10 wz from (by repeat (first | exact Below.refl _ _ | refine Below.drew ?_ | refine below_drewN ?_ _ | refine Below.allocC ?_ _ | refine Below.setCell ?_ (by first | (simp; done) | (simp; omega)) _ | refine Below.chain ?_ (by assumption)))).mono HB10.out.size))
          clear hbz
          go_wp2
          go_ret
          exact ⟨rfl, HBZ.out⟩

/- SIG
theorem walk (a0 : Option Addr) (len0 cap0 : Nat) (z0 : List Int) (w : World) (w0 : IsRow .u8 w a0 len0 cap0 z0) :
    Calls Try.prog 10 #[.slice a0 len0 cap0] w fun e w' => e = .returned (.bool true) ∧ Below w.heap.size w w' := by
-/
theorem own : ownKnob Try.prog.godebug = none := by kernel_rfl
theorem laidOut : laidOutB Try.prog = true := by kernel_rfl
set_option maxRecDepth 100000 in
theorem lifted (os : Os) (started : os.Started) (H : Type) (enc : TypeId × Value → H) :
    ReturnsInHanded {} Try.checked os 10 .any (Rows.fnStoresSpec.pre6 enc Try.prog Try.f10 Rows.fnStoresRow.domain false) (Rows.fnStoresSpec.post enc Try.prog Try.f10 false true false false) := by
  refine returnsInHanded_of_change (C := Try.checked) own started (by kernel_rfl) Try.func10
    (ChangeSpec.witness6 (enc := enc) (C := Try.checked) false ⟨#[], #[.slice none 0 0], []⟩ 8 (by kernel_rfl) (by kernel_rfl) (by kernel_rfl) (by kernel_rfl)) ?_
  intro W base args ds gs before hval0 hW _ _
  have hval : ∀ (j : Nat) t v, Try.f10.params[j]? = some t → args[j]? = some v → Value.okWide Try.prog W .any base t v := hval0
  have hW' := hW
  obtain ⟨p, q, hA0, hV, rfl, hfz, hnd⟩ := hW
  have hA : DataW.TrodAll enc Try.prog W 0 (fun _ => true) true Try.f10.params.toList args.toList ds p := hA0
  rw [Try.params10] at hA hval
  obtain ⟨v0, vs0, d0, ds0, p0, q0, hargs, rfl, rfl, h0, g0⟩ := trodAll_cons hA
  obtain ⟨rfl, rfl, rfl⟩ := trodAll_nil g0
  obtain rfl : args = #[v0] := by cases args; simp_all
  obtain ⟨rfl, rfl⟩ := trodVars_none hV
  have k0 := h0
  have lt0 : ∀ x ∈ p0, x.block < W.heap.size := by obtain ⟨m, hm⟩ := k0; exact DataW.trod_lt m _ _ _ hm
  obtain ⟨a0, len0, cap0, rfl⟩ := okWide_slice Try.underlying28 (hval 0 28 v0 rfl rfl)
  obtain ⟨z0, w0⟩ := isRow_of Try.underlying28 Try.underlying5 (by kernel_rfl) h0
  clear hA0 hval0
  refine (walk a0 len0 cap0 z0 W w0).mono fun e W' ⟨he, bel⟩ => ?_
  subst he
  exact ⟨_, rfl, _, _, _, [], _, [], hW', trodAll_mk1 (shut_bool Try.underlying4 _), (trodAll_cons_mk (Below.trod laidOut (by kernel_rfl) (of_decide_eq_true (by kernel_rfl)) k0 bel lt0) trodAll_mk0), rfl, bel.frame _, fun h => by cases h⟩
theorem over : Rows.fnStoresRow.holds Try.pinned (OpenSpec.ofChange Rows.fnStoresSpec) :=
  OpenClaim.holds_of_wide 10 Try.f10 rfl rfl rfl rfl rfl rfl rfl ⟨rfl, rfl, rfl, rfl, rfl⟩ rfl rfl rfl rfl rfl (by kernel_rfl) Try.func10 (by kernel_rfl)
    (of_decide_eq_true (by kernel_rfl)) (by unfold Func.isWrapper; first | (rw [if_pos (by decide +kernel)]; kernel_rfl) | (rw [if_neg (by decide +kernel)]; exact ⟨rfl, rfl⟩))
    (fun os started H enc _ => lifted os started H enc)
theorem proved : Rows.FnStoresSaid := over
#print axioms proved

end Go.Proofs.Ytillkpjhbakgfaa.fnStores
