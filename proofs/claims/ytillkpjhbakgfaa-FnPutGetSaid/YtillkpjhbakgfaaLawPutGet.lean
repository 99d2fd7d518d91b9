/- FnPutGet: what was put is read, and nothing else changed. No conditions. -/
import Derived.Test.YtillkpjhbakgfaaRows
import Derived.Test.YtillkpjhbakgfaaDrawC
import Derived.Test.YtillkpjhbakgfaaBig
import Derived.Test.YtillkpjhbakgfaaPutFacts
import Derived.Test.YtillkpjhbakgfaaEqCCell
import Derived.BigQuiet
namespace Go.Proofs.Ytillkpjhbakgfaa.fnPutGet
open Go.ChangeShapes Go.WideShapes Go.ChangeAt Go.RowKit
attribute [local go_sem ↓] Go.wp_at_zero Go.wp_at_succ
/-- Keys and values are no longer than a Go string may be. -/
def Ok (L : Sto) : Prop := ∀ x ∈ L, x.1.size ≤ maxLen ∧ x.2.size ≤ maxLen
theorem ok_put {L : Sto} (h : Ok L) {k v : ByteArray} (hk : k.size ≤ maxLen) (hv : v.size ≤ maxLen) : Ok (putKeyS L k v) := fun x hx => by
  rcases putKeyS_mem hx with rfl | hx
  · exact ⟨hk, hv⟩
  · exact h x hx
theorem put_r (a : Option Addr) (cap : Nat) (L : Sto) (k v : ByteArray) (w : World) (hl : L.length ≤ 100) (hr : Reads w a 2 encC L) (ho : Ok L) (hk : k.size ≤ maxLen) (hv : v.size ≤ maxLen) :
    Calls Try.prog 33 #[.slice a L.length cap, .string k, .string v] w fun e w' => ∃ a' cap', e = .returned (.slice a' (putKeyS L k v).length cap') ∧ Reads w' a' 2 encC (putKeyS L k v) ∧ Below w.heap.size w w' :=
  (implPutKey_c a cap L k v w (by omega) hr ho hk hv).mono fun _ _ ⟨_, h1, h2, h3⟩ => by
    obtain ⟨a', cap', rfl, hr'⟩ := reads_of_owns encC_len h2
    exact ⟨a', cap', h1, hr', h3⟩
theorem spec_r (a : Option Addr) (cap : Nat) (L : Sto) (k v : ByteArray) (w : World) (hl : L.length ≤ 100) (hr : Reads w a 2 encC L) (ho : Ok L) (hk : k.size ≤ maxLen) (hv : v.size ≤ maxLen) :
    Calls Try.prog 31 #[.slice a L.length cap, .string k, .string v] w fun e w' => ∃ a' cap', e = .returned (.slice a' (putKeyS L k v).length cap') ∧ Reads w' a' 2 encC (putKeyS L k v) ∧ Below w.heap.size w w' :=
  (specPutKey_c a cap L k v w (by omega) hr ho hk hv).mono fun _ _ ⟨_, h1, h2, h3⟩ => by
    obtain ⟨a', cap', rfl, hr'⟩ := reads_of_owns encC_len h2
    exact ⟨a', cap', h1, hr', h3⟩
theorem readsC_new (w : World) (xs : Sto) (T : TypeId) : Reads (w.alloc (.cells (xs.flatMap encC).toArray T)) (some ⟨w.heap.size, 0, none⟩) 2 encC xs :=
  .inr ⟨w.heap.size, 0, rfl, by simp, fun i x hx j v hv => by
    have hj : j < 2 := (List.getElem?_eq_some_iff.1 hv).1
    have h := getElem_flatMap encC_len xs i j x hx hj
    rw [hv] at h
    have := (Box.new w (xs.flatMap encC) T).cell (i * 2 + j) v h
    simpa using this⟩
theorem new_get : getKeyS [(⟨#[97]⟩, ⟨#[98]⟩)] ⟨#[97]⟩ = ⟨#[98]⟩ := by kernel_rfl

/-- What the loop's rounds keep: the three stores read, the older world stands. -/
structure Hold (w0 : World) (a a1 a2 : Option Addr) (xs L1 L2 : Sto) (W : World) : Prop where
  r0 : Reads W a 2 encC xs
  r1 : Reads W a1 2 encC L1
  r2 : Reads W a2 2 encC L2
  bel : Below w0.heap.size w0 W
theorem Hold.below {w0 : World} {a a1 a2 : Option Addr} {xs L1 L2 : Sto} {W W' : World} (h : Hold w0 a a1 a2 xs L1 L2 W) (hb : Below W.heap.size W W') : Hold w0 a a1 a2 xs L1 L2 W' :=
  ⟨h.r0.below hb, h.r1.below hb, h.r2.below hb, h.bel.trans (hb.mono h.bel.size)⟩
theorem Hold.drew {w0 : World} {a a1 a2 : Option Addr} {xs L1 L2 : Sto} {W : World} (h : Hold w0 a a1 a2 xs L1 L2 W) : Hold w0 a a1 a2 xs L1 L2 W.drew :=
  h.below (by repeat (first | exact Below.refl _ _ | refine Below.drew ?_ | refine below_drewN ?_ _ | refine Below.allocC ?_ _ | refine Below.setCell ?_ (by first | (simp; done) | (simp; omega)) _ | refine Below.chain ?_ (by assumption)))
theorem any_size (xs : Sto) (key : ByteArray) {val : ByteArray} : (putV xs key val).any (keyP key) = (val.toList != (ByteArray.mk #[]).toList) := by
  rw [any_put]
  by_cases h : val.size = 0
  · rw [decide_eq_true h, size_zero h]; kernel_rfl
  · rw [decide_eq_false h]
    have : val.toList ≠ (ByteArray.mk #[]).toList := fun e => h (empty_iff.1 (e.trans (by kernel_rfl)))
    simp only [Bool.not_false]
    exact (bne_iff_ne.2 this).symm

set_option maxRecDepth 100000 in
set_option maxHeartbeats 4000000 in
theorem walk (a0 : Option Addr) (len0 cap0 : Nat) (z0 : List Int) (w : World) (w0 : IsRow .u8 w a0 len0 cap0 z0) :
    Calls Try.prog 9 #[.slice a0 len0 cap0] w fun e w' => e = .returned (.bool true) ∧ Below w.heap.size w w' := by
  have HZ := Lib.hid w0
  clear w0
  by_cases hbig : 1048576 < len0
  · have KB := Lib.hid (fun W => big_yes a0 len0 cap0 W hbig)
    go_enter Try.func9, Try.ntmps9
    go_wp2_with fail
    refine (KB.out _).mono ?_
    rintro e w1 ⟨rfl, rfl⟩
    go_wp2
    go_ret
    exact ⟨rfl, Below.refl _ _⟩
  · have KB := Lib.hid (fun W => big_no a0 len0 cap0 W (by omega))
    have KM := Lib.hid (drawPut_c a0 len0 cap0 z0 w HZ.out)
    go_enter Try.func9, Try.ntmps9
    go_wp2_with fail
    refine (KB.out _).mono ?_
    rintro e w1 ⟨rfl, rfl⟩
    go_wp2_with fail
    refine KM.out.mono ?_
    rintro e w1 ⟨v, xs, key, val, rfl, hkey, hval, ho1, hl, hin, hb1⟩
    obtain ⟨a, cap, hv, hr⟩ := reads_of_owns encC_len ho1
    subst hv
    clear ho1
    have HR1 := Lib.hid hr
    have HB1 := Lib.hid hb1
    have HOK := Lib.hid (show Ok xs from CellsIn.ok anyList_sizes hin)
    have SK := Lib.hid (show key.size ≤ maxLen from by have := anyList_sizes key hkey; unfold maxLen; omega)
    have SV := Lib.hid (show val.size ≤ maxLen from by unfold maxLen; omega)
    clear hr hb1 hin hkey
    obtain ⟨L1, h1⟩ : ∃ L, L = putKeyS xs key val := ⟨_, rfl⟩
    have H1 := Lib.hid h1
    have l1 : L1.length ≤ 10 := by have := putKeyS_len xs key val; rw [h1]; omega
    have K1 := Lib.hid (put_r a cap xs key val w1 (by omega) HR1.out HOK.out SK.out SV.out)
    have K2 := Lib.hid (fun W h => spec_r a cap xs key val W (by omega) h HOK.out SK.out SV.out)
    rw [← h1] at K1 K2
    clear h1
    have KE := Lib.hid (fun A C A2 C2 W h h2 => lawEqCell_c A A2 C C2 L1 L1 W (by unfold maxLen; omega) h h2)
    have KK1 := Lib.hid (fun W => implKeyOk_c key W SK.out)
    have KK2 := Lib.hid (fun W => specKeyOk_c key W SK.out)
    go_wp2_with fail
    refine K1.out.mono ?_
    rintro e w2 ⟨a1, c1, rfl, r2, hb2⟩
    have HL2 := Lib.hid r2
    have HR2 := Lib.hid (HR1.out.below hb2)
    have HB2 := Lib.hid (HB1.out.trans (hb2.mono HB1.out.size))
    clear r2 hb2 HR1 HB1 K1
    go_wp2_with fail
    refine (K2.out _ HR2.out).mono ?_
    rintro e w3 ⟨a3, c3, rfl, r3, hb3⟩
    have HL3 := Lib.hid (HL2.out.below hb3)
    have HR3 := Lib.hid (HR2.out.below hb3)
    have HB3 := Lib.hid (HB2.out.trans (hb3.mono HB2.out.size))
    have KE3 := Lib.hid (KE.out a1 c1 a3 c3 w3 HL3.out r3)
    rw [same_self] at KE3
    clear r3 hb3 HR2 HB2 HL2 K2 KE
    go_wp2_with fail
    refine KE3.out.mono ?_
    rintro e w4 ⟨rfl, hb4⟩
    have HL4 := Lib.hid (HL3.out.below hb4)
    have HR4 := Lib.hid (HR3.out.below hb4)
    have HB4 := Lib.hid (HB3.out.trans (hb4.mono HB3.out.size))
    have KD := Lib.hid (drawGet_c a0 len0 cap0 z0 w4 (HZ.out.below HB4.out))
    clear hb4 HR3 HB3 HL3 KE3
    go_wp2_with fail
    refine KD.out.mono ?_
    rintro e w5 ⟨vd, ds, other, rfl, hoth, hod, hdl, hdin, hb5⟩
    obtain ⟨ad, cd, hvd, rd⟩ := reads_of_owns encC_len hod
    subst hvd
    have HD5 := Lib.hid rd
    have HL5 := Lib.hid (HL4.out.below hb5)
    have HR5 := Lib.hid (HR4.out.below hb5)
    have HB5 := Lib.hid (HB4.out.trans (hb5.mono HB4.out.size))
    clear hb5 hod rd HR4 HB4 HL4 KD hoth hdin
    have KG1 := Lib.hid (fun W h => implGetKey_c ad cd ds other W (by unfold maxLen; omega) h)
    have KG2 := Lib.hid (fun W h => specGetKey_c ad cd ds other W (by unfold maxLen; omega) h)
    have KH1 := Lib.hid (fun W h => implHasKey_c ad cd ds other W (by unfold maxLen; omega) h)
    have KH2 := Lib.hid (fun W h => specHasKey_c ad cd ds other W (by unfold maxLen; omega) h)
    generalize getKeyS ds other = g at *
    generalize ds.any (keyP other) = hh at *
    obtain ⟨ko, hko⟩ : ∃ b, keyOkB key = b := ⟨_, rfl⟩
    have HKO := Lib.hid hko
    rw [hko] at KK1 KK2
    clear hko
    have q1 : (g.toList != g.toList) = false := by rw [bne_self_eq_false]
    have q2 : (hh != hh) = false := by cases hh <;> rfl
    have q3 : (ko != ko) = false := by cases ko <;> rfl
    go_wp2_with fail
    refine (KG1.out _ HD5.out).mono ?_
    rintro e w6 ⟨rfl, hb6⟩
    have HD6 := Lib.hid (HD5.out.below hb6)
    have HL6 := Lib.hid (HL5.out.below hb6)
    have HR6 := Lib.hid (HR5.out.below hb6)
    have HB6 := Lib.hid (HB5.out.trans (hb6.mono HB5.out.size))
    clear hb6 HD5 HL5 HR5 HB5 KG1
    go_wp2_with fail
    refine (KG2.out _ HD6.out).mono ?_
    rintro e w7 ⟨rfl, hb7⟩
    have HD7 := Lib.hid (HD6.out.below hb7)
    have HL7 := Lib.hid (HL6.out.below hb7)
    have HR7 := Lib.hid (HR6.out.below hb7)
    have HB7 := Lib.hid (HB6.out.trans (hb7.mono HB6.out.size))
    clear hb7 HD6 HL6 HR6 HB6 KG2
    go_wp2_with fail
    refine (KH1.out _ HD7.out).mono ?_
    rintro e w8 ⟨rfl, hb8⟩
    have HD8 := Lib.hid (HD7.out.below hb8)
    have HL8 := Lib.hid (HL7.out.below hb8)
    have HR8 := Lib.hid (HR7.out.below hb8)
    have HB8 := Lib.hid (HB7.out.trans (hb8.mono HB7.out.size))
    clear hb8 HD7 HL7 HR7 HB7 KH1
    go_wp2_with fail
    refine (KH2.out _ HD8.out).mono ?_
    rintro e w9 ⟨rfl, hb9⟩
    have HL9 := Lib.hid (HL8.out.below hb9)
    have HR9 := Lib.hid (HR8.out.below hb9)
    have HB9 := Lib.hid (HB8.out.trans (hb9.mono HB8.out.size))
    clear hb9 HD8 HL8 HR8 HB8 KH2
    go_wp2_with fail
    refine (KK1.out _).mono ?_
    rintro e w10 ⟨rfl, rfl⟩
    go_wp2_with fail
    refine (KK2.out _).mono ?_
    rintro e w10 ⟨rfl, rfl⟩
    go_wp2_with fail
    refine (KK2.out _).mono ?_
    rintro e w10 ⟨rfl, rfl⟩
    have KNEW := Lib.hid (fun W => implGetKey_c (some ⟨W.heap.size, 0, none⟩) 1 [(⟨#[97]⟩, ⟨#[98]⟩)] ⟨#[97]⟩ (W.alloc (.cells #[.string ⟨#[97]⟩, .string ⟨#[98]⟩] 39)) (by decide) (readsC_new W [(⟨#[97]⟩, ⟨#[98]⟩)] 39))
    rw [new_get] at KNEW
    clear KK1 KK2 HZ
    cases ko
    · have l3 : L1 = xs := by rw [H1.out]; exact putKey_bad (Or.inl HKO.out)
      have KEB := Lib.hid (lawEqCell_c a1 a c1 cap L1 xs w9 (by unfold maxLen; omega) HL9.out HR9.out)
      have l4 : same L1 xs = true := by rw [l3]; exact same_self _
      rw [l4] at KEB
      clear l4 l3 H1
      go_wp2_with fail
      refine KEB.out.mono ?_
      rintro e w11 ⟨rfl, hb11⟩
      have HB11 := Lib.hid (HB9.out.trans (hb11.mono HB9.out.size))
      clear hb11
      go_wp2_with fail
      refine (KNEW.out _).mono ?_
      rintro e wz ⟨rfl, hbz⟩
      have HBZ := Lib.hid (HB11.out.trans ((show Below w11.heap.size w11 wz from (by repeat (first | exact Below.refl _ _ | refine Below.drew ?_ | refine below_drewN ?_ _ | refine Below.allocC ?_ _ | refine Below.setCell ?_ (by first | (simp; done) | (simp; omega)) _ | refine Below.chain ?_ (by assumption)))).mono HB11.out.size))
      clear hbz
      go_wp2
      go_ret
      exact ⟨rfl, HBZ.out⟩
    · by_cases h60 : 60 < val.size
      · have p60 : (60 : Int) < (val.size : Int) := by omega
        have l3 : L1 = xs := by rw [H1.out]; exact putKey_bad (Or.inr h60)
        have KEB := Lib.hid (lawEqCell_c a1 a c1 cap L1 xs w9 (by unfold maxLen; omega) HL9.out HR9.out)
        have l4 : same L1 xs = true := by rw [l3]; exact same_self _
        rw [l4] at KEB
        clear l4 l3 H1
        go_wp2_with fail
        refine KEB.out.mono ?_
        rintro e w11 ⟨rfl, hb11⟩
        have HB11 := Lib.hid (HB9.out.trans (hb11.mono HB9.out.size))
        clear hb11
        go_wp2_with fail
        refine (KNEW.out _).mono ?_
        rintro e wz ⟨rfl, hbz⟩
        have HBZ := Lib.hid (HB11.out.trans ((show Below w11.heap.size w11 wz from (by repeat (first | exact Below.refl _ _ | refine Below.drew ?_ | refine below_drewN ?_ _ | refine Below.allocC ?_ _ | refine Below.setCell ?_ (by first | (simp; done) | (simp; omega)) _ | refine Below.chain ?_ (by assumption)))).mono HB11.out.size))
        clear hbz
        go_wp2
        go_ret
        exact ⟨rfl, HBZ.out⟩
      · have p60 : ¬ (60 : Int) < (val.size : Int) := by omega
        have lg : L1 = putV xs key val := by rw [H1.out]; exact putKey_good HKO.out (by omega)
        obtain ⟨Ly, hy⟩ : ∃ L, L = putKeyS xs key ⟨#[]⟩ := ⟨_, rfl⟩
        have ly : Ly = putV xs key ⟨#[]⟩ := by rw [hy]; exact putKey_good HKO.out (by decide)
        have ll : Ly.length ≤ 10 := by have := putKeyS_len xs key ⟨#[]⟩; rw [hy]; omega
        have KY := Lib.hid (put_r a cap xs key ⟨#[]⟩ w9 (by omega) HR9.out HOK.out SK.out (by decide))
        rw [← hy] at KY
        have FG := Lib.hid (show getKeyS L1 key = val from by rw [lg]; exact getKey_put_self xs key val)
        have FH := Lib.hid (show L1.any (keyP key) = (val.toList != (ByteArray.mk #[]).toList) from by rw [lg]; exact any_size xs key)
        have FY := Lib.hid (show Ly.any (keyP key) = false from by rw [ly, any_put]; rfl)
        have FE := Lib.hid (show ∀ k, k ≠ key → getKeyS L1 k = getKeyS xs k from fun k h => by rw [lg]; exact getKey_put xs h)
        obtain ⟨bv, hbv⟩ : ∃ bv, (val.toList != (ByteArray.mk #[]).toList) = bv := ⟨_, rfl⟩
        have hnv : ∀ t, binOp .neq t (.string val) (.string ⟨#[]⟩) = pure (.bool bv) := fun t => by
          rw [binOp_string_neq]; exact congrArg (fun b => pure (Value.bool b)) hbv
        rw [hbv] at FH
        clear hy ly lg H1 hbv
        go_wp2_with fail
        refine KY.out.mono ?_
        rintro e w11 ⟨ay, cy, rfl, ry, hb11⟩
        have HO := Lib.hid (show Hold w a a1 ay xs L1 Ly w11 from ⟨HR9.out.below hb11, HL9.out.below hb11, ry, HB9.out.trans (hb11.mono HB9.out.size)⟩)
        have KX := Lib.hid (fun W k (h : Hold w a a1 ay xs L1 Ly W) => implGetKey_c a1 c1 L1 k W (by unfold maxLen; omega) h.r1)
        have KS := Lib.hid (fun W k (h : Hold w a a1 ay xs L1 Ly W) => specGetKey_c a cap xs k W (by unfold maxLen; omega) h.r0)
        have KHX := Lib.hid (fun W (h : Hold w a a1 ay xs L1 Ly W) => implHasKey_c a1 c1 L1 key W (by unfold maxLen; omega) h.r1)
        have KHY := Lib.hid (fun W (h : Hold w a a1 ay xs L1 Ly W) => implHasKey_c ay cy Ly key W (by unfold maxLen; omega) h.r2)
        rw [FH.out] at KHX
        rw [FY.out] at KHY
        clear hb11 ry HR9 HL9 HB9 KY FH FY KNEW HKO
        go_wp2
        go_loopw [10] (fun i wr => ∃ k : Nat, k ≤ xs.length ∧ i = .int .i64 k ∧ Hold w a a1 ay xs L1 Ly wr) (fun i _ => xs.length - (intOf i).toNat)
        case atStart => exact ⟨0, Nat.zero_le _, rfl, HO.out⟩
        case round =>
          obtain ⟨k, hk, rfl, hh⟩ := hrel
          by_cases hlt : k < xs.length
          · have p1 : (0 : Int) ≤ (k : Int) := by omega
            have p2 : (k : Int) < (xs.length : Int) := by omega
            obtain ⟨x, hx⟩ := some_of_lt hlt
            obtain ⟨b, off, hab, c0, c1'⟩ := readFC hh.r0 (Below.refl _ _) hx
            cases hab
            obtain ⟨x0, x1⟩ := x
            dsimp only at c0 c1'
            clear hx
            by_cases hxk : x0 = key
            · have hne : ∀ t, binOp .neq t (.string x0) (.string key) = pure (.bool false) := fun t => by rw [binOp_string_neq, hxk, beq_self_eq_true]; rfl
              go_wp2_with fail
              go_quiet (fail)
              go_wp2
              go_roundw
              case rel => exact ⟨k + 1, by omega, by go_num, hh.below (by repeat (first | exact Below.refl _ _ | refine Below.drew ?_ | refine below_drewN ?_ _ | refine Below.allocC ?_ _ | refine Below.setCell ?_ (by first | (simp; done) | (simp; omega)) _ | refine Below.chain ?_ (by assumption)))⟩
              case measure => simp [intOf]; omega
            · have hne : ∀ t, binOp .neq t (.string x0) (.string key) = pure (.bool true) := fun t => by rw [binOp_string_neq, beq_toList_false hxk]; rfl
              have K1 := Lib.hid (fun W h => KX.out W x0 h)
              have K2 := Lib.hid (fun W h => KS.out W x0 h)
              rw [FE.out x0 hxk] at K1
              generalize getKeyS xs x0 = gx at *
              have qg : ∀ t, binOp .neq t (.string gx) (.string gx) = pure (.bool false) := fun t => by rw [binOp_string_neq, beq_self_eq_true]; rfl
              go_wp2_with fail
              go_region_held3 (fun w' => Hold w (some ⟨b, off, none⟩) a1 ay xs L1 Ly w' ∧ w'.cell? ⟨b, off + k * 2, none⟩ = some (.string x0)) ((go_split_ands; (repeat' apply And.intro) <;> first | assumption | exact keepS (by assumption) (by assumption) | exact Hold.below (by assumption) (by assumption) | exact Hold.drew (by assumption))) (first | (go_at_call 40; refine (K1.out _ (by go_split_ands; assumption)).mono ?_; rintro e w' ⟨rfl, hbk⟩) | (go_at_call 41; refine (K2.out _ (by go_split_ands; assumption)).mono ?_; rintro e w' ⟨rfl, hbk⟩))
              have HX : Hold w (some ⟨b, off, none⟩) a1 ay xs L1 Ly w' ∧ w'.cell? ⟨b, off + k * 2, none⟩ = some (.string x0) := by assumption
              have HX1 := Lib.hid HX.1
              clear HX hh c0 c1'
              go_wp2
              go_roundw
              case rel => exact ⟨k + 1, by omega, by go_num, HX1.out.below (by repeat (first | exact Below.refl _ _ | refine Below.drew ?_ | refine below_drewN ?_ _ | refine Below.allocC ?_ _ | refine Below.setCell ?_ (by first | (simp; done) | (simp; omega)) _ | refine Below.chain ?_ (by assumption)))⟩
              case measure => simp [intOf]; omega
          · obtain rfl : k = xs.length := by omega
            go_wp2_with fail
            refine (KX.out _ key hh).mono ?_
            rintro e w12 ⟨rfl, hb12⟩
            rw [FG.out]
            have HO2 := hh.below hb12
            clear hb12 hh
            have qv : (val.toList == val.toList) = true := beq_self_eq_true _
            go_wp2_with fail
            refine (KHX.out _ HO2).mono ?_
            rintro e w13 ⟨rfl, hb13⟩
            have HO3 := HO2.below hb13
            clear hb13 HO2
            cases bv
            · go_wp2_with fail
              refine (KHY.out _ HO3).mono ?_
              rintro e w14 ⟨rfl, hb14⟩
              have HB := Lib.hid (HO3.below hb14).bel
              clear hb14 HO3
              go_wp2
              go_ret
              exact ⟨rfl, HB.out⟩
            · go_wp2_with fail
              refine (KHY.out _ HO3).mono ?_
              rintro e w14 ⟨rfl, hb14⟩
              have HB := Lib.hid (HO3.below hb14).bel
              clear hb14 HO3
              go_wp2
              go_ret
              exact ⟨rfl, HB.out⟩

/- SIG
theorem walk (a0 : Option Addr) (len0 cap0 : Nat) (z0 : List Int) (w : World) (w0 : IsRow .u8 w a0 len0 cap0 z0) :
    Calls Try.prog 9 #[.slice a0 len0 cap0] w fun e w' => e = .returned (.bool true) ∧ Below w.heap.size w w' := by
-/
theorem own : ownKnob Try.prog.godebug = none := by kernel_rfl
theorem laidOut : laidOutB Try.prog = true := by kernel_rfl
set_option maxRecDepth 100000 in
theorem lifted (os : Os) (started : os.Started) (H : Type) (enc : TypeId × Value → H) :
    ReturnsInHanded {} Try.checked os 9 .any (Rows.fnPutGetSpec.pre6 enc Try.prog Try.f9 Rows.fnPutGetRow.domain false) (Rows.fnPutGetSpec.post enc Try.prog Try.f9 false true false false) := by
  refine returnsInHanded_of_change (C := Try.checked) own started (by kernel_rfl) Try.func9
    (ChangeSpec.witness6 (enc := enc) (C := Try.checked) false ⟨#[], #[.slice none 0 0], []⟩ 8 (by kernel_rfl) (by kernel_rfl) (by kernel_rfl) (by kernel_rfl)) ?_
  intro W base args ds gs before hval0 hW _ _
  have hval : ∀ (j : Nat) t v, Try.f9.params[j]? = some t → args[j]? = some v → Value.okWide Try.prog W .any base t v := hval0
  have hW' := hW
  obtain ⟨p, q, hA0, hV, rfl, hfz, hnd⟩ := hW
  have hA : DataW.TrodAll enc Try.prog W 0 (fun _ => true) true Try.f9.params.toList args.toList ds p := hA0
  rw [Try.params9] at hA hval
  obtain ⟨v0, vs0, d0, ds0, p0, q0, hargs, rfl, rfl, h0, g0⟩ := trodAll_cons hA
  obtain ⟨rfl, rfl, rfl⟩ := trodAll_nil g0
  obtain rfl : args = #[v0] := by cases args; simp_all
  obtain ⟨rfl, rfl⟩ := trodVars_none hV
  have k0 := h0
  have lt0 : ∀ x ∈ p0, x.block < W.heap.size := by obtain ⟨m, hm⟩ := k0; exact DataW.trod_lt m _ _ _ hm
  obtain ⟨a0, len0, cap0, rfl⟩ := okWide_slice Try.underlying28 (hval 0 28 v0 rfl rfl)
  obtain ⟨z0, w0⟩ := isRow_of Try.underlying28 Try.underlying5 (by kernel_rfl) h0
  clear hA0 hval0
  refine (walk a0 len0 cap0 z0 W w0).mono fun e W' ⟨he, bel⟩ => ?_
  subst he
  exact ⟨_, rfl, _, _, _, [], _, [], hW', trodAll_mk1 (shut_bool Try.underlying4 _), (trodAll_cons_mk (Below.trod laidOut (by kernel_rfl) (of_decide_eq_true (by kernel_rfl)) k0 bel lt0) trodAll_mk0), rfl, bel.frame _, fun h => by cases h⟩
theorem over : Rows.fnPutGetRow.holds Try.pinned (OpenSpec.ofChange Rows.fnPutGetSpec) :=
  OpenClaim.holds_of_wide 9 Try.f9 rfl rfl rfl rfl rfl rfl rfl ⟨rfl, rfl, rfl, rfl, rfl⟩ rfl rfl rfl rfl rfl (by kernel_rfl) Try.func9 (by kernel_rfl)
    (of_decide_eq_true (by kernel_rfl)) (by unfold Func.isWrapper; first | (rw [if_pos (by decide +kernel)]; kernel_rfl) | (rw [if_neg (by decide +kernel)]; exact ⟨rfl, rfl⟩))
    (fun os started H enc _ => lifted os started H enc)
theorem proved : Rows.FnPutGetSaid := over
#print axioms proved

end Go.Proofs.Ytillkpjhbakgfaa.fnPutGet
