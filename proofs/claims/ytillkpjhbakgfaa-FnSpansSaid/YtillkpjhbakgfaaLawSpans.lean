/- FnSpans: spans meet just when some key is in both, as far as the keys at hand tell; meeting goes both ways; the program's SpansMeet and SpanHas answer as the reference's. No conditions. -/
import Derived.Test.YtillkpjhbakgfaaRows
import Derived.Test.YtillkpjhbakgfaaDrawS
import Derived.Test.YtillkpjhbakgfaaBig
import Derived.Test.YtillkpjhbakgfaaMeet
import Derived.Test.YtillkpjhbakgfaaRead
namespace Go.Proofs.Ytillkpjhbakgfaa.fnSpans
open Go.ChangeShapes Go.WideShapes Go.ChangeAt Go.RowKit
open Go.ChangeMaps (open_string shut_string)
attribute [local go_sem ↓] Go.wp_at_zero Go.wp_at_succ
def keys7 : List ByteArray := [⟨#[97]⟩, ⟨#[98]⟩, ⟨#[110, 47, 120]⟩, ⟨#[110, 47, 121]⟩, ⟨#[110, 47, 121, 121]⟩, ⟨#[105, 47, 49, 47, 115]⟩, ⟨#[105, 47, 49, 50, 47, 115]⟩]
theorem all_meet : (spanList.all fun a => spanList.all fun b => keys7.all fun k => !(spanHasB a k && spanHasB b k) || meetB a b) = true := by kernel_rfl
theorem all_sym : (spanList.all fun a => spanList.all fun b => meetB b a == meetB a b) = true := by kernel_rfl
theorem span_sizes : (spanList.all fun a => decide (a.size ≤ 100)) = true := by kernel_rfl
theorem key7_sizes : (keys7.all fun a => decide (a.size ≤ 100)) = true := by kernel_rfl
theorem any_sizes : ∀ s ∈ anyList, s.size ≤ 100 := by
  intro s hs
  rcases List.mem_append.1 hs with h | h
  · simp only [oddList, List.mem_cons, List.not_mem_nil, or_false] at h
    rcases h with rfl | rfl | rfl | rfl | rfl | rfl
    · decide
    · decide
    · decide
    · decide
    · rw [longK_size]; omega
    · rw [longK_size]; omega
  · have : (keyList.all fun a => decide (a.size ≤ 100)) = true := by kernel_rfl
    exact of_decide_eq_true (List.all_eq_true.1 this s h)
theorem c1 : spanHasB ⟨#[110, 47, 42]⟩ ⟨#[110, 47, 120]⟩ = true := by kernel_rfl
theorem c2 : spanHasB ⟨#[110, 47, 120]⟩ ⟨#[110, 47, 120, 121]⟩ = false := by kernel_rfl
theorem c3 : meetB ⟨#[105, 47, 42]⟩ ⟨#[105, 47, 49, 47, 115]⟩ = true := by kernel_rfl

set_option maxRecDepth 100000 in
set_option maxHeartbeats 4000000 in
theorem walk (a0 : Option Addr) (len0 cap0 : Nat) (z0 : List Int) (w : World) (w0 : IsRow .u8 w a0 len0 cap0 z0) :
    Calls Try.prog 4 #[.slice a0 len0 cap0] w fun e w' => e = .returned (.bool true) ∧ Below w.heap.size w w' := by
  have HZ := Lib.hid w0
  clear w0
  by_cases hbig : 1048576 < len0
  · have KB := Lib.hid (fun W => big_yes a0 len0 cap0 W hbig)
    go_enter Try.func4, Try.ntmps4
    go_wp2_with fail
    refine (KB.out _).mono ?_
    rintro e w1 ⟨rfl, rfl⟩
    go_wp2
    go_ret
    exact ⟨rfl, Below.refl _ _⟩
  · have KB := Lib.hid (fun W => big_no a0 len0 cap0 W (by omega))
    have KM := Lib.hid (drawMeet_c a0 len0 cap0 z0 w HZ.out)
    go_enter Try.func4, Try.ntmps4
    go_wp2_with fail
    refine (KB.out _).mono ?_
    rintro e w1 ⟨rfl, rfl⟩
    go_wp2_with fail
    refine KM.out.mono ?_
    rintro e w1 ⟨a, b, rfl, ha, hb, hb1⟩
    have KH := Lib.hid (drawHas_c a0 len0 cap0 z0 w1 (HZ.out.below hb1))
    have sa : a.size ≤ 100 := of_decide_eq_true (List.all_eq_true.1 span_sizes a ha)
    have sb : b.size ≤ 100 := of_decide_eq_true (List.all_eq_true.1 span_sizes b hb)
    have HSym := Lib.hid (show meetB b a = meetB a b from by
      have := List.all_eq_true.1 (List.all_eq_true.1 all_sym a ha) b hb
      exact beq_iff_eq.1 this)
    have HIn := Lib.hid (show ∀ k ∈ keys7, spanHasB a k = true → spanHasB b k = true → meetB a b = true from fun k hk h1 h2 => by
      have := List.all_eq_true.1 (List.all_eq_true.1 (List.all_eq_true.1 all_meet a ha) b hb) k hk
      rw [h1, h2] at this
      simpa using this)
    have KI := Lib.hid (fun W => implMeet_c a b W (by unfold maxLen; omega) (by unfold maxLen; omega))
    have KI2 := Lib.hid (fun W => implMeet_c b a W (by unfold maxLen; omega) (by unfold maxLen; omega))
    rw [HSym.out] at KI2
    have KS := Lib.hid (fun W => specMeet_c a b W (by unfold maxLen; omega) (by unfold maxLen; omega))
    have KC1 := Lib.hid (fun W => implSpanHas_c ⟨#[110, 47, 42]⟩ ⟨#[110, 47, 120]⟩ W (by decide) (by decide))
    have KC2 := Lib.hid (fun W => implSpanHas_c ⟨#[110, 47, 120]⟩ ⟨#[110, 47, 120, 121]⟩ W (by decide) (by decide))
    have KC3 := Lib.hid (fun W => implMeet_c ⟨#[105, 47, 42]⟩ ⟨#[105, 47, 49, 47, 115]⟩ W (by decide) (by decide))
    rw [c1] at KC1
    rw [c2] at KC2
    rw [c3] at KC3
    have B1 := Lib.hid hb1
    clear ha hb hb1
    obtain ⟨m, hm⟩ : ∃ m, meetB a b = m := ⟨_, rfl⟩
    rw [hm] at KI KI2 KS HIn
    clear hm
    go_wp2_with fail
    refine (KI.out _).mono ?_
    rintro e w2 ⟨rfl, rfl⟩
    go_wp2_with fail
    refine KH.out.mono ?_
    rintro e w2 ⟨sp, ky, rfl, hsp, hky, hb2⟩
    have ss : sp.size ≤ 100 := of_decide_eq_true (List.all_eq_true.1 span_sizes sp hsp)
    have sk := any_sizes ky hky
    have KH1 := Lib.hid (fun W => implSpanHas_c sp ky W (by unfold maxLen; omega) (by unfold maxLen; omega))
    have KH2 := Lib.hid (fun W => specSpanHas_c sp ky W (by unfold maxLen; omega) (by unfold maxLen; omega))
    have B2 := Lib.hid (B1.out.trans (hb2.mono B1.out.size))
    clear hsp hky hb2
    go_wp2_with fail
    refine (KS.out _).mono ?_
    rintro e w3 ⟨rfl, rfl⟩
    generalize spanHasB sp ky = t at *
    go_wp2_with fail
    refine (KH1.out _).mono ?_
    rintro e w3 ⟨rfl, rfl⟩
    go_wp2_with fail
    refine (KH2.out _).mono ?_
    rintro e w3 ⟨rfl, rfl⟩
    have HK := Lib.hid (show Reads (w2.alloc (.cells #[.string ⟨#[97]⟩, .string ⟨#[98]⟩, .string ⟨#[110, 47, 120]⟩, .string ⟨#[110, 47, 121]⟩, .string ⟨#[110, 47, 121, 121]⟩, .string ⟨#[105, 47, 49, 47, 115]⟩, .string ⟨#[105, 47, 49, 50, 47, 115]⟩] 9)) (some ⟨w2.heap.size, 0, none⟩) 1 encS keys7 from reads_new w2 keys7 9)
    have B3 := Lib.hid (show Below w.heap.size w (w2.alloc (.cells #[.string ⟨#[97]⟩, .string ⟨#[98]⟩, .string ⟨#[110, 47, 120]⟩, .string ⟨#[110, 47, 121]⟩, .string ⟨#[110, 47, 121, 121]⟩, .string ⟨#[105, 47, 49, 47, 115]⟩, .string ⟨#[105, 47, 49, 50, 47, 115]⟩] 9)) from B2.out.alloc B2.out.size _)
    clear B2
    go_wp2
    generalize (w2.alloc (.cells #[.string ⟨#[97]⟩, .string ⟨#[98]⟩, .string ⟨#[110, 47, 120]⟩, .string ⟨#[110, 47, 121]⟩, .string ⟨#[110, 47, 121, 121]⟩, .string ⟨#[105, 47, 49, 47, 115]⟩, .string ⟨#[105, 47, 49, 50, 47, 115]⟩] 9)) = W at *
    generalize w2.heap.size = g at *
    go_loop [9] (fun i => ∃ k : Nat, k ≤ 7 ∧ i = .int .i64 k) (fun i => 7 - (intOf i).toNat)
    case atStart => exact ⟨0, Nat.zero_le _, rfl⟩
    case round =>
      obtain ⟨k, hk, rfl⟩ := hrel
      have q0 : (0 : Int) ≤ (k : Int) := by omega
      by_cases hlt : k < 7
      · have q1 : (k : Int) < 7 := by omega
        obtain ⟨x, hx⟩ := some_of_lt (xs := keys7) (k := k) hlt
        have hxm := List.mem_of_getElem? hx
        have sx : x.size ≤ 100 := of_decide_eq_true (List.all_eq_true.1 key7_sizes x hxm)
        obtain ⟨bb, off, hab, c0⟩ := readFS HK.out (Below.refl _ _) hx
        cases hab
        have HX := Lib.hid (HIn.out x hxm)
        have KA := Lib.hid (fun W => implSpanHas_c a x W (by unfold maxLen; omega) (by unfold maxLen; omega))
        have KBB := Lib.hid (fun W => implSpanHas_c b x W (by unfold maxLen; omega) (by unfold maxLen; omega))
        rw [Nat.zero_add] at c0
        clear hx hxm
        cases h1 : spanHasB a x with
        | false =>
          rw [h1] at KA
          clear h1
          go_wp2_with fail
          refine (KA.out _).mono ?_
          rintro e w3 ⟨rfl, rfl⟩
          go_wp2
          go_round
          case rel => exact ⟨k + 1, by omega, by go_num⟩
          case measure => simp [intOf]; omega
        | true =>
          rw [h1] at KA
          cases h2 : spanHasB b x with
          | false =>
            rw [h2] at KBB
            clear h1 h2
            go_wp2_with fail
            refine (KA.out _).mono ?_
            rintro e w3 ⟨rfl, rfl⟩
            go_wp2_with fail
            refine (KBB.out _).mono ?_
            rintro e w3 ⟨rfl, rfl⟩
            go_wp2
            go_round
            case rel => exact ⟨k + 1, by omega, by go_num⟩
            case measure => simp [intOf]; omega
          | true =>
            rw [h2] at KBB
            have hmt := HX.out h1 h2
            subst hmt
            clear h1 h2
            go_wp2_with fail
            refine (KA.out _).mono ?_
            rintro e w3 ⟨rfl, rfl⟩
            go_wp2_with fail
            refine (KBB.out _).mono ?_
            rintro e w3 ⟨rfl, rfl⟩
            go_wp2
            go_round
            case rel => exact ⟨k + 1, by omega, by go_num⟩
            case measure => simp [intOf]; omega
      · have q1 : ¬ (k : Int) < 7 := by omega
        go_wp2_with fail
        refine (KI2.out _).mono ?_
        rintro e w3 ⟨rfl, rfl⟩
        go_wp2_with fail
        refine (KC1.out _).mono ?_
        rintro e w3 ⟨rfl, rfl⟩
        go_wp2_with fail
        refine (KC2.out _).mono ?_
        rintro e w3 ⟨rfl, rfl⟩
        go_wp2_with fail
        refine (KC3.out _).mono ?_
        rintro e w3 ⟨rfl, rfl⟩
        go_wp2
        go_ret
        exact ⟨rfl, B3.out⟩

/- SIG
theorem walk (a0 : Option Addr) (len0 cap0 : Nat) (z0 : List Int) (w : World) (w0 : IsRow .u8 w a0 len0 cap0 z0) :
    Calls Try.prog 4 #[.slice a0 len0 cap0] w fun e w' => e = .returned (.bool true) ∧ Below w.heap.size w w' := by
-/
theorem own : ownKnob Try.prog.godebug = none := by kernel_rfl
theorem laidOut : laidOutB Try.prog = true := by kernel_rfl
set_option maxRecDepth 100000 in
theorem lifted (os : Os) (started : os.Started) (H : Type) (enc : TypeId × Value → H) :
    ReturnsInHanded {} Try.checked os 4 .any (Rows.fnSpansSpec.pre6 enc Try.prog Try.f4 Rows.fnSpansRow.domain false) (Rows.fnSpansSpec.post enc Try.prog Try.f4 false true false false) := by
  refine returnsInHanded_of_change (C := Try.checked) own started (by kernel_rfl) Try.func4
    (ChangeSpec.witness6 (enc := enc) (C := Try.checked) false ⟨#[], #[.slice none 0 0], []⟩ 8 (by kernel_rfl) (by kernel_rfl) (by kernel_rfl) (by kernel_rfl)) ?_
  intro W base args ds gs before hval0 hW _ _
  have hval : ∀ (j : Nat) t v, Try.f4.params[j]? = some t → args[j]? = some v → Value.okWide Try.prog W .any base t v := hval0
  have hW' := hW
  obtain ⟨p, q, hA0, hV, rfl, hfz, hnd⟩ := hW
  have hA : DataW.TrodAll enc Try.prog W 0 (fun _ => true) true Try.f4.params.toList args.toList ds p := hA0
  rw [Try.params4] at hA hval
  obtain ⟨v0, vs0, d0, ds0, p0, q0, hargs, rfl, rfl, h0, g0⟩ := trodAll_cons hA
  obtain ⟨rfl, rfl, rfl⟩ := trodAll_nil g0
  obtain rfl : args = #[v0] := by cases args; simp_all
  obtain ⟨rfl, rfl⟩ := trodVars_none hV
  have k0 := h0
  have lt0 : ∀ x ∈ p0, x.block < W.heap.size := by obtain ⟨m, hm⟩ := k0; exact DataW.trod_lt m _ _ _ hm
  obtain ⟨a0, len0, cap0, rfl⟩ := okWide_slice Try.underlying28 (hval 0 28 v0 rfl rfl)
  obtain ⟨z0, w0⟩ := isRow_of Try.underlying28 Try.underlying5 (by kernel_rfl) h0
  clear hA0 hval0
  refine (walk a0 len0 cap0 z0 W w0).mono fun e W' ⟨he, bel⟩ => ?_
  subst he
  exact ⟨_, rfl, _, _, _, [], _, [], hW', trodAll_mk1 (shut_bool Try.underlying4 _), (trodAll_cons_mk (Below.trod laidOut (by kernel_rfl) (of_decide_eq_true (by kernel_rfl)) k0 bel lt0) trodAll_mk0), rfl, bel.frame _, fun h => by cases h⟩
theorem over : Rows.fnSpansRow.holds Try.pinned (OpenSpec.ofChange Rows.fnSpansSpec) :=
  OpenClaim.holds_of_wide 4 Try.f4 rfl rfl rfl rfl rfl rfl rfl ⟨rfl, rfl, rfl, rfl, rfl⟩ rfl rfl rfl rfl rfl (by kernel_rfl) Try.func4 (by kernel_rfl)
    (of_decide_eq_true (by kernel_rfl)) (by unfold Func.isWrapper; first | (rw [if_pos (by decide +kernel)]; kernel_rfl) | (rw [if_neg (by decide +kernel)]; exact ⟨rfl, rfl⟩))
    (fun os started H enc _ => lifted os started H enc)
theorem proved : Rows.FnSpansSaid := over
#print axioms proved

end Go.Proofs.Ytillkpjhbakgfaa.fnSpans
