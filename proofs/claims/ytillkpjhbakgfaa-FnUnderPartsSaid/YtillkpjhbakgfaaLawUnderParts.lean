/- FnUnderParts: the keys under a beginning are those under each way in which it goes on. No conditions. -/
import Derived.Test.YtillkpjhbakgfaaRows
import Derived.Test.YtillkpjhbakgfaaDrawC
import Derived.Test.YtillkpjhbakgfaaBig
import Derived.Test.YtillkpjhbakgfaaKeysUnder
import Derived.Test.YtillkpjhbakgfaaStoreOk
namespace Go.Proofs.Ytillkpjhbakgfaa.fnUnderParts
open Go.ChangeShapes Go.WideShapes Go.ChangeAt Go.RowKit
attribute [local go_sem ↓] Go.wp_at_zero Go.wp_at_succ
def pre : ByteArray := ⟨#[110, 47]⟩
def pn (k : Nat) : ByteArray := ⟨#[110, 47]⟩ ++ ⟨#[UInt8.ofNat (33 + k)]⟩
/-- The keys under the first ways, counted. -/
def cntUp (xs : List (ByteArray × ByteArray)) : Nat → Nat
  | 0 => 0
  | k + 1 => cntUp xs k + (keysU xs (pn k)).length
def cnt1 (s : ByteArray) : Nat → Nat
  | 0 => 0
  | k + 1 => cnt1 s k + (if beginsB s (pn k) then 1 else 0)
theorem all_cnt : (anyList.all fun s => cnt1 s 94 == (if beginsB s pre then 1 else 0)) = true := by kernel_rfl
theorem one_new : (keysU [(⟨#[110, 47, 97]⟩, ⟨#[49]⟩)] pre).length = 1 := by kernel_rfl
theorem keysU_cons (x : ByteArray × ByteArray) (xs : List (ByteArray × ByteArray)) (p : ByteArray) : (keysU (x :: xs) p).length = (if beginsB x.1 p then 1 else 0) + (keysU xs p).length := by
  unfold keysU
  rw [List.filter_cons]
  split <;> simp <;> omega
theorem cntUp_nil (k : Nat) : cntUp [] k = 0 := by
  induction k with
  | zero => rfl
  | succ k ih => unfold cntUp; rw [ih]; rfl
theorem cntUp_cons (x : ByteArray × ByteArray) (xs : List (ByteArray × ByteArray)) (k : Nat) : cntUp (x :: xs) k = cnt1 x.1 k + cntUp xs k := by
  induction k with
  | zero => rfl
  | succ k ih => unfold cntUp cnt1; rw [ih, keysU_cons]; omega
theorem cnt_end (xs : List (ByteArray × ByteArray)) (h : ∀ x ∈ xs, x.1 ∈ anyList) : cntUp xs 94 = (keysU xs pre).length := by
  induction xs with
  | nil => rw [cntUp_nil]; rfl
  | cons x xs ih =>
    have h1 := beq_iff_eq.1 (List.all_eq_true.1 all_cnt x.1 (h x List.mem_cons_self))
    rw [cntUp_cons, keysU_cons, ih (fun y hy => h y (List.mem_cons_of_mem _ hy)), h1]
theorem cntUp_le (xs : List (ByteArray × ByteArray)) (k : Nat) : cntUp xs k ≤ k * xs.length := by
  induction k with
  | zero => exact Nat.zero_le _
  | succ k ih => unfold cntUp; have := keysU_len xs (pn k); rw [Nat.succ_mul]; omega
theorem keysU_all (xs : List (ByteArray × ByteArray)) : (keysU xs ⟨#[]⟩).length = xs.length := by
  unfold keysU
  rw [List.length_map, List.filter_eq_self.2]
  intro x _
  show beginsB x.1 ⟨#[]⟩ = true
  have : x.1.extract 0 0 = ⟨#[]⟩ := by apply ByteArray.ext; simp
  unfold beginsB
  rw [show (⟨#[]⟩ : ByteArray).size = 0 from rfl, this]
  simp
theorem readsC_new (w : World) (xs : List (ByteArray × ByteArray)) (T : TypeId) : Reads (w.alloc (.cells (xs.flatMap encC).toArray T)) (some ⟨w.heap.size, 0, none⟩) 2 encC xs :=
  .inr ⟨w.heap.size, 0, rfl, by simp, fun i x hx j v hv => by
    have hj : j < 2 := (List.getElem?_eq_some_iff.1 hv).1
    have h := getElem_flatMap encC_len xs i j x hx hj
    rw [hv] at h
    have := (Box.new w (xs.flatMap encC) T).cell (i * 2 + j) v h
    simpa using this⟩
theorem conv1 (wr : World) (ch : UInt8) (x : Int) (hx : (ch.toNat : Int) = x) : (convert 28 9 (.slice (some ⟨wr.heap.size, 0, none⟩) 1 1)).run Try.prog (wr.alloc (.cells #[.int .u8 x] 5)) = .ok (.string ⟨#[ch]⟩) (wr.alloc (.cells #[.int .u8 x] 5)) := by
  have := run_convert_bytes_back (P := Try.prog) (wr.alloc (.cells #[.int .u8 x] 5)) 28 9 5 ⟨wr.heap.size, 0, none⟩ 1 [ch] Try.underlying28 Try.underlying5 Try.underlying9 (by
    intro j hj
    have hj1 : j < 1 := hj
    obtain rfl : j = 0 := by omega
    show _ = some (Value.int .u8 (ch.toNat : Int))
    rw [hx, add_none]
    exact (Box.new wr [.int .u8 x] 5).cell 0 _ rfl)
  simpa using this

set_option maxRecDepth 100000 in
set_option maxHeartbeats 4000000 in
theorem walk (a0 : Option Addr) (len0 cap0 : Nat) (z0 : List Int) (w : World) (w0 : IsRow .u8 w a0 len0 cap0 z0) :
    Calls Try.prog 5 #[.slice a0 len0 cap0] w fun e w' => e = .returned (.bool true) ∧ Below w.heap.size w w' := by
  have HZ := Lib.hid w0
  clear w0
  by_cases hbig : 1048576 < len0
  · have KB := Lib.hid (fun W => big_yes a0 len0 cap0 W hbig)
    go_enter Try.func5, Try.ntmps5
    go_wp2_with fail
    refine (KB.out _).mono ?_
    rintro e w1 ⟨rfl, rfl⟩
    go_wp2
    go_ret
    exact ⟨rfl, Below.refl _ _⟩
  · have KB := Lib.hid (fun W => big_no a0 len0 cap0 W (by omega))
    have KM := Lib.hid (drawUnder_c a0 len0 cap0 z0 w HZ.out)
    go_enter Try.func5, Try.ntmps5
    go_wp2_with fail
    refine (KB.out _).mono ?_
    rintro e w1 ⟨rfl, rfl⟩
    go_wp2_with fail
    refine KM.out.mono ?_
    rintro e w1 ⟨v, xs, p, rfl, hp, ho1, hl, hin, hb1⟩
    obtain ⟨a, cap, hv, hr⟩ := reads_of_owns encC_len ho1
    subst hv
    clear ho1 hp
    have HR := Lib.hid hr
    have HB := Lib.hid hb1
    have HIn := Lib.hid hin
    have HOK := Lib.hid (CellsIn.ok anyList_sizes hin)
    have KU := Lib.hid (fun q W (h : Reads W a 2 encC xs) (hq : q.size ≤ maxLen) => implKeysUnder_c a cap xs q W (by omega) h HOK.out hq)
    have KS := Lib.hid (fun W (h : Reads W a 2 encC xs) => specStoreOk_c a cap xs W (by unfold maxLen; omega) h HOK.out)
    clear hr hb1 hin
    go_wp2
    go_loopw [5, 6] (fun v i wr => ∃ k : Nat, k ≤ 94 ∧ i = .int .i64 (33 + (k : Int)) ∧ v = .int .i64 (cntUp xs k : Nat) ∧ Hid (Below w.heap.size w wr) ∧ Hid (Reads wr a 2 encC xs)) (fun _ i _ => 127 - (intOf i).toNat)
    case atStart => exact ⟨0, Nat.zero_le _, rfl, rfl, HB, HR⟩
    case round =>
      obtain ⟨k, hk, rfl, rfl, hB, hR⟩ := hrel
      have hcnt := cntUp_le xs k
      have hcnt2 : cntUp xs k ≤ 94 * 9 := Nat.le_trans hcnt (Nat.mul_le_mul hk hl)
      clear hcnt
      by_cases hlt : k < 94
      · have q1 : 33 + (k : Int) ≤ 126 := by omega
        have q2 : (0 : Int) ≤ 33 + (k : Int) := by omega
        obtain ⟨ch, hch⟩ : ∃ ch, UInt8.ofNat (33 + k) = ch := ⟨_, rfl⟩
        have hcv := conv1 wr ch (33 + (k : Int)) (by rw [← hch, UInt8.toNat_ofNat', Nat.mod_eq_of_lt (by omega)]; omega)
        have HPN := Lib.hid (show pn k = ⟨#[110, 47]⟩ ++ ⟨#[ch]⟩ from by unfold pn; rw [hch])
        clear hch
        have KU1 := Lib.hid (KU.out (⟨#[110, 47]⟩ ++ ⟨#[ch]⟩) (wr.alloc (.cells #[.int .u8 (33 + (k : Int))] 5)) (hR.out.below (show Below wr.heap.size wr _ from (by repeat (first | exact Below.refl _ _ | refine Below.drew ?_ | refine below_drewN ?_ _ | refine Below.allocC ?_ _ | refine Below.setCell ?_ (by first | (simp; done) | (simp; omega)) _ | refine Below.chain ?_ (by assumption))))) (by rw [ByteArray.size_append]; show 2 + 1 ≤ maxLen; decide))
        have hsz : (⟨#[110, 47]⟩ ++ ⟨#[ch]⟩ : ByteArray).size = 3 := by rw [ByteArray.size_append]; rfl
        have q4 : (⟨#[ch]⟩ : ByteArray).size = 1 := rfl
        go_wp2_with fail
        refine KU1.out.mono ?_
        rintro e w2 ⟨v2, rfl, o2, hb2⟩
        obtain ⟨a2, cap2, hv2, _⟩ := reads_of_owns encS_len o2
        subst hv2
        have HC := Lib.hid (show cntUp xs (k + 1) = cntUp xs k + (keysU xs (⟨#[110, 47]⟩ ++ ⟨#[ch]⟩)).length from by rw [← HPN.out]; rfl)
        have hlen := keysU_len xs (⟨#[110, 47]⟩ ++ ⟨#[ch]⟩)
        generalize (keysU xs (⟨#[110, 47]⟩ ++ ⟨#[ch]⟩)).length = n at *
        generalize (⟨#[110, 47]⟩ ++ ⟨#[ch]⟩ : ByteArray) = str at *
        have HB2 := Lib.hid (show Below wr.heap.size wr w2 from (by repeat (first | exact Below.refl _ _ | refine Below.drew ?_ | refine below_drewN ?_ _ | refine Below.allocC ?_ _ | refine Below.setCell ?_ (by first | (simp; done) | (simp; omega)) _ | refine Below.chain ?_ (by assumption))))
        clear o2 hcv hb2
        go_wp2
        go_roundw
        case rel => exact ⟨k + 1, by omega, by go_num, by rw [HC.out]; go_num, Lib.hid (hB.out.trans (HB2.out.mono hB.out.size)), Lib.hid (hR.out.below HB2.out)⟩
        case measure => simp [intOf]; omega
      · have q1 : ¬ 33 + (k : Int) ≤ 126 := by omega
        obtain rfl : k = 94 := by omega
        have HE := Lib.hid (cnt_end xs (fun x hx => (HIn.out x hx).1))
        have KU1 := Lib.hid (KU.out pre wr hR.out (by decide))
        go_wp2_with fail
        refine KU1.out.mono ?_
        rintro e w2 ⟨v2, rfl, o2, hb2⟩
        obtain ⟨a2, cap2, hv2, _⟩ := reads_of_owns encS_len o2
        subst hv2
        have hR2 := Lib.hid (hR.out.below hb2)
        have hB2 := Lib.hid (hB.out.trans (hb2.mono hB.out.size))
        clear o2 hb2
        rw [HE.out] at *
        generalize (keysU xs pre).length = n at *
        have KS1 := Lib.hid (KS.out w2 hR2.out)
        have KU2 := Lib.hid (fun W (h : Reads W a 2 encC xs) => KU.out ⟨#[]⟩ W h (by decide))
        have HALL := Lib.hid (keysU_all xs)
        have HNEW := Lib.hid (fun W => implKeysUnder_c (some ⟨W.heap.size, 0, none⟩) 1 [(⟨#[110, 47, 97]⟩, ⟨#[49]⟩)] pre (W.alloc (.cells #[.string ⟨#[110, 47, 97]⟩, .string ⟨#[49]⟩] 39)) (by decide) (readsC_new W [(⟨#[110, 47, 97]⟩, ⟨#[49]⟩)] 39) (fun x hx => by have := List.mem_singleton.1 hx; subst this; decide) (by decide))
        generalize storeOkB xs = ok at *
        have HF := Lib.hid (show (((n : Nat) : Int) == ((n : Nat) : Int)) = true from beq_self_eq_true _)
        go_wp2_with fail
        refine KS1.out.mono ?_
        rintro e w3 ⟨rfl, hb3⟩
        have hR3 := Lib.hid (hR2.out.below hb3)
        have hB3 := Lib.hid (hB2.out.trans (hb3.mono hB2.out.size))
        clear hb3
        have KU3 := Lib.hid (KU2.out w3 hR3.out)
        cases ok
        all_goals
          go_wp2_with fail
          refine KU3.out.mono ?_
          rintro e w4 ⟨v4, rfl, o4, hb4⟩
          obtain ⟨a4, cap4, hv4, _⟩ := reads_of_owns encS_len o4
          subst hv4
          rw [HALL.out] at *
          have hB4 := Lib.hid (hB3.out.trans (hb4.mono hB3.out.size))
          clear o4 hb4
          have HN1 := Lib.hid (HNEW.out w4)
          go_wp2_with fail
          refine HN1.out.mono ?_
          rintro e w5 ⟨v5, rfl, o5, hb5⟩
          obtain ⟨a5, cap5, hv5, _⟩ := reads_of_owns encS_len o5
          subst hv5
          have hB5 := Lib.hid (hB4.out.trans ((show Below w4.heap.size w4 w5 from (by repeat (first | exact Below.refl _ _ | refine Below.drew ?_ | refine below_drewN ?_ _ | refine Below.allocC ?_ _ | refine Below.setCell ?_ (by first | (simp; done) | (simp; omega)) _ | refine Below.chain ?_ (by assumption)))).mono hB4.out.size))
          clear o5 hb5
          rw [one_new] at *
          go_wp2
          go_ret
          exact ⟨rfl, hB5.out⟩

/- SIG
theorem walk (a0 : Option Addr) (len0 cap0 : Nat) (z0 : List Int) (w : World) (w0 : IsRow .u8 w a0 len0 cap0 z0) :
    Calls Try.prog 5 #[.slice a0 len0 cap0] w fun e w' => e = .returned (.bool true) ∧ Below w.heap.size w w' := by
-/
theorem own : ownKnob Try.prog.godebug = none := by kernel_rfl
theorem laidOut : laidOutB Try.prog = true := by kernel_rfl
set_option maxRecDepth 100000 in
theorem lifted (os : Os) (started : os.Started) (H : Type) (enc : TypeId × Value → H) :
    ReturnsInHanded {} Try.checked os 5 .any (Rows.fnUnderPartsSpec.pre6 enc Try.prog Try.f5 Rows.fnUnderPartsRow.domain false) (Rows.fnUnderPartsSpec.post enc Try.prog Try.f5 false true false false) := by
  refine returnsInHanded_of_change (C := Try.checked) own started (by kernel_rfl) Try.func5
    (ChangeSpec.witness6 (enc := enc) (C := Try.checked) false ⟨#[], #[.slice none 0 0], []⟩ 8 (by kernel_rfl) (by kernel_rfl) (by kernel_rfl) (by kernel_rfl)) ?_
  intro W base args ds gs before hval0 hW _ _
  have hval : ∀ (j : Nat) t v, Try.f5.params[j]? = some t → args[j]? = some v → Value.okWide Try.prog W .any base t v := hval0
  have hW' := hW
  obtain ⟨p, q, hA0, hV, rfl, hfz, hnd⟩ := hW
  have hA : DataW.TrodAll enc Try.prog W 0 (fun _ => true) true Try.f5.params.toList args.toList ds p := hA0
  rw [Try.params5] at hA hval
  obtain ⟨v0, vs0, d0, ds0, p0, q0, hargs, rfl, rfl, h0, g0⟩ := trodAll_cons hA
  obtain ⟨rfl, rfl, rfl⟩ := trodAll_nil g0
  obtain rfl : args = #[v0] := by cases args; simp_all
  obtain ⟨rfl, rfl⟩ := trodVars_none hV
  have k0 := h0
  have lt0 : ∀ x ∈ p0, x.block < W.heap.size := by obtain ⟨m, hm⟩ := k0; exact DataW.trod_lt m _ _ _ hm
  obtain ⟨a0, len0, cap0, rfl⟩ := okWide_slice Try.underlying28 (hval 0 28 v0 rfl rfl)
  obtain ⟨z0, w0⟩ := isRow_of Try.underlying28 Try.underlying5 (by kernel_rfl) h0
  clear hA0 hval0
  refine (walk a0 len0 cap0 z0 W w0).mono fun e W' ⟨he, bel⟩ => ?_
  subst he
  exact ⟨_, rfl, _, _, _, [], _, [], hW', trodAll_mk1 (shut_bool Try.underlying4 _), (trodAll_cons_mk (Below.trod laidOut (by kernel_rfl) (of_decide_eq_true (by kernel_rfl)) k0 bel lt0) trodAll_mk0), rfl, bel.frame _, fun h => by cases h⟩
theorem over : Rows.fnUnderPartsRow.holds Try.pinned (OpenSpec.ofChange Rows.fnUnderPartsSpec) :=
  OpenClaim.holds_of_wide 5 Try.f5 rfl rfl rfl rfl rfl rfl rfl ⟨rfl, rfl, rfl, rfl, rfl⟩ rfl rfl rfl rfl rfl (by kernel_rfl) Try.func5 (by kernel_rfl)
    (of_decide_eq_true (by kernel_rfl)) (by unfold Func.isWrapper; first | (rw [if_pos (by decide +kernel)]; kernel_rfl) | (rw [if_neg (by decide +kernel)]; exact ⟨rfl, rfl⟩))
    (fun os started H enc _ => lifted os started H enc)
theorem proved : Rows.FnUnderPartsSaid := over
#print axioms proved

end Go.Proofs.Ytillkpjhbakgfaa.fnUnderParts
