/- FnDiffs: two stores are not the same just where their keys are told; laid over by these they are. No conditions. -/
import Derived.Test.YtedbmmoddemngaaRows
import Derived.Test.YtedbmmoddemngaaTwo
import Derived.Test.YtedbmmoddemngaaDiffKeys
import Derived.Test.YtedbmmoddemngaaDiffFacts
import Derived.Test.YtedbmmoddemngaaBig
import Derived.Test.YtedbmmoddemngaaEqCCell
import Derived.Test.YtedbmmoddemngaaEqCString
import Derived.Test.YtedbmmoddemngaaImplSameStore
namespace Go.Proofs.Ytedbmmoddemngaa.fnDiffs
open Go.ChangeShapes Go.WideShapes Go.ChangeAt Go.RowKit
attribute [local go_sem ↓] Go.wp_at_zero Go.wp_at_succ
/-- Keys and values are no longer than a Go string may be. -/
def Ok (L : Sto) : Prop := ∀ x ∈ L, x.1.size ≤ maxLen ∧ x.2.size ≤ maxLen
theorem ok_put {L : Sto} (h : Ok L) {k v : ByteArray} (hk : k.size ≤ maxLen) (hv : v.size ≤ maxLen) : Ok (putKeyS L k v) := fun x hx => by
  rcases putKeyS_mem hx with rfl | hx
  · exact ⟨hk, hv⟩
  · exact h x hx
theorem ok_apply {ys : Sto} (hy : Ok ys) : ∀ (L : List ByteArray) (xs : Sto), Ok xs → (∀ l ∈ L, l.size ≤ maxLen) → Ok (applyL ys xs L)
  | [], _, h, _ => h
  | l :: L, xs, h, hl => ok_apply hy L (putKeyS xs l (getKeyS ys l)) (ok_put h (hl l (List.mem_cons_self ..)) (get_size maxLen l ys (fun z hz => (hy z hz).2))) (fun z hz => hl z (List.mem_cons_of_mem _ hz))
theorem put_r (a : Option Addr) (cap : Nat) (L : Sto) (k v : ByteArray) (w : World) (hl : L.length ≤ 100) (hr : Reads w a 2 encC L) (ho : Ok L) (hk : k.size ≤ maxLen) (hv : v.size ≤ maxLen) :
    Calls Try.prog 20 #[.slice a L.length cap, .string k, .string v] w fun e w' => ∃ a' cap', e = .returned (.slice a' (putKeyS L k v).length cap') ∧ Reads w' a' 2 encC (putKeyS L k v) ∧ Below w.heap.size w w' :=
  (implPutKey_c a cap L k v w (by omega) hr ho hk hv).mono fun _ _ ⟨_, h1, h2, h3⟩ => by
    obtain ⟨a', cap', rfl, hr'⟩ := reads_of_owns encC_len h2
    exact ⟨a', cap', h1, hr', h3⟩
theorem diff_r (a a2 : Option Addr) (cap cap2 : Nat) (xs ys : Sto) (w : World) (hlen : xs.length ≤ 100) (hlen2 : ys.length ≤ 100) (hr : Reads w a 2 encC xs) (hr2 : Reads w a2 2 encC ys) (ho : Ok xs) (ho2 : Ok ys) :
    Calls Try.prog 8 #[.slice a xs.length cap, .slice a2 ys.length cap2] w fun e w' => ∃ a' cap', e = .returned (.slice a' (keysL (xs ++ ys) (diffB xs ys)).length cap') ∧ Reads w' a' 1 encS (keysL (xs ++ ys) (diffB xs ys)) ∧ Below w.heap.size w w' :=
  (implDiffKeys_c a a2 cap cap2 xs ys w (by omega) (by omega) hr hr2 ho ho2).mono fun _ _ ⟨_, h1, h2, h3⟩ => by
    obtain ⟨a', cap', rfl, hr'⟩ := reads_of_owns encS_len h2
    exact ⟨a', cap', h1, hr', h3⟩
theorem readsC_new (w : World) (xs : Sto) (T : TypeId) : Reads (w.alloc (.cells (xs.flatMap encC).toArray T)) (some ⟨w.heap.size, 0, none⟩) 2 encC xs :=
  .inr ⟨w.heap.size, 0, rfl, by simp, fun i x hx j v hv => by
    have hj : j < 2 := (List.getElem?_eq_some_iff.1 hv).1
    have h := getElem_flatMap encC_len xs i j x hx hj
    rw [hv] at h
    have := (Box.new w (xs.flatMap encC) T).cell (i * 2 + j) v h
    simpa using this⟩
theorem one_len : (keysL ([((⟨#[97]⟩ : ByteArray), (⟨#[98]⟩ : ByteArray))] ++ []) (diffB [((⟨#[97]⟩ : ByteArray), (⟨#[98]⟩ : ByteArray))] [])).length = 1 := by kernel_rfl

theorem one_ok : Ok [(⟨#[97]⟩, ⟨#[98]⟩)] := fun x hx => by
  have := List.mem_singleton.1 hx
  subst this
  exact ⟨by decide, by decide⟩
abbrev newW (W : World) : World := W.alloc (.cells #[.string ⟨#[97]⟩, .string ⟨#[98]⟩] 41)
theorem new_reads (W : World) : Reads (newW W) (some ⟨W.heap.size, 0, none⟩) 2 encC [((⟨#[97]⟩ : ByteArray), (⟨#[98]⟩ : ByteArray))] := readsC_new W [(⟨#[97]⟩, ⟨#[98]⟩)] 41
theorem new_r (W : World) : Calls Try.prog 8 #[.slice (some ⟨W.heap.size, 0, none⟩) 1 1, .slice none 0 0] (W.alloc (.cells #[.string ⟨#[97]⟩, .string ⟨#[98]⟩] 41)) fun e w' => ∃ a' cap', e = .returned (.slice a' 1 cap') ∧ Below (W.alloc (.cells #[.string ⟨#[97]⟩, .string ⟨#[98]⟩] 41)).heap.size (W.alloc (.cells #[.string ⟨#[97]⟩, .string ⟨#[98]⟩] 41)) w' := by
  obtain ⟨X, hX⟩ : ∃ X : Sto, X = [((⟨#[97]⟩ : ByteArray), (⟨#[98]⟩ : ByteArray))] := ⟨_, rfl⟩
  obtain ⟨Y, hY⟩ : ∃ Y : Sto, Y = [] := ⟨_, rfl⟩
  have hr := new_reads W
  have ho := one_ok
  have hl := one_len
  rw [← hX] at hr ho
  rw [← hX, ← hY] at hl
  have hx : X.length = 1 := by rw [hX]; rfl
  have hy : Y.length = 0 := by rw [hY]; rfl
  have K := diff_r (some ⟨W.heap.size, 0, none⟩) none 1 0 X Y (newW W) (by omega) (by omega) hr (.inl hY) ho (fun x h => by rw [hY] at h; cases h)
  rw [hx, hy, hl] at K
  exact K.mono fun _ _ ⟨a', cap', h1, _, h3⟩ => ⟨a', cap', h1, h3⟩
/-- What the loop's rounds keep: both stores, the keys and the store laid over are read, the older world stands. -/
structure Hold (w0 : World) (a1 a2 al ax : Option Addr) (xs ys : Sto) (L : List ByteArray) (X : Sto) (W : World) : Prop where
  r1 : Reads W a1 2 encC xs
  r2 : Reads W a2 2 encC ys
  rl : Reads W al 1 encS L
  rx : Reads W ax 2 encC X
  bel : Below w0.heap.size w0 W
theorem Hold.below {w0 : World} {a1 a2 al ax : Option Addr} {xs ys : Sto} {L : List ByteArray} {X : Sto} {W W' : World} (h : Hold w0 a1 a2 al ax xs ys L X W) (hb : Below W.heap.size W W') : Hold w0 a1 a2 al ax xs ys L X W' :=
  ⟨h.r1.below hb, h.r2.below hb, h.rl.below hb, h.rx.below hb, h.bel.trans (hb.mono h.bel.size)⟩
theorem Hold.drew {w0 : World} {a1 a2 al ax : Option Addr} {xs ys : Sto} {L : List ByteArray} {X : Sto} {W : World} (h : Hold w0 a1 a2 al ax xs ys L X W) : Hold w0 a1 a2 al ax xs ys L X W.drew :=
  h.below (by repeat (first | exact Below.refl _ _ | refine Below.drew ?_ | refine below_drewN ?_ _ | refine Below.allocC ?_ _ | refine Below.setCell ?_ (by first | (simp; done) | (simp; omega)) _ | refine Below.chain ?_ (by assumption)))

set_option maxRecDepth 100000 in
set_option maxHeartbeats 8000000 in
theorem walk (a0 : Option Addr) (len0 cap0 : Nat) (z0 : List Int) (w : World) (w0 : IsRow .u8 w a0 len0 cap0 z0) :
    Calls Try.prog 4 #[.slice a0 len0 cap0] w fun e w' => e = .returned (.bool true) ∧ Below w.heap.size w w' := by
  obtain ⟨i0, hinf, hzz⟩ := Option.map_eq_some_iff.1 infoCell
  simp only [Prod.mk.injEq] at hzz
  have HI := Lib.hid hinf
  have HZZ := Lib.hid hzz
  clear hinf hzz
  have HZ := Lib.hid w0
  clear w0
  by_cases hbig : 1048576 < len0
  · have KB := Lib.hid (fun W => big_yes a0 len0 cap0 W hbig)
    go_enter Try.func4, Try.ntmps4
    go_wp2_with fail
    refine (KB.out _).mono ?_
    rintro e w1 ⟨rfl, rfl⟩
    go_wp2
    go_ret
    exact ⟨rfl, Below.refl _ _⟩
  · have KB := Lib.hid (fun W => big_no a0 len0 cap0 W (by omega))
    have KM := Lib.hid (drawDiff_c a0 len0 cap0 z0 w HZ.out)
    go_enter Try.func4, Try.ntmps4
    go_wp2_with fail
    refine (KB.out _).mono ?_
    rintro e w1 ⟨rfl, rfl⟩
    go_wp2_with fail
    refine KM.out.mono ?_
    rintro e w1 ⟨a1, c1, a2, c2, xs, ys, rfl, hr1, hr2, l1, l2, in1, in2, hb1⟩
    have HR1 := Lib.hid hr1
    have HR2 := Lib.hid hr2
    have HB1 := Lib.hid hb1
    have HO1 := Lib.hid (show Ok xs from CellsIn.ok anyList_sizes in1)
    have HO2 := Lib.hid (show Ok ys from CellsIn.ok anyList_sizes in2)
    clear hr1 hr2 hb1 in1 in2
    have K1 := Lib.hid (diff_r a1 a2 c1 c2 xs ys w1 (by omega) (by omega) HR1.out HR2.out HO1.out HO2.out)
    have K2 := Lib.hid (fun W h h2 => specDiffKeys_c a1 a2 c1 c2 xs ys W (by omega) (by omega) h h2)
    have KV := Lib.hid (fun W (h : Reads W a1 2 encC xs) (h2 : Reads W a2 2 encC ys) => diff_r a2 a1 c2 c1 ys xs W (by omega) (by omega) h2 h HO2.out HO1.out)
    rw [keysL_comm] at KV
    obtain ⟨L, hL⟩ : ∃ L, keysL (xs ++ ys) (diffB xs ys) = L := ⟨_, rfl⟩
    have hll : L.length ≤ 19 := by have := keysL_len (xs ++ ys) (diffB xs ys); rw [hL, List.length_append] at this; omega
    have FD := Lib.hid (show ∀ k ∈ L, getKeyS xs k ≠ getKeyS ys k from fun k hk => diff_key (by rw [hL]; exact hk))
    have FS := Lib.hid (show ∀ k ∈ L, k.size ≤ maxLen from fun k hk => diff_sizes (fun x hx => (HO1.out x hx).1) (fun x hx => (HO2.out x hx).1) (by rw [hL]; exact hk))
    have FR := Lib.hid (show RisingK L by rw [← hL]; exact keysL_rising _ _)
    have FE := Lib.hid (show storeOkB xs = true → storeOkB ys = true → applyUp xs ys L L.length = ys from fun h1 h2 => by
      unfold applyUp; rw [List.take_length, ← hL]; exact applyL_same h1 h2 (by rw [hL]; omega))
    have FO := Lib.hid (show ∀ k, Ok (applyUp xs ys L k) from fun k => ok_apply HO2.out _ _ HO1.out (fun l hl => FS.out l (List.mem_of_mem_take hl)))
    have FN := Lib.hid (show ∀ k, (applyUp xs ys L k).length ≤ 9 + k from fun k => by have := applyUp_len xs ys L k; omega)
    rw [hL] at K1 K2 KV
    clear hL
    have KE := Lib.hid (fun A C A2 C2 W h h2 => lawEqString_c A A2 C C2 L L W (by unfold maxLen; omega) h h2)
    rw [same_self] at KE
    have KS1 := Lib.hid (fun W h h2 => implSameStore_c a1 a2 c1 c2 xs ys W (by unfold maxLen; omega) h h2)
    have KS2 := Lib.hid (fun W h h2 => lawEqCell_c a1 a2 c1 c2 xs ys W (by unfold maxLen; omega) h h2)
    generalize same xs ys = bs at *
    have qs : (bs != bs) = false := by cases bs <;> rfl
    go_wp2_with fail
    refine K1.out.mono ?_
    rintro e w2 ⟨al, cl, rfl, rl, hb2⟩
    have HL2 := Lib.hid rl
    have H12 := Lib.hid (HR1.out.below hb2)
    have H22 := Lib.hid (HR2.out.below hb2)
    have HB2 := Lib.hid (HB1.out.trans (hb2.mono HB1.out.size))
    clear rl hb2 HR1 HR2 HB1 K1
    go_wp2_with fail
    refine (K2.out _ H12.out H22.out).mono ?_
    rintro e w3 ⟨a3, c3, rfl, r3, _, _, hb3⟩
    have HL3 := Lib.hid (HL2.out.below hb3)
    have H13 := Lib.hid (H12.out.below hb3)
    have H23 := Lib.hid (H22.out.below hb3)
    have HB3 := Lib.hid (HB2.out.trans (hb3.mono HB2.out.size))
    have KE3 := Lib.hid (KE.out al cl a3 c3 w3 HL3.out r3)
    clear r3 hb3 HL2 H12 H22 HB2 K2
    go_wp2_with fail
    refine KE3.out.mono ?_
    rintro e w4 ⟨rfl, hb4⟩
    have HL4 := Lib.hid (HL3.out.below hb4)
    have H14 := Lib.hid (H13.out.below hb4)
    have H24 := Lib.hid (H23.out.below hb4)
    have HB4 := Lib.hid (HB3.out.trans (hb4.mono HB3.out.size))
    clear hb4 HL3 H13 H23 HB3 KE3
    go_wp2_with fail
    refine (KS1.out _ H14.out H24.out).mono ?_
    rintro e w5 ⟨rfl, hb5⟩
    have HL5 := Lib.hid (HL4.out.below hb5)
    have H15 := Lib.hid (H14.out.below hb5)
    have H25 := Lib.hid (H24.out.below hb5)
    have HB5 := Lib.hid (HB4.out.trans (hb5.mono HB4.out.size))
    clear hb5 HL4 H14 H24 HB4 KS1
    go_wp2_with fail
    refine (KS2.out _ H15.out H25.out).mono ?_
    rintro e w6 ⟨rfl, hb6⟩
    have HL6 := Lib.hid (HL5.out.below hb6)
    have H16 := Lib.hid (H15.out.below hb6)
    have H26 := Lib.hid (H25.out.below hb6)
    have HB6 := Lib.hid (HB5.out.trans (hb6.mono HB5.out.size))
    clear hb6 HL5 H15 H25 HB5 KS2
    go_wp2_with (at_builtin; refine wpList_append_reads _ rfl _ _ 26 rfl w6.heap.size 41 i0 (.agg #[.string ⟨#[]⟩, .string ⟨#[]⟩]) 2 32 Try.underlying26 HI.out HZZ.out.1 HZZ.out.2.1 HZZ.out.2.2 rfl (by decide) encC_len encC_one _ 0 [] rfl (own_empty w6 41 2) _ _ _ xs rfl rfl (H16.out.below (by repeat (first | exact Below.refl _ _ | refine Below.drew ?_ | refine below_drewN ?_ _ | refine Below.allocC ?_ _ | refine Below.setCell ?_ (by first | (simp; done) | (simp; omega)) _ | refine Below.chain ?_ (by assumption)))) (by unfold maxLen; omega) (by omega) (show Below w6.heap.size w6 (w6.alloc (.cells #[] 41)) from (by repeat (first | exact Below.refl _ _ | refine Below.drew ?_ | refine below_drewN ?_ _ | refine Below.allocC ?_ _ | refine Below.setCell ?_ (by first | (simp; done) | (simp; omega)) _ | refine Below.chain ?_ (by assumption)))).size ?_)
    intro v' w' ow gw _
    have hb : Below w6.heap.size w6 w' := (show Below w6.heap.size w6 (w6.alloc (.cells #[] 41)) from (by repeat (first | exact Below.refl _ _ | refine Below.drew ?_ | refine below_drewN ?_ _ | refine Below.allocC ?_ _ | refine Below.setCell ?_ (by first | (simp; done) | (simp; omega)) _ | refine Below.chain ?_ (by assumption)))).trans (below_of_grown gw (Nat.le_refl _) (show Below w6.heap.size w6 (w6.alloc (.cells #[] 41)) from (by repeat (first | exact Below.refl _ _ | refine Below.drew ?_ | refine below_drewN ?_ _ | refine Below.allocC ?_ _ | refine Below.setCell ?_ (by first | (simp; done) | (simp; omega)) _ | refine Below.chain ?_ (by assumption)))).size)
    obtain ⟨ax, cx, hv, hrx⟩ := reads_of_owns encC_len (show w'.ownsRow w6.heap.size 41 2 v' xs.length (xs.flatMap encC) from by simpa using ow)
    subst hv
    have HO := Lib.hid (show Hold w a1 a2 al ax xs ys L (applyUp xs ys L 0) w' from ⟨H16.out.below hb, H26.out.below hb, HL6.out.below hb, hrx, HB6.out.trans (hb.mono HB6.out.size)⟩)
    clear ow gw hb hrx H16 H26 HL6 HB6
    have KX := Lib.hid (fun W ax k (h : Hold w a1 a2 al ax xs ys L (applyUp xs ys L k) W) l => specGetKey_c a1 c1 xs l W (by unfold maxLen; omega) h.r1)
    have KY := Lib.hid (fun W ax k (h : Hold w a1 a2 al ax xs ys L (applyUp xs ys L k) W) l => specGetKey_c a2 c2 ys l W (by unfold maxLen; omega) h.r2)
    go_wp2
    go_loopw [6, 7] (fun x i wr => ∃ (k : Nat) (ax : Option Addr) (cx : Nat), k ≤ L.length ∧ i = .int .i64 k ∧ x = .slice ax (applyUp xs ys L k).length cx ∧ Hold w a1 a2 al ax xs ys L (applyUp xs ys L k) wr) (fun _ i _ => L.length - (intOf i).toNat)
    case atStart => exact ⟨0, ax, cx, Nat.zero_le _, rfl, rfl, HO.out⟩
    case round =>
      obtain ⟨k, ay, cy, hk, rfl, rfl, hh⟩ := hrel
      by_cases hlt : k < L.length
      · have p1 : (0 : Int) ≤ (k : Int) := by omega
        have p2 : (k : Int) < (L.length : Int) := by omega
        obtain ⟨l, hl⟩ := some_of_lt hlt
        have hml := List.mem_of_getElem? hl
        obtain ⟨b, off, hab, c0⟩ := readFS hh.rl (Below.refl _ _) hl
        subst hab
        have hne := FD.out l hml
        have hks := FS.out l hml
        have hvs : (getKeyS ys l).size ≤ maxLen := get_size maxLen l ys (fun z hz => (HO2.out z hz).2)
        have HSU := Lib.hid (applyUp_succ (xs := xs) (ys := ys) hl)
        have K1 := Lib.hid (fun W h => KX.out W ay k h l)
        have K2 := Lib.hid (fun W h => KY.out W ay k h l)
        have KP := Lib.hid (fun W (h : Hold w a1 a2 (some ⟨b, off, none⟩) ay xs ys L (applyUp xs ys L k) W) => put_r ay cy (applyUp xs ys L k) l (getKeyS ys l) W (by have := FN.out k; omega) h.rx (FO.out k) hks hvs)
        obtain ⟨g2, hg2⟩ : ∃ g, getKeyS ys l = g := ⟨_, rfl⟩
        obtain ⟨g1, hg1⟩ : ∃ g, getKeyS xs l = g := ⟨_, rfl⟩
        rw [hg1, hg2] at hne
        rw [hg1] at K1
        rw [hg2] at K2 KP HSU
        have hq : ∀ t, binOp .eql t (.string g1) (.string g2) = pure (.bool false) := fun t => by rw [binOp_string_eql, beq_toList_false hne]
        clear hg1 hg2 hne hks hvs
        by_cases hk0 : k = 0
        · subst hk0
          have c9 : wr.cell? ⟨b, off, none⟩ = some (.string l) := c0
          have p3 : (0 : Int) < (L.length : Int) := by omega
          clear hl hml c0 p1 p2
          go_wp2_with fail
          refine wp_region_held_drew (S := (fun w' => Hold w a1 a2 (some ⟨b, off, none⟩) ay xs ys L (applyUp xs ys L 0) w' ∧ w'.cell? ⟨b, off, none⟩ = some (.string l))) (by kernel_rfl) ?_ (fun hHeld => ?_)
          · (try dsimp only); (go_split_ands; (repeat' apply And.intro) <;> first | assumption | exact keepS (by assumption) (by assumption) | exact Hold.below (by assumption) (by assumption) | exact Hold.drew (by assumption))
          refine wpAnyH_take (i := 0) (oi := _) (v := ?_) rfl (by kernel_rfl) (by kernel_rfl) (by kernel_rfl) (fun _ _ _ h => h) (Or.inl ⟨by rfl, ?_⟩) (by assumption) ?_
          rotate_left
          · (intro w hSw; (try dsimp only at hSw); go_simp); all_goals with_reducible rfl
          try simp only [Act.put, List.getElem_toArray, List.getElem_cons_zero, List.getElem_cons_succ, List.setIfInBounds_toArray, List.set_cons_zero, List.set_cons_succ]
          refine wpAnyH_take (i := 1) (oi := _) (v := ?_) rfl (by kernel_rfl) (by kernel_rfl) (by kernel_rfl) (fun _ _ _ h => h) (Or.inl ⟨by rfl, ?_⟩) (by assumption) ?_
          rotate_left
          · (intro w hSw; (try dsimp only at hSw); go_simp); all_goals with_reducible rfl
          try simp only [Act.put, List.getElem_toArray, List.getElem_cons_zero, List.getElem_cons_succ, List.setIfInBounds_toArray, List.set_cons_zero, List.set_cons_succ]
          refine wpAnyH_take (i := 2) (oi := _) (v := ?_) rfl (by kernel_rfl) (by kernel_rfl) (by kernel_rfl) (fun _ _ _ h => h) (Or.inl ⟨by rfl, ?_⟩) (by assumption) ?_
          rotate_left
          · (intro w hSw; (try dsimp only at hSw); go_simp); all_goals with_reducible rfl
          try simp only [Act.put, List.getElem_toArray, List.getElem_cons_zero, List.getElem_cons_succ, List.setIfInBounds_toArray, List.set_cons_zero, List.set_cons_succ]
          refine wpAnyH_take (i := 3) (oi := _) (v := ?_) rfl (by kernel_rfl) (by kernel_rfl) (by kernel_rfl) (fun _ _ _ h => h) (Or.inl ⟨by rfl, ?_⟩) (by assumption) ?_
          rotate_left
          · (intro w hSw; (try dsimp only at hSw); go_simp); all_goals with_reducible rfl
          try simp only [Act.put, List.getElem_toArray, List.getElem_cons_zero, List.getElem_cons_succ, List.setIfInBounds_toArray, List.set_cons_zero, List.set_cons_succ]
          refine wpAnyH_take (i := 4) (oi := _) (v := ?_) rfl (by kernel_rfl) (by kernel_rfl) (by kernel_rfl) (fun _ _ _ h => h) (Or.inl ⟨by rfl, ?_⟩) (by assumption) ?_
          rotate_left
          · (intro w hSw; (try dsimp only at hSw); go_simp); all_goals with_reducible rfl
          try simp only [Act.put, List.getElem_toArray, List.getElem_cons_zero, List.getElem_cons_succ, List.setIfInBounds_toArray, List.set_cons_zero, List.set_cons_succ]
          refine wpAnyH_take (i := 6) (oi := _) (v := ?_) rfl (by kernel_rfl) (by kernel_rfl) (by kernel_rfl) (fun _ _ _ h => h) (Or.inl ⟨by rfl, ?_⟩) (by assumption) ?_
          rotate_left
          · (intro w hSw; (try dsimp only at hSw); go_simp); all_goals with_reducible rfl
          try simp only [Act.put, List.getElem_toArray, List.getElem_cons_zero, List.getElem_cons_succ, List.setIfInBounds_toArray, List.set_cons_zero, List.set_cons_succ]
          refine wpAnyH_take (i := 7) (oi := _) (v := ?_) rfl (by kernel_rfl) (by kernel_rfl) (by kernel_rfl) (fun _ _ _ h => h) (Or.inl ⟨by rfl, ?_⟩) (by assumption) ?_
          rotate_left
          · (intro w hSw; (try dsimp only at hSw); go_simp); all_goals with_reducible rfl
          try simp only [Act.put, List.getElem_toArray, List.getElem_cons_zero, List.getElem_cons_succ, List.setIfInBounds_toArray, List.set_cons_zero, List.set_cons_succ]
          refine wpAnyH_take (i := 8) (oi := _) (v := ?_) rfl (by kernel_rfl) (by kernel_rfl) (by kernel_rfl) (fun _ _ _ h => h) (Or.inl ⟨by rfl, ?_⟩) (by assumption) ?_
          rotate_left
          · (intro w hSw; (try dsimp only at hSw); go_simp); all_goals with_reducible rfl
          try simp only [Act.put, List.getElem_toArray, List.getElem_cons_zero, List.getElem_cons_succ, List.setIfInBounds_toArray, List.set_cons_zero, List.set_cons_succ]
          refine wpAnyH_take (i := 9) (oi := _) (v := ?_) rfl (by kernel_rfl) (by kernel_rfl) (by kernel_rfl) (fun _ _ _ h => h) (Or.inl ⟨by rfl, ?_⟩) (by assumption) ?_
          rotate_left
          · (intro w hSw; (try dsimp only at hSw); go_simp); all_goals with_reducible rfl
          try simp only [Act.put, List.getElem_toArray, List.getElem_cons_zero, List.getElem_cons_succ, List.setIfInBounds_toArray, List.set_cons_zero, List.set_cons_succ]
          refine wpAnyH_take (i := 10) (oi := _) (v := ?_) rfl (by kernel_rfl) (by kernel_rfl) (by kernel_rfl) (fun _ _ _ h => h) (Or.inl ⟨by rfl, ?_⟩) (by assumption) ?_
          rotate_left
          · (intro w hSw; (try dsimp only at hSw); go_simp); all_goals with_reducible rfl
          try simp only [Act.put, List.getElem_toArray, List.getElem_cons_zero, List.getElem_cons_succ, List.setIfInBounds_toArray, List.set_cons_zero, List.set_cons_succ]
          refine wpAnyH_ready (rs := [5]) (by kernel_rfl) (by simp) ?_
          refine AllReadyH.cons (o := _) rfl (fun K hK => ?g1n5) AllReadyH.nil
          go_simp
          refine (K1.out _ (by go_split_ands; assumption)).mono ?_
          rintro e w' ⟨rfl, hbk⟩
          go_wp2_with fail
          refine hK.out _ _ ?_ (fun hHeld2 => ?_)
          · (try dsimp only); (go_split_ands; (repeat' apply And.intro) <;> first | assumption | exact keepS (by assumption) (by assumption) | exact Hold.below (by assumption) (by assumption) | exact Hold.drew (by assumption))
          clear hK K hHeld; have hHeld := hHeld2; clear hHeld2
          try simp only [Act.put, List.getElem_toArray, List.getElem_cons_zero, List.getElem_cons_succ, List.setIfInBounds_toArray, List.set_cons_zero, List.set_cons_succ]
          refine wpAnyH_ready (rs := [11]) (by kernel_rfl) (by simp) ?_
          refine AllReadyH.cons (o := _) rfl (fun K hK => ?g2n11) AllReadyH.nil
          go_simp
          refine (K2.out _ (by go_split_ands; assumption)).mono ?_
          rintro e w' ⟨rfl, hbk⟩
          go_wp2_with fail
          refine hK.out _ _ ?_ (fun hHeld2 => ?_)
          · (try dsimp only); (go_split_ands; (repeat' apply And.intro) <;> first | assumption | exact keepS (by assumption) (by assumption) | exact Hold.below (by assumption) (by assumption) | exact Hold.drew (by assumption))
          clear hK K hHeld; have hHeld := hHeld2; clear hHeld2
          try simp only [Act.put, List.getElem_toArray, List.getElem_cons_zero, List.getElem_cons_succ, List.setIfInBounds_toArray, List.set_cons_zero, List.set_cons_succ]
          refine wpAnyH_take (i := 12) (oi := _) (v := ?_) rfl (by kernel_rfl) (by kernel_rfl) (by kernel_rfl) (fun _ _ _ h => h) (Or.inl ⟨by rfl, ?_⟩) (by assumption) ?_
          rotate_left
          · (intro w hSw; (try dsimp only at hSw); go_simp); all_goals with_reducible rfl
          try simp only [Act.put, List.getElem_toArray, List.getElem_cons_zero, List.getElem_cons_succ, List.setIfInBounds_toArray, List.set_cons_zero, List.set_cons_succ]
          refine wpAnyH_take (i := 13) (oi := _) (v := ?_) rfl (by kernel_rfl) (by kernel_rfl) (by kernel_rfl) (fun _ _ _ h => h) (Or.inl ⟨by rfl, ?_⟩) (by assumption) ?_
          rotate_left
          · (intro w hSw; (try dsimp only at hSw); go_simp); all_goals with_reducible rfl
          try simp only [Act.put, List.getElem_toArray, List.getElem_cons_zero, List.getElem_cons_succ, List.setIfInBounds_toArray, List.set_cons_zero, List.set_cons_succ]
          refine wpAnyH_take (i := 14) (oi := _) (v := ?_) rfl (by kernel_rfl) (by kernel_rfl) (by kernel_rfl) (fun _ _ _ h => h) (Or.inl ⟨by rfl, ?_⟩) (by assumption) ?_
          rotate_left
          · (intro w hSw; (try dsimp only at hSw); go_simp); all_goals with_reducible rfl
          try simp only [Act.put, List.getElem_toArray, List.getElem_cons_zero, List.getElem_cons_succ, List.setIfInBounds_toArray, List.set_cons_zero, List.set_cons_succ]
          refine wpAnyH_take (i := 15) (oi := _) (v := ?_) rfl (by kernel_rfl) (by kernel_rfl) (by kernel_rfl) (fun _ _ _ h => h) (Or.inl ⟨by rfl, ?_⟩) (by assumption) ?_
          rotate_left
          · (intro w hSw; (try dsimp only at hSw); go_simp); all_goals with_reducible rfl
          try simp only [Act.put, List.getElem_toArray, List.getElem_cons_zero, List.getElem_cons_succ, List.setIfInBounds_toArray, List.set_cons_zero, List.set_cons_succ]
          refine wpAnyH_take (i := 16) (oi := _) (v := ?_) rfl (by kernel_rfl) (by kernel_rfl) (by kernel_rfl) (fun _ _ _ h => h) (Or.inl ⟨by rfl, ?_⟩) (by assumption) ?_
          rotate_left
          · (intro w hSw; (try dsimp only at hSw); go_simp); all_goals with_reducible rfl
          try simp only [Act.put, List.getElem_toArray, List.getElem_cons_zero, List.getElem_cons_succ, List.setIfInBounds_toArray, List.set_cons_zero, List.set_cons_succ]
          refine wpAnyH_take (i := 17) (oi := _) (v := undef) rfl (by kernel_rfl) (by kernel_rfl) (by kernel_rfl) (fun _ _ _ h => h) (Or.inr ⟨by rfl, rfl⟩) (by assumption) ?_
          try simp only [Act.put, List.getElem_toArray, List.getElem_cons_zero, List.getElem_cons_succ, List.setIfInBounds_toArray, List.set_cons_zero, List.set_cons_succ]
          refine wpAnyH_take (i := 18) (oi := _) (v := undef) rfl (by kernel_rfl) (by kernel_rfl) (by kernel_rfl) (fun _ _ _ h => h) (Or.inr ⟨by rfl, rfl⟩) (by assumption) ?_
          try simp only [Act.put, List.getElem_toArray, List.getElem_cons_zero, List.getElem_cons_succ, List.setIfInBounds_toArray, List.set_cons_zero, List.set_cons_succ]
          refine wpAnyH_take (i := 19) (oi := _) (v := undef) rfl (by kernel_rfl) (by kernel_rfl) (by kernel_rfl) (fun _ _ _ h => h) (Or.inr ⟨by rfl, rfl⟩) (by assumption) ?_
          try simp only [Act.put, List.getElem_toArray, List.getElem_cons_zero, List.getElem_cons_succ, List.setIfInBounds_toArray, List.set_cons_zero, List.set_cons_succ]
          refine wpAnyH_take (i := 20) (oi := _) (v := undef) rfl (by kernel_rfl) (by kernel_rfl) (by kernel_rfl) (fun _ _ _ h => h) (Or.inr ⟨by rfl, rfl⟩) (by assumption) ?_
          try simp only [Act.put, List.getElem_toArray, List.getElem_cons_zero, List.getElem_cons_succ, List.setIfInBounds_toArray, List.set_cons_zero, List.set_cons_succ]
          refine wpAnyH_take (i := 21) (oi := _) (v := undef) rfl (by kernel_rfl) (by kernel_rfl) (by kernel_rfl) (fun _ _ _ h => h) (Or.inr ⟨by rfl, rfl⟩) (by assumption) ?_
          try simp only [Act.put, List.getElem_toArray, List.getElem_cons_zero, List.getElem_cons_succ, List.setIfInBounds_toArray, List.set_cons_zero, List.set_cons_succ]
          refine wpAnyH_take (i := 22) (oi := _) (v := undef) rfl (by kernel_rfl) (by kernel_rfl) (by kernel_rfl) (fun _ _ _ h => h) (Or.inr ⟨by rfl, rfl⟩) (by assumption) ?_
          try simp only [Act.put, List.getElem_toArray, List.getElem_cons_zero, List.getElem_cons_succ, List.setIfInBounds_toArray, List.set_cons_zero, List.set_cons_succ]
          refine wpAnyH_take (i := 23) (oi := _) (v := undef) rfl (by kernel_rfl) (by kernel_rfl) (by kernel_rfl) (fun _ _ _ h => h) (Or.inr ⟨by rfl, rfl⟩) (by assumption) ?_
          try simp only [Act.put, List.getElem_toArray, List.getElem_cons_zero, List.getElem_cons_succ, List.setIfInBounds_toArray, List.set_cons_zero, List.set_cons_succ]
          refine wpAnyH_take (i := 24) (oi := _) (v := undef) rfl (by kernel_rfl) (by kernel_rfl) (by kernel_rfl) (fun _ _ _ h => h) (Or.inr ⟨by rfl, rfl⟩) (by assumption) ?_
          try simp only [Act.put, List.getElem_toArray, List.getElem_cons_zero, List.getElem_cons_succ, List.setIfInBounds_toArray, List.set_cons_zero, List.set_cons_succ]
          refine wpAnyH_take (i := 25) (oi := _) (v := undef) rfl (by kernel_rfl) (by kernel_rfl) (by kernel_rfl) (fun _ _ _ h => h) (Or.inr ⟨by rfl, rfl⟩) (by assumption) ?_
          try simp only [Act.put, List.getElem_toArray, List.getElem_cons_zero, List.getElem_cons_succ, List.setIfInBounds_toArray, List.set_cons_zero, List.set_cons_succ]
          refine wpAnyH_take (i := 26) (oi := _) (v := undef) rfl (by kernel_rfl) (by kernel_rfl) (by kernel_rfl) (fun _ _ _ h => h) (Or.inr ⟨by rfl, rfl⟩) (by assumption) ?_
          try simp only [Act.put, List.getElem_toArray, List.getElem_cons_zero, List.getElem_cons_succ, List.setIfInBounds_toArray, List.set_cons_zero, List.set_cons_succ]
          refine wpAnyH_take (i := 27) (oi := _) (v := ?_) rfl (by kernel_rfl) (by kernel_rfl) (by kernel_rfl) (fun _ _ _ h => h) (Or.inl ⟨by rfl, ?_⟩) (by assumption) ?_
          rotate_left
          · (intro w hSw; (try dsimp only at hSw); go_simp); all_goals with_reducible rfl
          try simp only [Act.put, List.getElem_toArray, List.getElem_cons_zero, List.getElem_cons_succ, List.setIfInBounds_toArray, List.set_cons_zero, List.set_cons_succ]
          refine wpAnyH_take (i := 28) (oi := _) (v := ?_) rfl (by kernel_rfl) (by kernel_rfl) (by kernel_rfl) (fun _ _ _ h => h) (Or.inl ⟨by rfl, ?_⟩) (by assumption) ?_
          rotate_left
          · (intro w hSw; (try dsimp only at hSw); go_simp); all_goals with_reducible rfl
          try simp only [Act.put, List.getElem_toArray, List.getElem_cons_zero, List.getElem_cons_succ, List.setIfInBounds_toArray, List.set_cons_zero, List.set_cons_succ]
          refine wpAnyH_done (by kernel_rfl) ?_ _
          all_goals
            have HX : Hold w a1 a2 (some ⟨b, off, none⟩) ay xs ys L (applyUp xs ys L 0) w' ∧ w'.cell? ⟨b, off, none⟩ = some (.string l) := by assumption
            have hh2 := HX.1
            have c9 := HX.2
            clear HX hh
            go_wp2_with fail
            go_region_held3 (fun w' => Hold w a1 a2 (some ⟨b, off, none⟩) ay xs ys L (applyUp xs ys L 0) w' ∧ w'.cell? ⟨b, off, none⟩ = some (.string l)) ((go_split_ands; (repeat' apply And.intro) <;> first | assumption | exact keepS (by assumption) (by assumption) | exact Hold.below (by assumption) (by assumption) | exact Hold.drew (by assumption))) (first | (go_at_call 19; refine (K2.out _ (by go_split_ands; assumption)).mono ?_; rintro e w' ⟨rfl, hbk⟩) | (go_at_call 20; refine (KP.out _ (by go_split_ands; assumption)).mono ?_; rintro e w' ⟨an, cn, rfl, hrn, hbk⟩))
            have HX : Hold w a1 a2 (some ⟨b, off, none⟩) ay xs ys L (applyUp xs ys L 0) w' ∧ w'.cell? ⟨b, off, none⟩ = some (.string l) := by assumption
            have HX1 := Lib.hid HX.1
            have HRN := Lib.hid hrn
            clear HX hh2 c9 hrn
            go_wp2
            go_roundw
            case rel => exact ⟨0 + 1, an, cn, by omega, by go_num, by rw [HSU.out], by
              rw [HSU.out]
              exact (⟨HX1.out.r1, HX1.out.r2, HX1.out.rl, HRN.out, HX1.out.bel⟩ : Hold w a1 a2 (some ⟨b, off, none⟩) an xs ys L _ _).below (by repeat (first | exact Below.refl _ _ | refine Below.drew ?_ | refine below_drewN ?_ _ | refine Below.allocC ?_ _ | refine Below.setCell ?_ (by first | (simp; done) | (simp; omega)) _ | refine Below.chain ?_ (by assumption)))⟩
            case measure => simp [intOf]; omega
        · obtain ⟨j, hj⟩ : ∃ j, k = j + 1 := ⟨k - 1, by omega⟩
          obtain ⟨y, hy⟩ := some_of_lt (xs := L) (k := j) (by omega)
          have hlss := rising_at FR.out hy (by rw [← hj]; exact hl)
          obtain ⟨b', off', hab, d0⟩ := readFS hh.rl (Below.refl _ _) hy
          cases hab
          have hb1 : decide (0 < k) = true := by rw [decide_eq_true_iff]; omega
          have hb2 : decide ((0 : Int) < (k : Int)) = true := by rw [decide_eq_true_iff]; omega
          have hsb : IntKind.i64.wrap ((k : Int) - 1) = (j : Int) := by rw [IntKind.wrap_i64]; omega
          have hge : ∀ t, binOp .geq t (.string y) (.string l) = pure (.bool false) := fun t => by
            rw [binOp_string_geq]; unfold ltB at hlss; rw [hlss]; rfl
          have p3 : (0 : Int) ≤ (j : Int) := by omega
          have p4 : (j : Int) < (L.length : Int) := by omega
          clear hl hml hj hy hlss hk0
          go_wp2_with fail
          go_region_held3 (fun w' => Hold w a1 a2 (some ⟨b, off, none⟩) ay xs ys L (applyUp xs ys L k) w' ∧ w'.cell? ⟨b, off + k, none⟩ = some (.string l) ∧ w'.cell? ⟨b, off + j, none⟩ = some (.string y)) ((go_split_ands; (repeat' apply And.intro) <;> first | assumption | exact keepS (by assumption) (by assumption) | exact Hold.below (by assumption) (by assumption) | exact Hold.drew (by assumption))) (first | (go_at_call_of 19 (Value.slice a1 xs.length c1); refine (K1.out _ (by go_split_ands; assumption)).mono ?_; rintro e w' ⟨rfl, hbk⟩) | (go_at_call_of 19 (Value.slice a2 ys.length c2); refine (K2.out _ (by go_split_ands; assumption)).mono ?_; rintro e w' ⟨rfl, hbk⟩))
          all_goals
            have HX : Hold w a1 a2 (some ⟨b, off, none⟩) ay xs ys L (applyUp xs ys L k) w' ∧ w'.cell? ⟨b, off + k, none⟩ = some (.string l) ∧ w'.cell? ⟨b, off + j, none⟩ = some (.string y) := by assumption
            have hh2 := HX.1
            have c9 := HX.2.1
            clear HX hh
            go_wp2_with fail
            go_region_held3 (fun w' => Hold w a1 a2 (some ⟨b, off, none⟩) ay xs ys L (applyUp xs ys L k) w' ∧ w'.cell? ⟨b, off + k, none⟩ = some (.string l)) ((go_split_ands; (repeat' apply And.intro) <;> first | assumption | exact keepS (by assumption) (by assumption) | exact Hold.below (by assumption) (by assumption) | exact Hold.drew (by assumption))) (first | (go_at_call 19; refine (K2.out _ (by go_split_ands; assumption)).mono ?_; rintro e w' ⟨rfl, hbk⟩) | (go_at_call 20; refine (KP.out _ (by go_split_ands; assumption)).mono ?_; rintro e w' ⟨an, cn, rfl, hrn, hbk⟩))
            have HX : Hold w a1 a2 (some ⟨b, off, none⟩) ay xs ys L (applyUp xs ys L k) w' ∧ w'.cell? ⟨b, off + k, none⟩ = some (.string l) := by assumption
            have HX1 := Lib.hid HX.1
            have HRN := Lib.hid hrn
            clear HX hh2 c9 hrn
            go_wp2
            go_roundw
            case rel => exact ⟨k + 1, an, cn, by omega, by go_num, by rw [HSU.out], by
              rw [HSU.out]
              exact (⟨HX1.out.r1, HX1.out.r2, HX1.out.rl, HRN.out, HX1.out.bel⟩ : Hold w a1 a2 (some ⟨b, off, none⟩) an xs ys L _ _).below (by repeat (first | exact Below.refl _ _ | refine Below.drew ?_ | refine below_drewN ?_ _ | refine Below.allocC ?_ _ | refine Below.setCell ?_ (by first | (simp; done) | (simp; omega)) _ | refine Below.chain ?_ (by assumption)))⟩
            case measure => simp [intOf]; omega
      · obtain rfl : k = L.length := by omega
        have HH := Lib.hid hh
        have KO1 := Lib.hid (fun W (h : Reads W a1 2 encC xs) => specStoreOk_c a1 c1 xs W (by unfold maxLen; omega) h HO1.out)
        have KO2 := Lib.hid (fun W (h : Reads W a2 2 encC ys) => specStoreOk_c a2 c2 ys W (by unfold maxLen; omega) h HO2.out)
        have KSC := Lib.hid (fun W (h : Hold w a1 a2 al ay xs ys L (applyUp xs ys L L.length) W) => lawEqCell_c ay a2 cy c2 (applyUp xs ys L L.length) ys W (by have := FN.out L.length; unfold maxLen; omega) h.rx h.r2)
        have KNEW := Lib.hid (fun W => new_r W)
        obtain ⟨s1, hs1⟩ : ∃ b, storeOkB xs = b := ⟨_, rfl⟩
        obtain ⟨s2, hs2⟩ : ∃ b, storeOkB ys = b := ⟨_, rfl⟩
        obtain ⟨sx, hsx⟩ : ∃ b, same (applyUp xs ys L L.length) ys = b := ⟨_, rfl⟩
        have HT := Lib.hid (show s1 = true → s2 = true → sx = true from fun h1 h2 => by
          rw [← hsx, FE.out (hs1.trans h1) (hs2.trans h2)]; exact same_self _)
        rw [hs1] at KO1
        rw [hs2] at KO2
        rw [hsx] at KSC
        clear hs1 hs2 hsx hh hlt
        go_wp2_with fail
        refine (KO1.out _ HH.out.r1).mono ?_
        rintro e wa ⟨rfl, hba⟩
        have HA := Lib.hid (HH.out.below hba)
        clear hba HH
        cases s1
        · go_wp2_with fail
          refine (KV.out _ HA.out.r1 HA.out.r2).mono ?_
          rintro e wv ⟨av, cv, rfl, rv, hbv⟩
          have HV := Lib.hid (HA.out.below hbv)
          have KEV := Lib.hid (KE.out av cv al cl wv rv HV.out.rl)
          clear rv hbv
          go_wp2_with fail
          refine KEV.out.mono ?_
          rintro e wu ⟨rfl, hbu⟩
          have HU := Lib.hid (HV.out.below hbu)
          clear hbu KEV HV
          go_wp2_with fail
          refine (KNEW.out _).mono ?_
          rintro e wz ⟨ae, ce, rfl, hbz⟩
          have HBZ := Lib.hid (HU.out.bel.trans ((show Below wu.heap.size wu wz from (by repeat (first | exact Below.refl _ _ | refine Below.drew ?_ | refine below_drewN ?_ _ | refine Below.allocC ?_ _ | refine Below.setCell ?_ (by first | (simp; done) | (simp; omega)) _ | refine Below.chain ?_ (by assumption)))).mono HU.out.bel.size))
          clear hbz
          go_wp2
          go_ret
          exact ⟨rfl, HBZ.out⟩
        · go_wp2_with fail
          refine (KO2.out _ HA.out.r2).mono ?_
          rintro e wb ⟨rfl, hbb⟩
          have HB := Lib.hid (HA.out.below hbb)
          clear hbb HA
          cases s2
          · go_wp2_with fail
            refine (KV.out _ HB.out.r1 HB.out.r2).mono ?_
            rintro e wv ⟨av, cv, rfl, rv, hbv⟩
            have HV := Lib.hid (HB.out.below hbv)
            have KEV := Lib.hid (KE.out av cv al cl wv rv HV.out.rl)
            clear rv hbv
            go_wp2_with fail
            refine KEV.out.mono ?_
            rintro e wu ⟨rfl, hbu⟩
            have HU := Lib.hid (HV.out.below hbu)
            clear hbu KEV HV
            go_wp2_with fail
            refine (KNEW.out _).mono ?_
            rintro e wz ⟨ae, ce, rfl, hbz⟩
            have HBZ := Lib.hid (HU.out.bel.trans ((show Below wu.heap.size wu wz from (by repeat (first | exact Below.refl _ _ | refine Below.drew ?_ | refine below_drewN ?_ _ | refine Below.allocC ?_ _ | refine Below.setCell ?_ (by first | (simp; done) | (simp; omega)) _ | refine Below.chain ?_ (by assumption)))).mono HU.out.bel.size))
            clear hbz
            go_wp2
            go_ret
            exact ⟨rfl, HBZ.out⟩
          · obtain rfl : sx = true := by simpa using HT.out
            go_wp2_with fail
            refine (KSC.out _ HB.out).mono ?_
            rintro e wc ⟨rfl, hbc⟩
            have HC := Lib.hid (HB.out.below hbc)
            clear hbc HB
            go_wp2_with fail
            refine (KV.out _ HC.out.r1 HC.out.r2).mono ?_
            rintro e wv ⟨av, cv, rfl, rv, hbv⟩
            have HV := Lib.hid (HC.out.below hbv)
            have KEV := Lib.hid (KE.out av cv al cl wv rv HV.out.rl)
            clear rv hbv
            go_wp2_with fail
            refine KEV.out.mono ?_
            rintro e wu ⟨rfl, hbu⟩
            have HU := Lib.hid (HV.out.below hbu)
            clear hbu KEV HV
            go_wp2_with fail
            refine (KNEW.out _).mono ?_
            rintro e wz ⟨ae, ce, rfl, hbz⟩
            have HBZ := Lib.hid (HU.out.bel.trans ((show Below wu.heap.size wu wz from (by repeat (first | exact Below.refl _ _ | refine Below.drew ?_ | refine below_drewN ?_ _ | refine Below.allocC ?_ _ | refine Below.setCell ?_ (by first | (simp; done) | (simp; omega)) _ | refine Below.chain ?_ (by assumption)))).mono HU.out.bel.size))
            clear hbz
            go_wp2
            go_ret
            exact ⟨rfl, HBZ.out⟩

/- SIG
theorem walk (a0 : Option Addr) (len0 cap0 : Nat) (z0 : List Int) (w : World) (w0 : IsRow .u8 w a0 len0 cap0 z0) :
    Calls Try.prog 4 #[.slice a0 len0 cap0] w fun e w' => e = .returned (.bool true) ∧ Below w.heap.size w w' := by
-/
theorem own : ownKnob Try.prog.godebug = none := by kernel_rfl
theorem laidOut : laidOutB Try.prog = true := by kernel_rfl
set_option maxRecDepth 100000 in
theorem lifted (os : Os) (started : os.Started) (H : Type) (enc : TypeId × Value → H) :
    ReturnsInHanded {} Try.checked os 4 .any (Rows.fnDiffsSpec.pre6 enc Try.prog Try.f4 Rows.fnDiffsRow.domain false) (Rows.fnDiffsSpec.post enc Try.prog Try.f4 false true false false) := by
  refine returnsInHanded_of_change (C := Try.checked) own started (by kernel_rfl) Try.func4
    (ChangeSpec.witness6 (enc := enc) (C := Try.checked) false ⟨#[], #[.slice none 0 0], []⟩ 8 (by kernel_rfl) (by kernel_rfl) (by kernel_rfl) (by kernel_rfl)) ?_
  intro W base args ds gs before hval0 hW _ _
  have hval : ∀ (j : Nat) t v, Try.f4.params[j]? = some t → args[j]? = some v → Value.okWide Try.prog W .any base t v := hval0
  have hW' := hW
  obtain ⟨p, q, hA0, hV, rfl, hfz, hnd⟩ := hW
  have hA : DataW.TrodAll enc Try.prog W 0 (fun _ => true) true Try.f4.params.toList args.toList ds p := hA0
  rw [Try.params4] at hA hval
  obtain ⟨v0, vs0, d0, ds0, p0, q0, hargs, rfl, rfl, h0, g0⟩ := trodAll_cons hA
  obtain ⟨rfl, rfl, rfl⟩ := trodAll_nil g0
  obtain rfl : args = #[v0] := by cases args; simp_all
  obtain ⟨rfl, rfl⟩ := trodVars_none hV
  have k0 := h0
  have lt0 : ∀ x ∈ p0, x.block < W.heap.size := by obtain ⟨m, hm⟩ := k0; exact DataW.trod_lt m _ _ _ hm
  obtain ⟨a0, len0, cap0, rfl⟩ := okWide_slice Try.underlying33 (hval 0 33 v0 rfl rfl)
  obtain ⟨z0, w0⟩ := isRow_of Try.underlying33 Try.underlying5 (by kernel_rfl) h0
  clear hA0 hval0
  refine (walk a0 len0 cap0 z0 W w0).mono fun e W' ⟨he, bel⟩ => ?_
  subst he
  exact ⟨_, rfl, _, _, _, [], _, [], hW', trodAll_mk1 (shut_bool Try.underlying4 _), (trodAll_cons_mk (Below.trod laidOut (by kernel_rfl) (of_decide_eq_true (by kernel_rfl)) k0 bel lt0) trodAll_mk0), rfl, bel.frame _, fun h => by cases h⟩
theorem over : Rows.fnDiffsRow.holds Try.pinned (OpenSpec.ofChange Rows.fnDiffsSpec) :=
  OpenClaim.holds_of_wide 4 Try.f4 rfl rfl rfl rfl rfl rfl rfl ⟨rfl, rfl, rfl, rfl, rfl⟩ rfl rfl rfl rfl rfl (by kernel_rfl) Try.func4 (by kernel_rfl)
    (of_decide_eq_true (by kernel_rfl)) (by unfold Func.isWrapper; first | (rw [if_pos (by decide +kernel)]; kernel_rfl) | (rw [if_neg (by decide +kernel)]; exact ⟨rfl, rfl⟩))
    (fun os started H enc _ => lifted os started H enc)
theorem proved : Rows.FnDiffsSaid := over
#print axioms proved

end Go.Proofs.Ytedbmmoddemngaa.fnDiffs
