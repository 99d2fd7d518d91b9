/- Contracts: DiffKeys of both sides: the keys at which two stores differ, rising. Conditions: only the bounds that any Go slice and string meets. -/
import Derived.Test.YtedbmmoddemngaaValues
import Derived.Test.YtedbmmoddemngaaAddSpan
import Derived.Test.YtedbmmoddemngaaIter
namespace Go.Proofs.Ytedbmmoddemngaa
open Go.Maps Go.RowKit
attribute [local go_sem ↓] Go.wp_at_zero Go.wp_at_succ
/-- What the map of the differing keys holds while a range runs. -/
def DoneIs (any p base : ByteArray → Bool) (left : Lit → Bool) (D : DataW Unit) : Prop := ∀ k, Maps.has D (kl k) = (base k || (any k && !left (kl k) && p k))
theorem done_start {any p base : ByteArray → Bool} {D0 D : DataW Unit} (h0 : ∀ k, Maps.has D0 (kl k) = any k) (h : ∀ k, Maps.has D (kl k) = base k) : DoneIs any p base (Maps.has D0) D := fun k => by
  rw [h, h0]; cases any k <;> simp
theorem sameKl (a b : ByteArray) : (kl a).sameKey (kl b) = eqB a b := by
  by_cases e : a = b
  · subst e
    rw [eqB_self]; exact WideAt.sameKey_self (kl_key a)
  · rw [sameKey_ne (kl_ne e)]; exact (eqB_false.2 e).symm
theorem done_hit {any p base : ByteArray → Bool} {left : Lit → Bool} {D d : DataW Unit} {x : ByteArray} (h : DoneIs any p base left D) (hm : IsMap D) (ha : any x = true) (hp : p x = true) : DoneIs any p base (fun z => left z && !z.sameKey (kl x)) (D.put (kl x) d) := fun k => by
  show _ = (base k || (any k && !(left (kl k) && !(kl k).sameKey (kl x)) && p k))
  rw [sameKl]
  by_cases e : k = x
  · subst e
    rw [has_put_same hm (kl_key k), eqB_self, ha, hp]; simp
  · rw [has_put_other (kl_ne e), h k, eqB_false.2 e]; simp
theorem done_miss {any p base : ByteArray → Bool} {left : Lit → Bool} {D : DataW Unit} {x : ByteArray} (h : DoneIs any p base left D) (hp : p x = false) : DoneIs any p base (fun z => left z && !z.sameKey (kl x)) D := fun k => by
  show _ = (base k || (any k && !(left (kl k) && !(kl k).sameKey (kl x)) && p k))
  rw [sameKl, h k]
  by_cases e : k = x
  · subst e
    rw [hp]; simp
  · rw [eqB_false.2 e]; simp
theorem done_end {any p base : ByteArray → Bool} {left : Lit → Bool} {D : DataW Unit} (h : DoneIs any p base left D) (hl : ∀ z, left z = false) (k : ByteArray) : Maps.has D (kl k) = (base k || (any k && p k)) := by
  rw [h k, hl]; simp
theorem mapS_entry {xs : Sto} {x c : ByteArray} (h : ∀ zd, (mapS xs).atKey (kl x) zd = vd c) : getKeyS xs x = c ∧ xs.any (keyP x) = true :=
  ⟨vd_inj ((mapS_at xs x).symm.trans (h _)), by rw [← mapS_has]; exact has_true_of_atKey h⟩
theorem plainB (b : Bool) : plainElem (H := Unit) Try.prog 4 (.bool b) = some (.lit (.bool b), []) := plainElem_bool Try.underlying4 b
noncomputable abbrev RS : Value → Option (DataW Unit × List MemPlace) := plainElem Try.prog 9
noncomputable abbrev RB : Value → Option (DataW Unit × List MemPlace) := plainElem Try.prog 4
/-- What a range's rounds keep. -/
structure Keep (w : World) (any p base : ByteArray → Bool) (D1 D2 : DataW Unit) (b1 b2 bd r n1 n2 M : Nat) (wr : World) (left : Lit → Bool) (cnt m : Nat) (Dd : DataW Unit) : Prop where
  rng : wr.ranges Try.prog 9 RS b1 r n1 D1 left cnt
  snd : wr.ownsMap Try.prog 9 RS b2 n2 D2
  dif : wr.ownsMap Try.prog 9 RB bd m Dd
  done : DoneIs any p base left Dd
  room : m + cnt ≤ M
  bel : Below w.heap.size w wr
theorem Keep.step {w : World} {any p base : ByteArray → Bool} {D1 D2 : DataW Unit} {b1 b2 bd r n1 n2 M : Nat} {wr : World} {left : Lit → Bool} {cnt m : Nat} {Dd : DataW Unit} (h : Keep w any p base D1 D2 b1 b2 bd r n1 n2 M wr left cnt m Dd)
    (n12 : b1 ≠ b2) (n1d : b1 ≠ bd) (n2d : b2 ≠ bd) (nrd : r ≠ bd) (nr2 : r ≠ b2) (gr : w.heap.size ≤ r)
    {w1 : World} {x : ByteArray} {cnt1 : Nat} (hp : p x = false) (hrg1 : w1.ranges Try.prog 9 RS b1 r n1 D1 (fun z => left z && !z.sameKey (kl x)) cnt1) (hlt : cnt1 < cnt) (hg1 : wr.grownBy w1 (some r)) :
    Keep w any p base D1 D2 b1 b2 bd r n1 n2 M w1 (fun z => left z && !z.sameKey (kl x)) cnt1 m Dd :=
  ⟨hrg1, h.snd.kept hg1 (fun e => nr2 (Option.some.inj e).symm), h.dif.kept hg1 (fun e => nrd (Option.some.inj e).symm), done_miss h.done hp, by have := h.room; omega, below_of_map h.bel gr hg1⟩
theorem Keep.put {w : World} {any p base : ByteArray → Bool} {D1 D2 : DataW Unit} {b1 b2 bd r n1 n2 M : Nat} {wr : World} {left : Lit → Bool} {cnt m : Nat} {Dd : DataW Unit} (h : Keep w any p base D1 D2 b1 b2 bd r n1 n2 M wr left cnt m Dd)
    (n1d : b1 ≠ bd) (n2d : b2 ≠ bd) (nrd : r ≠ bd) (nr2 : r ≠ b2) (gr : w.heap.size ≤ r) (gd : w.heap.size ≤ bd)
    {w1 w2 : World} {x : ByteArray} {cnt1 : Nat} {d : DataW Unit} (ha : any x = true) (hp : p x = true) (hrg1 : w1.ranges Try.prog 9 RS b1 r n1 D1 (fun z => left z && !z.sameKey (kl x)) cnt1) (hlt : cnt1 < cnt) (hg1 : wr.grownBy w1 (some r))
    (hown2 : w2.ownsMap Try.prog 9 RB bd (m + 1) (Dd.put (kl x) d)) (hg2 : w1.grownBy w2 (some bd)) :
    Keep w any p base D1 D2 b1 b2 bd r n1 n2 M w2 (fun z => left z && !z.sameKey (kl x)) cnt1 (m + 1) (Dd.put (kl x) d) :=
  ⟨hrg1.kept hg2 (fun e => n1d (Option.some.inj e)) (fun e => nrd (Option.some.inj e)), (h.snd.kept hg1 (fun e => nr2 (Option.some.inj e).symm)).kept hg2 (fun e => n2d (Option.some.inj e)), hown2, done_hit h.done h.dif.isMap ha hp, by have := h.room; omega,
    below_of_map (below_of_map h.bel gr hg1) gd hg2⟩

set_option maxRecDepth 100000 in
set_option maxHeartbeats 4000000 in
theorem implDiffKeys_c (a a2 : Option Addr) (cap cap2 : Nat) (xs ys : Sto) (w : World) (hlen : xs.length ≤ 1048576) (hlen2 : ys.length ≤ 1048576) (hr : Reads w a 2 encC xs) (hr2 : Reads w a2 2 encC ys) (ho : ∀ x ∈ xs, x.1.size ≤ maxLen ∧ x.2.size ≤ maxLen) (ho2 : ∀ x ∈ ys, x.1.size ≤ maxLen ∧ x.2.size ≤ maxLen) :
    Calls Try.prog 8 #[.slice a xs.length cap, .slice a2 ys.length cap2] w (Fresh 9 1 ((keysL (xs ++ ys) (diffB xs ys)).flatMap encS) (keysL (xs ++ ys) (diffB xs ys)).length w) := by
  have K1 := Lib.hid (valuesOf_c a cap xs w hlen hr ho)
  have HR2 := Lib.hid hr2
  have K2 := Lib.hid (fun W (h : Reads W a2 2 encC ys) => valuesOf_c a2 cap2 ys W hlen2 h ho2)
  have hmm := @run_makeMap Try.prog
  obtain ⟨p, hp⟩ : ∃ p, diffB xs ys = p := ⟨_, rfl⟩
  have HP := Lib.hid hp
  rw [hp]
  have HA1 := Lib.hid (mapS_has xs)
  have HA2 := Lib.hid (mapS_has ys)
  have HE1 := Lib.hid (fun x c (h : ∀ zd, (mapS xs).atKey (kl x) zd = vd c) => mapS_entry h)
  have HE2 := Lib.hid (fun x c (h : ∀ zd, (mapS ys).atKey (kl x) zd = vd c) => mapS_entry h)
  have HG1 := Lib.hid (mapS_at xs)
  have HG2 := Lib.hid (mapS_at ys)
  generalize hD1 : mapS xs = D1 at *
  generalize hD2 : mapS ys = D2 at *
  clear hr hr2 ho ho2 hp hD1 hD2
  go_enter Try.func8, Try.ntmps8
  go_wp2_with fail
  refine K1.out.mono ?_
  rintro e w1 ⟨b1, rfl, g1, hown1, hb1⟩
  have HM1 := Lib.hid hown1
  have HB1 := Lib.hid hb1
  have HR3 := Lib.hid (HR2.out.below hb1)
  have lt1 := hown1.lt
  have s1 := hb1.size
  clear hown1 hb1 K1 HR2
  go_wp2_with fail
  refine (K2.out w1 HR3.out).mono ?_
  rintro e w2 ⟨b2, rfl, g2, hown2, hb2⟩
  have HM2 := Lib.hid hown2
  have HM1b := Lib.hid (HM1.out.kept (grownBy_of_below hb2 none) (by simp))
  have HB2 := Lib.hid (HB1.out.trans (hb2.mono HB1.out.size))
  have lt2 := hown2.lt
  have s2 := hb2.size
  clear hown2 hb2 K2 HR3 HM1 HB1
  have HM1c := Lib.hid (HM1b.out.alloc (.map #[] 0))
  have HM2c := Lib.hid (HM2.out.alloc (.map #[] 0))
  have HDc := Lib.hid (World.ownsMap_made (H := Unit) w2 Try.prog 9 RB)
  have HBc := Lib.hid (HB2.out.alloc HB2.out.size (.map #[] 0))
  have hsz : (w2.alloc (.map #[] 0)).heap.size = w2.heap.size + 1 := Array.size_push _
  go_wp2_with (first | (at_range; refine wpList_range_own _ rfl _ 46 rfl 9 9 lawK Try.underlying46 _ b1 xs.length D1 rfl HM1c.out ?_; intro w0 hrg0 hg0 hs0) | go_in)
  rw [hsz] at hrg0 hs0
  have HK0 := Lib.hid (show Keep w (fun k => xs.any (keyP k)) p (fun _ => false) D1 D2 b1 b2 w2.heap.size (w2.heap.size + 1) xs.length ys.length xs.length w0 (Maps.has D1) (Maps.size D1) 0 (.map []) from
    ⟨hrg0, HM2c.out.kept hg0 (by simp), HDc.out.kept hg0 (by simp), done_start HA1.out (fun k => rfl), by have := HM1c.out.size_le; omega, HBc.out.grown hg0 HBc.out.size (fun j hj => by cases hj)⟩)
  clear hrg0 hg0 HM1b HM2 HM1c HM2c HDc HBc HB2
  have n12 : b1 ≠ b2 := by omega
  have n1d : b1 ≠ w2.heap.size := by omega
  have n2d : b2 ≠ w2.heap.size := by omega
  have nrd : w2.heap.size + 1 ≠ w2.heap.size := by omega
  have nr2 : w2.heap.size + 1 ≠ b2 := by omega
  have nr1 : w2.heap.size + 1 ≠ b1 := by omega
  have gr : w.heap.size ≤ w2.heap.size + 1 := by omega
  have gd : w.heap.size ≤ w2.heap.size := by omega
  go_frame
  rw [hsz]
  go_loopw [8] (fun _ wr => ∃ left cnt m Dd, Hid (Keep w (fun k => xs.any (keyP k)) p (fun _ => false) D1 D2 b1 b2 w2.heap.size (w2.heap.size + 1) xs.length ys.length xs.length wr left cnt m Dd)) (fun _ wr => wr.rangeLeft b1 (w2.heap.size + 1))
  case atStart => exact ⟨_, _, _, _, HK0⟩
  case round =>
    obtain ⟨left, cnt, m, Dd, HK⟩ := hrel
    clear HK0
    go_wp2_with (first | (at_next; refine wpList_next_ss _ rfl _ rfl 9 9 lawK Try.underlying9 Try.underlying9 b1 (w2.heap.size + 1) xs.length D1 left cnt rfl HK.out.rng ?_ ?_) | go_in)
    · intro hc0 hl0
      have HDn := Lib.hid (done_end HK.out.done hl0)
      have HRO := Lib.hid HK.out.room
      have HMf := Lib.hid HK.out.rng.owns
      have hrl := HK.out.rng.lt
      go_wp2_with (first | (at_range; refine wpList_range_own _ rfl _ 46 rfl 9 9 lawK Try.underlying46 _ b2 ys.length D2 rfl HK.out.snd ?_; intro wq hrgq hgq hsq) | go_in)
      go_frame
      obtain ⟨wo, hwo⟩ : ∃ W, W = wr := ⟨_, rfl⟩
      have HWO := Lib.hid hwo
      obtain ⟨rq, hrq⟩ : ∃ rq, rq = wr.heap.size := ⟨_, rfl⟩
      rw [← hrq] at hrgq ⊢
      have HQ0 := Lib.hid (show Keep w (fun k => ys.any (keyP k)) p (fun k => xs.any (keyP k) && p k) D2 D1 b2 b1 w2.heap.size rq ys.length xs.length (xs.length + ys.length) wq (Maps.has D2) (Maps.size D2) m Dd from
        ⟨hrgq, HMf.out.kept hgq (by simp), HK.out.dif.kept hgq (by simp), done_start HA2.out (fun k => by rw [HDn.out k]; simp), by have := HK.out.snd.size_le; have := HRO.out; omega, HK.out.bel.grown hgq HK.out.bel.size (fun j hj => by cases hj)⟩)
      have n12q : b2 ≠ b1 := by omega
      have n1dq : b2 ≠ w2.heap.size := by omega
      have n2dq : b1 ≠ w2.heap.size := by omega
      have nrdq : rq ≠ w2.heap.size := by omega
      have nr2q : rq ≠ b1 := by omega
      have grq : w.heap.size ≤ rq := by have := HK.out.bel.size; omega
      clear hrgq hgq hsq HK HMf HDn hwo hrq hrl
      go_loopw [10] (fun _ wr => ∃ left cnt m Dd, Hid (Keep w (fun k => ys.any (keyP k)) p (fun k => xs.any (keyP k) && p k) D2 D1 b2 b1 w2.heap.size rq ys.length xs.length (xs.length + ys.length) wr left cnt m Dd)) (fun _ wr => wr.rangeLeft b2 rq)
      case atStart => exact ⟨_, _, _, _, HQ0⟩
      case round =>
        obtain ⟨leftq, cntq, mq, Dq, HQ⟩ := hrel
        clear HQ0
        go_wp2_with (first | (at_next; refine wpList_next_ss _ rfl _ rfl 9 9 lawK Try.underlying9 Try.underlying9 b2 rq ys.length D2 leftq cntq rfl HQ.out.rng ?_ ?_) | go_in)
        · intro hc1 hl1
          have HH := Lib.hid (show ∀ k, Maps.has Dq (kl k) = (p k && (xs ++ ys).any (keyP k)) from fun k => by
            rw [done_end HQ.out.done hl1 k, List.any_append]
            cases xs.any (keyP k) <;> cases p k <;> cases ys.any (keyP k) <;> rfl)
          have HPM := Lib.hid (keys_perm HQ.out.dif lawK Try.underlying9 HH.out)
          have hsz2 := HQ.out.dif.size_le
          have hro2 := HQ.out.room
          have K27 := Lib.hid (callsIn_wide.1 (Try.maps_Keys_27 (some w2.heap.size) wr))
          have K26 := Lib.hid (callsIn_wide.1 (Try.slices_Sorted_keys_26_27 w2.heap.size mq Dq RB wr HQ.out.dif (by unfold maxLen; omega) (by omega)))
          have HBQ := Lib.hid (HQ.out.bel.alloc HQ.out.bel.size (.cells #[.map (some w2.heap.size)] 48))
          clear HQ HH hsz2 hro2
          go_wp2_with fail
          refine K27.out.mono ?_
          rintro e w6 ⟨rfl, rfl⟩
          go_wp2_with fail
          refine K26.out.mono ?_
          rintro e w7 ⟨v, ss, rfl, hS, hrow, _, hb7⟩
          have hks := keys_sorted (keysL_rising (xs ++ ys) p) hS HPM.out
          have HF := Lib.hid (show Fresh 9 1 ((keysL (xs ++ ys) p).flatMap encS) (keysL (xs ++ ys) p).length w (.returned v) w7 from ⟨v, rfl, by rw [← hks.1, ← hks.2]; exact ownsRow_base hrow HBQ.out.size, HBQ.out.trans (hb7.mono HBQ.out.size)⟩)
          clear hks hS hrow hb7
          go_wp2
          go_ret
          exact HF.out
        · intro x c w5 cnt1 hwx hlx hat hrg1 hlt hg1 hs1 hen
          obtain ⟨hc, hax⟩ := HE2.out x c hat
          have HMo := Lib.hid (HQ.out.snd.kept hg1 (fun e => nr2q (Option.some.inj e).symm))
          have HDo := Lib.hid (HQ.out.dif.kept hg1 (fun e => nrdq (Option.some.inj e).symm))
          have HGx := Lib.hid (HG1.out x)
          obtain ⟨gy, hgy⟩ : ∃ gy, getKeyS xs x = gy := ⟨_, rfl⟩
          rw [hgy] at HGx
          have hroom := HQ.out.room
          have HKy := Lib.hid (keyS hwx)
          have hpx := show p x = !(eqB gy c) from by rw [← HP.out]; unfold diffB; rw [hc, hgy]
          by_cases e : gy = c
          · have hpf : p x = false := by rw [hpx, e, eqB_self]; rfl
            have hne : ∀ t, binOp .neq t (.string gy) (.string c) = pure (.bool false) := fun t => by rw [binOp_string_neq, e, beq_self_eq_true]; rfl
            have HK1 := Lib.hid (HQ.out.step n12q n1dq n2dq nrdq nr2q grq hpf hrg1 hlt hg1)
            have HL := Lib.hid (show w5.rangeLeft b2 (rq) < wr.rangeLeft b2 (rq) by rw [hrg1.left_eq, HQ.out.rng.left_eq]; exact hlt)
            clear hc hax hgy hpx hpf e hrg1 hg1 hat hlx hs1 hlt
            go_wp2_with (first | (at_lookup; refine wpList_lookup_str _ rfl _ _ 46 rfl 9 9 lawK Try.underlying46 Try.underlying9 (zeroS _) b1 xs.length _ rfl HMo.out _ (kl x) rfl HKy.out gy HGx.out ?_) | go_in)
            go_roundw
            case rel => exact ⟨_, _, _, _, HK1⟩
            case measure => exact HL.out
          · have hpt : p x = true := by rw [hpx]; simp [eqB_false.2 e]
            have hne : ∀ t, binOp .neq t (.string gy) (.string c) = pure (.bool true) := fun t => by rw [binOp_string_neq, beq_toList_false e]; rfl
            have HPUT := Lib.hid (fun w3 d hown3 hg3 => HQ.out.put (w2 := w3) (d := d) n1dq n2dq nrdq nr2q grq gd hax hpt hrg1 hlt hg1 hown3 hg3)
            have HL0 := Lib.hid (show cnt1 < wr.rangeLeft b2 (rq) by rw [HQ.out.rng.left_eq]; exact hlt)
            have hmx : mq < maxLen := by unfold maxLen; omega
            clear hc hax hgy hpx hpt e hrg1 hg1 hat hlx hs1 hlt
            go_wp2_with (first | (at_lookup; refine wpList_lookup_str _ rfl _ _ 46 rfl 9 9 lawK Try.underlying46 Try.underlying9 (zeroS _) b1 xs.length _ rfl HMo.out _ (kl x) rfl HKy.out gy HGx.out ?_) | (at_mapUpdate; refine wpList_mapUpdate_own _ rfl _ _ _ 48 rfl 9 4 lawK Try.underlying48 _ w2.heap.size _ _ rfl HDo.out hmx _ _ _ rfl rfl HKy.out _ [] (plainB true) ?_; intro w3 hown3 hg3; go_frame) | go_in)
            have HK1 := Lib.hid (HPUT.out w3 _ hown3 hg3)
            have HL := Lib.hid (show w3.rangeLeft b2 (rq) < wr.rangeLeft b2 (rq) by rw [HK1.out.rng.left_eq]; exact HL0.out)
            clear hown3 hg3 HPUT
            go_roundw
            case rel => exact ⟨_, _, _, _, HK1⟩
            case measure => exact HL.out
    · intro x c w4 cnt1 hwx hlx hat hrg1 hlt hg1 hs1 hen
      obtain ⟨hc, hax⟩ := HE1.out x c hat
      have HMo := Lib.hid (HK.out.snd.kept hg1 (fun e => nr2 (Option.some.inj e).symm))
      have HDo := Lib.hid (HK.out.dif.kept hg1 (fun e => nrd (Option.some.inj e).symm))
      have HGx := Lib.hid (HG2.out x)
      obtain ⟨gy, hgy⟩ : ∃ gy, getKeyS ys x = gy := ⟨_, rfl⟩
      rw [hgy] at HGx
      have hroom := HK.out.room
      have HKy := Lib.hid (keyS hwx)
      have hpx := show p x = !(eqB c gy) from by rw [← HP.out]; unfold diffB; rw [hc, hgy]
      by_cases e : gy = c
      · have hpf : p x = false := by rw [hpx, e, eqB_self]; rfl
        have hne : ∀ t, binOp .neq t (.string gy) (.string c) = pure (.bool false) := fun t => by rw [binOp_string_neq, e, beq_self_eq_true]; rfl
        have HK1 := Lib.hid (HK.out.step n12 n1d n2d nrd nr2 gr hpf hrg1 hlt hg1)
        have HL := Lib.hid (show w4.rangeLeft b1 (w2.heap.size + 1) < wr.rangeLeft b1 (w2.heap.size + 1) by rw [hrg1.left_eq, HK.out.rng.left_eq]; exact hlt)
        clear hc hax hgy hpx hpf e hrg1 hg1 hat hlx hs1 hlt
        go_wp2_with (first | (at_lookup; refine wpList_lookup_str _ rfl _ _ 46 rfl 9 9 lawK Try.underlying46 Try.underlying9 (zeroS _) b2 ys.length _ rfl HMo.out _ (kl x) rfl HKy.out gy HGx.out ?_) | go_in)
        go_roundw
        case rel => exact ⟨_, _, _, _, HK1⟩
        case measure => exact HL.out
      · have hpt : p x = true := by rw [hpx]; simp [eqB_false.2 (fun a => e a.symm)]
        have hne : ∀ t, binOp .neq t (.string gy) (.string c) = pure (.bool true) := fun t => by rw [binOp_string_neq, beq_toList_false e]; rfl
        have HPUT := Lib.hid (fun w3 d hown3 hg3 => HK.out.put (w2 := w3) (d := d) n1d n2d nrd nr2 gr gd hax hpt hrg1 hlt hg1 hown3 hg3)
        have HL0 := Lib.hid (show cnt1 < wr.rangeLeft b1 (w2.heap.size + 1) by rw [HK.out.rng.left_eq]; exact hlt)
        have hmx : m < maxLen := by unfold maxLen; omega
        clear hc hax hgy hpx hpt e hrg1 hg1 hat hlx hs1 hlt
        go_wp2_with (first | (at_lookup; refine wpList_lookup_str _ rfl _ _ 46 rfl 9 9 lawK Try.underlying46 Try.underlying9 (zeroS _) b2 ys.length _ rfl HMo.out _ (kl x) rfl HKy.out gy HGx.out ?_) | (at_mapUpdate; refine wpList_mapUpdate_own _ rfl _ _ _ 48 rfl 9 4 lawK Try.underlying48 _ w2.heap.size _ _ rfl HDo.out hmx _ _ _ rfl rfl HKy.out _ [] (plainB true) ?_; intro w3 hown3 hg3; go_frame) | go_in)
        have HK1 := Lib.hid (HPUT.out w3 _ hown3 hg3)
        have HL := Lib.hid (show w3.rangeLeft b1 (w2.heap.size + 1) < wr.rangeLeft b1 (w2.heap.size + 1) by rw [HK1.out.rng.left_eq]; exact HL0.out)
        clear hown3 hg3 HPUT
        go_roundw
        case rel => exact ⟨_, _, _, _, HK1⟩
        case measure => exact HL.out

set_option maxRecDepth 100000 in
set_option maxHeartbeats 4000000 in
theorem specDiffKeys_c (a a2 : Option Addr) (cap cap2 : Nat) (xs ys : Sto) (w : World) (hlen : xs.length ≤ 1048576) (hlen2 : ys.length ≤ 1048576) (hr : Reads w a 2 encC xs) (hr2 : Reads w a2 2 encC ys) :
    Calls Try.prog 6 #[.slice a xs.length cap, .slice a2 ys.length cap2] w (ReadsV 1 encS (keysL (xs ++ ys) (diffB xs ys)) w) := by
  have HR1 := Lib.hid hr
  have HR2 := Lib.hid hr2
  obtain ⟨p, hp⟩ : ∃ p, diffB xs ys = p := ⟨_, rfl⟩
  have HP := Lib.hid hp
  rw [hp]
  have HEND := Lib.hid (show keysUp (xs ++ ys) p (xs.length + ys.length) = keysL (xs ++ ys) p by unfold keysUp; rw [← List.length_append, List.take_length])
  have HB0 := Lib.hid (show Below w.heap.size w (w.alloc (.cells #[] 9)) from (by repeat (first | exact Below.refl _ _ | refine Below.drew ?_ | refine below_drewN ?_ _ | refine Below.allocC ?_ _ | refine Below.setCell ?_ (by first | (simp; done) | (simp; omega)) _ | refine Below.chain ?_ (by assumption))))
  have KA0 := Lib.hid (fun W x (h : Reads W a 2 encC xs) => specGetKey_c a cap xs x W (by unfold maxLen; omega) h)
  have KB0 := Lib.hid (fun W x (h : Reads W a2 2 encC ys) => specGetKey_c a2 cap2 ys x W (by unfold maxLen; omega) h)
  clear hr hr2 hp
  go_enter Try.func6, Try.ntmps6
  go_wp2
  go_loopw [5, 6] (fun v i wr => ∃ (k : Nat) (av : Option Addr) (cv : Nat), k ≤ xs.length + ys.length ∧ i = .int .i64 k ∧ v = .slice av (keysUp (xs ++ ys) p k).length cv ∧ (keysUp (xs ++ ys) p k).length ≤ cv ∧ cv ≤ maxLen ∧ Hid (Reads wr av 1 encS (keysUp (xs ++ ys) p k)) ∧ Hid (Below w.heap.size w wr)) (fun _ i _ => xs.length + ys.length - (intOf i).toNat)
  case atStart => exact ⟨0, _, _, Nat.zero_le _, rfl, rfl, Nat.zero_le _, Nat.zero_le _, Lib.hid (.inl rfl), HB0⟩
  case round =>
    obtain ⟨k, av, cv, hk, rfl, rfl, hcv, hcm, HRV, HBr⟩ := hrel
    have hkl := keysUp_len (xs ++ ys) p k
    have p1 : (0 : Int) ≤ (k : Int) := by omega
    by_cases hlt : k < xs.length + ys.length
    · have p2 : (k : Int) < (xs.length : Int) + (ys.length : Int) := by omega
      by_cases hl1 : k < xs.length
      · have p3 : (k : Int) < (xs.length : Int) := by omega
        obtain ⟨x, hx0⟩ := some_of_lt hl1
        have hx : (xs ++ ys)[k]? = some x := by rw [List.getElem?_append_left hl1]; exact hx0
        obtain ⟨b, off, hab, c0, c1⟩ := readFC HR1.out HBr.out hx0
        cases hab
        obtain ⟨x0, x1⟩ := x
        dsimp only at c0 c1
        clear hx0 c1
        have gx : ∃ b, (!(eqB (getKeyS xs x0) (getKeyS ys x0))) = b := ⟨_, rfl⟩
        obtain ⟨bb, hbb⟩ := gx
        have hpx : p x0 = bb := by rw [← HP.out]; exact hbb
        have KA := Lib.hid (fun W h => KA0.out W x0 h)
        have KB := Lib.hid (fun W h => KB0.out W x0 h)
        have KP := Lib.hid (fun W (h : Reads W av 1 encS (keysUp (xs ++ ys) p k)) => specPut_c av cv (keysUp (xs ++ ys) p k) x0 W (by omega) h hcv hcm)
        have HS := Lib.hid (keysUp_succ (p := p) hx)
        dsimp only at HS
        rw [hpx] at HS
        obtain ⟨ga, hga⟩ : ∃ g, getKeyS xs x0 = g := ⟨_, rfl⟩
        obtain ⟨gb, hgb⟩ : ∃ g, getKeyS ys x0 = g := ⟨_, rfl⟩
        rw [hga, hgb] at hbb
        rw [hga] at KA
        rw [hgb] at KB
        have hne : ∀ t, binOp .neq t (.string ga) (.string gb) = pure (.bool bb) := fun t => by rw [binOp_string_neq]; exact congrArg (fun b => pure (Value.bool b)) hbb
        have HRVb := Lib.hid (fun W (h : Below wr.heap.size wr W) => HRV.out.below h)
        have HRa := Lib.hid (fun W (h : Below wr.heap.size wr W) => (HR1.out.below (HBr.out.trans (h.mono HBr.out.size))))
        have HRb := Lib.hid (fun W (h : Below wr.heap.size wr W) => (HR2.out.below (HBr.out.trans (h.mono HBr.out.size))))
        clear hga hgb hbb hpx hx HRV
        cases bb
        · go_wp2_with fail
          refine (KA.out _ (HRa.out _ (Below.refl _ _))).mono ?_
          rintro e w1 ⟨rfl, hb1⟩
          have HBA := Lib.hid hb1
          clear hb1
          go_wp2_with fail
          refine (KB.out _ (HRb.out _ HBA.out)).mono ?_
          rintro e w2 ⟨rfl, hb2⟩
          have HBB := Lib.hid (HBA.out.trans (hb2.mono HBA.out.size))
          have HRel := Lib.hid (show Reads w2 av 1 encS (keysUp (xs ++ ys) p (k + 1)) ∧ (keysUp (xs ++ ys) p (k + 1)).length = (keysUp (xs ++ ys) p k).length by rw [HS.out]; exact ⟨HRVb.out _ HBB.out, rfl⟩)
          have HBN := Lib.hid (HBr.out.trans (HBB.out.mono HBr.out.size))
          clear hb2
          go_wp2
          go_roundw
          case rel => exact ⟨k + 1, av, cv, by omega, by go_num, by rw [HRel.out.2], by rw [HRel.out.2]; exact hcv, hcm, Lib.hid HRel.out.1, HBN⟩
          case measure => simp [intOf]; omega
        · go_wp2_with fail
          refine (KA.out _ (HRa.out _ (Below.refl _ _))).mono ?_
          rintro e w1 ⟨rfl, hb1⟩
          have HBA := Lib.hid hb1
          clear hb1
          go_wp2_with fail
          refine (KB.out _ (HRb.out _ HBA.out)).mono ?_
          rintro e w2 ⟨rfl, hb2⟩
          have HBB := Lib.hid (HBA.out.trans (hb2.mono HBA.out.size))
          clear hb2
          go_wp2_with fail
          refine (KP.out _ (HRVb.out _ HBB.out)).mono ?_
          rintro e w3 ⟨av3, cv3, rfl, hr3, hc3, hm3, hb3⟩
          have HBN := Lib.hid (HBr.out.trans ((HBB.out.trans (hb3.mono HBB.out.size)).mono HBr.out.size))
          have HRel := Lib.hid (show Reads w3 av3 1 encS (keysUp (xs ++ ys) p (k + 1)) ∧ (keysUp (xs ++ ys) p (k + 1)).length = (addS (keysUp (xs ++ ys) p k) x0).length by rw [HS.out]; exact ⟨hr3, rfl⟩)
          clear hb3 hr3
          go_wp2
          go_roundw
          case rel => exact ⟨k + 1, av3, cv3, by omega, by go_num, by rw [HRel.out.2], by rw [HRel.out.2]; exact hc3, hm3, Lib.hid HRel.out.1, HBN⟩
          case measure => simp [intOf]; omega
      · obtain ⟨j, hj⟩ : ∃ j, k = xs.length + j := ⟨k - xs.length, by omega⟩
        have hjl : j < ys.length := by omega
        have p3 : ¬ (k : Int) < (xs.length : Int) := by omega
        have p4 : (0 : Int) ≤ (j : Int) := by omega
        have p5 : (j : Int) < (ys.length : Int) := by omega
        have psub : (k : Int) - (xs.length : Int) = (j : Int) := by omega
        obtain ⟨x, hx0⟩ := some_of_lt hjl
        have hx : (xs ++ ys)[k]? = some x := by rw [hj, List.getElem?_append_right (by omega), Nat.add_sub_cancel_left]; exact hx0
        obtain ⟨b, off, hab, c0, c1⟩ := readFC HR2.out HBr.out hx0
        cases hab
        obtain ⟨x0, x1⟩ := x
        dsimp only at c0 c1
        clear hx0 c1 hj
        have gx : ∃ b, (!(eqB (getKeyS xs x0) (getKeyS ys x0))) = b := ⟨_, rfl⟩
        obtain ⟨bb, hbb⟩ := gx
        have hpx : p x0 = bb := by rw [← HP.out]; exact hbb
        have KA := Lib.hid (fun W h => KA0.out W x0 h)
        have KB := Lib.hid (fun W h => KB0.out W x0 h)
        have KP := Lib.hid (fun W (h : Reads W av 1 encS (keysUp (xs ++ ys) p k)) => specPut_c av cv (keysUp (xs ++ ys) p k) x0 W (by omega) h hcv hcm)
        have HS := Lib.hid (keysUp_succ (p := p) hx)
        dsimp only at HS
        rw [hpx] at HS
        obtain ⟨ga, hga⟩ : ∃ g, getKeyS xs x0 = g := ⟨_, rfl⟩
        obtain ⟨gb, hgb⟩ : ∃ g, getKeyS ys x0 = g := ⟨_, rfl⟩
        rw [hga, hgb] at hbb
        rw [hga] at KA
        rw [hgb] at KB
        have hne : ∀ t, binOp .neq t (.string ga) (.string gb) = pure (.bool bb) := fun t => by rw [binOp_string_neq]; exact congrArg (fun b => pure (Value.bool b)) hbb
        have HRVb := Lib.hid (fun W (h : Below wr.heap.size wr W) => HRV.out.below h)
        have HRa := Lib.hid (fun W (h : Below wr.heap.size wr W) => (HR1.out.below (HBr.out.trans (h.mono HBr.out.size))))
        have HRb := Lib.hid (fun W (h : Below wr.heap.size wr W) => (HR2.out.below (HBr.out.trans (h.mono HBr.out.size))))
        clear hga hgb hbb hpx hx HRV
        cases bb
        · go_wp2_with fail
          refine (KA.out _ (HRa.out _ (Below.refl _ _))).mono ?_
          rintro e w1 ⟨rfl, hb1⟩
          have HBA := Lib.hid hb1
          clear hb1
          go_wp2_with fail
          refine (KB.out _ (HRb.out _ HBA.out)).mono ?_
          rintro e w2 ⟨rfl, hb2⟩
          have HBB := Lib.hid (HBA.out.trans (hb2.mono HBA.out.size))
          have HRel := Lib.hid (show Reads w2 av 1 encS (keysUp (xs ++ ys) p (k + 1)) ∧ (keysUp (xs ++ ys) p (k + 1)).length = (keysUp (xs ++ ys) p k).length by rw [HS.out]; exact ⟨HRVb.out _ HBB.out, rfl⟩)
          have HBN := Lib.hid (HBr.out.trans (HBB.out.mono HBr.out.size))
          clear hb2
          go_wp2
          go_roundw
          case rel => exact ⟨k + 1, av, cv, by omega, by go_num, by rw [HRel.out.2], by rw [HRel.out.2]; exact hcv, hcm, Lib.hid HRel.out.1, HBN⟩
          case measure => simp [intOf]; omega
        · go_wp2_with fail
          refine (KA.out _ (HRa.out _ (Below.refl _ _))).mono ?_
          rintro e w1 ⟨rfl, hb1⟩
          have HBA := Lib.hid hb1
          clear hb1
          go_wp2_with fail
          refine (KB.out _ (HRb.out _ HBA.out)).mono ?_
          rintro e w2 ⟨rfl, hb2⟩
          have HBB := Lib.hid (HBA.out.trans (hb2.mono HBA.out.size))
          clear hb2
          go_wp2_with fail
          refine (KP.out _ (HRVb.out _ HBB.out)).mono ?_
          rintro e w3 ⟨av3, cv3, rfl, hr3, hc3, hm3, hb3⟩
          have HBN := Lib.hid (HBr.out.trans ((HBB.out.trans (hb3.mono HBB.out.size)).mono HBr.out.size))
          have HRel := Lib.hid (show Reads w3 av3 1 encS (keysUp (xs ++ ys) p (k + 1)) ∧ (keysUp (xs ++ ys) p (k + 1)).length = (addS (keysUp (xs ++ ys) p k) x0).length by rw [HS.out]; exact ⟨hr3, rfl⟩)
          clear hb3 hr3
          go_wp2
          go_roundw
          case rel => exact ⟨k + 1, av3, cv3, by omega, by go_num, by rw [HRel.out.2], by rw [HRel.out.2]; exact hc3, hm3, Lib.hid HRel.out.1, HBN⟩
          case measure => simp [intOf]; omega
    · obtain rfl : k = xs.length + ys.length := by omega
      have p2 : ¬ ((xs.length + ys.length : Nat) : Int) < (xs.length : Int) + (ys.length : Int) := by omega
      have HF := Lib.hid (show ReadsV 1 encS (keysL (xs ++ ys) p) w (.returned (.slice av (keysUp (xs ++ ys) p (xs.length + ys.length)).length cv)) wr from by
        rw [HEND.out] at *
        exact ⟨av, cv, rfl, HRV.out, hcv, hcm, HBr.out⟩)
      clear HRV
      go_wp2
      go_ret
      exact HF.out
end Go.Proofs.Ytedbmmoddemngaa
