/- Lemmas and contracts that the last text leans on, joined: Clone, Span, AddSpan, InsertC, Delete, Within, KeyOk. Conditions: as each theorem says. -/
import Derived.Test.YtihghflppegnmaaGreatDoorNk1
import Derived.OwnWalk
import Derived.Test.YtihghflppegnmaaGreatDoorProg
import Derived.WalkKit
import Derived.WalkSpells
import Derived.WalkLawsBesides
import Derived.Lib.Hide
import Derived.BigQuiet
import Derived.Deep.RegionLaw
set_option linter.unusedSimpArgs false
set_option linter.unusedVariables false
namespace Go.Proofs.YtihghflppegnmaaGreatDoor
open Go.RowKit
attribute [local go_sem ↓] Go.wp_at_zero Go.wp_at_succ
theorem below_of_own0 {w W w' : World} {T K n : Nat} {v : Value} {cells : List Value} (hb : Below w.heap.size w W) (ho : W.ownsRow w.heap.size T K v n cells) (hg : W.grownBy w' v.ownBlock) : Below w.heap.size w w' := by
  rcases ho.2 with ⟨rfl, _⟩ | ⟨g, cap, cur, rfl, hge, _⟩
  · exact hb.trans ⟨hg.os, hg.tape, hg.output, hg.size, fun k hk => hg.block k (Nat.lt_of_lt_of_le hk hb.size) (by simp [Value.ownBlock])⟩
  · exact hb.trans (below_of_grown hg hge hb.size)
/-- The cells of a slice that is read, one by one. -/
theorem reads_news {α : Type} {w : World} {ad : Addr} {K : Nat} {enc : α → List Value} {xs : List α} (hk : ∀ x, (enc x).length = K) (hK : 0 < K) (h : Reads w (some ad) K enc xs) : ∀ j u, (xs.flatMap enc)[j]? = some u → w.cell? (ad.add j) = some u := by
  intro j u hu
  rcases h with rfl | ⟨b, off, e, _, h3⟩
  · simp at hu
  · cases e
    have hj : j < xs.length * K := by
      have := (List.getElem?_eq_some_iff.1 hu).1
      rwa [length_flatMap_const hk] at this
    have hi : j / K < xs.length := (Nat.div_lt_iff_lt_mul hK).2 hj
    obtain ⟨x, hx⟩ := some_of_lt hi
    have hr : j % K < K := Nat.mod_lt _ hK
    have hd : j / K * K + j % K = j := by rw [Nat.mul_comm]; exact Nat.div_add_mod j K
    have h4 := getElem_flatMap hk xs (j / K) (j % K) x hx hr
    rw [hd, hu] at h4
    have h5 := h3 (j / K) x hx (j % K) u h4.symm
    rw [hd] at h5
    rw [add_none]
    exact h5

set_option maxRecDepth 100000 in
set_option maxHeartbeats 2000000 in
theorem cloneC_c (a : Option Addr) (cap : Nat) (xs : List (ByteArray × ByteArray)) (w : World) (hlen : xs.length ≤ 2100000000000) (hr : Reads w a 2 encC xs) :
    Calls Tryz.prog 95 #[.slice a xs.length cap] w (Fresh 99 2 (xs.flatMap encC) xs.length w) := by
  obtain ⟨i0, hi, hzz⟩ := Option.map_eq_some_iff.1 infoCell
  simp only [Prod.mk.injEq] at hzz
  have HI := Lib.hid hi
  have HZ := Lib.hid hzz
  clear hi hzz
  cases a with
  | none =>
    have hz : xs.length = 0 := by
      rcases hr with rfl | ⟨b, off, e, _⟩
      · rfl
      · cases e
    have hx : xs = [] := List.eq_nil_of_length_eq_zero hz
    subst hx
    have he : ∀ W : World, (binOp .eql 26 (.slice none 0 cap) (.slice none 0 0)).run Tryz.prog W = .ok (.bool true) W := fun _ => rfl
    clear hr hlen hz
    go_enter Tryz.func95, Tryz.ntmps95
    go_wp2
    go_ret
    exact ⟨_, rfl, ⟨rfl, .inl ⟨rfl, rfl⟩⟩, Below.refl _ _⟩
  | some ad =>
    have HN := Lib.hid (reads_news encC_len (by decide) (hr.below (show Below w.heap.size w (w.alloc (.cells #[] 99)) from (by repeat (first | exact Below.refl _ _ | refine Below.drew ?_ | refine below_drewN ?_ _ | refine Below.allocC ?_ _ | refine Below.setCell ?_ (by first | (simp; done) | (simp; omega)) _ | refine Below.chain ?_ (by assumption))))))
    have HO := Lib.hid (show (w.alloc (.cells #[] 99)).ownsRow w.heap.size 99 2 (.slice (some ⟨w.heap.size, 0, none⟩) 0 0) 0 [] from ⟨rfl, .inr ⟨w.heap.size, 0, #[], rfl, Nat.le_refl _, heap_alloc_new w _, Nat.le_refl _, Nat.zero_le _, rfl, rfl⟩⟩)
    have he : ∀ W : World, (binOp .eql 26 (.slice (some ad) xs.length cap) (.slice none 0 0)).run Tryz.prog W = .ok (.bool false) W := fun _ => rfl
    clear hr
    go_enter Tryz.func95, Tryz.ntmps95
    go_wp2_with (at_builtin; refine wpList_append_own _ rfl _ _ 26 rfl w.heap.size 99 i0 (.agg #[.string ⟨#[]⟩, .string ⟨#[]⟩]) 2 32 Tryz.underlying26 HI.out HZ.out.1 HZ.out.2.1 HZ.out.2.2 rfl (by decide) _ _ _ rfl HO.out ad xs.length cap (xs.flatMap encC) rfl (length_flatMap_const encC_len xs) HN.out ?c2 ?c3 ?c4 ?c5 ?_)
    case c2 =>
      intro u hu
      obtain ⟨x, _, hx⟩ := List.mem_flatMap.1 hu
      simp [encC] at hx
      first | (subst hx; rfl) | (rcases hx with rfl | rfl <;> rfl)
    case c3 => unfold maxLen; omega
    case c4 => omega
    case c5 => simp
    intro v' w' hown' hgrow _
    have HB2 := Lib.hid (below_of_own0 (show Below w.heap.size w _ from (by repeat (first | exact Below.refl _ _ | refine Below.drew ?_ | refine below_drewN ?_ _ | refine Below.allocC ?_ _ | refine Below.setCell ?_ (by first | (simp; done) | (simp; omega)) _ | refine Below.chain ?_ (by assumption)))) HO.out hgrow)
    have HW2 := Lib.hid hown'
    clear hown' hgrow
    go_wp2
    go_ret
    refine ⟨_, rfl, ?_, HB2.out⟩
    have := HW2.out
    simpa using this

end Go.Proofs.YtihghflppegnmaaGreatDoor
namespace Go.Proofs.YtihghflppegnmaaGreatDoor
open Go.RowKit
/-- s begins with p. -/
def beginsB (s p : ByteArray) : Bool := decide (p.size ≤ s.size) && ((s.extract 0 p.size).toList == p.toList)
/-- A span ends with a star. -/
def starB (s : ByteArray) : Bool := decide (0 < s.size) && ((s.extract (s.size - 1) s.size).toList == [42])
def openBody (s : ByteArray) : ByteArray := if starB s then s.extract 0 (s.size - 1) else s
def spanHasB (span key : ByteArray) : Bool := if starB span then beginsB key (openBody span) else span.toList == key.toList
def meetB (a b : ByteArray) : Bool :=
  if starB a then (if starB b then beginsB (openBody a) (openBody b) || beginsB (openBody b) (openBody a) else beginsB b (openBody a)) else spanHasB b a
theorem begins_no {s p : ByteArray} (h : s.size < p.size) : beginsB s p = false := by simp [beginsB]; omega
theorem begins_is {s p : ByteArray} (h : p.size ≤ s.size) : beginsB s p = ((s.extract 0 p.size).toList == p.toList) := by simp [beginsB, h]
theorem openBody_size (s : ByteArray) : (openBody s).size ≤ s.size := by
  unfold openBody; split
  · simp [ByteArray.size_extract]
  · exact Nat.le_refl _
theorem openBody_le {s : ByteArray} (h : s.size ≤ maxLen) : (openBody s).size ≤ maxLen := Nat.le_trans (openBody_size s) h

set_option maxHeartbeats 800000 in
theorem begins_c (s p : ByteArray) (w : World) (hs : s.size ≤ maxLen) (hp : p.size ≤ maxLen) :
    Calls Tryz.prog 241 #[.string s, .string p] w fun e w' => e = .returned (.bool (beginsB s p)) ∧ w = w' := by
  unfold maxLen at hs hp
  by_cases h : p.size ≤ s.size
  · have HB := Lib.hid (begins_is h)
    have h' : (p.size : Int) ≤ (s.size : Int) := by omega
    generalize hx : ((s.extract 0 p.size).toList == p.toList) = r at *
    cases r
    · go_enter Tryz.func241, Tryz.ntmps241
      go_wp2
      go_ret
      exact ⟨by rw [HB.out]; rfl, rfl⟩
    · go_enter Tryz.func241, Tryz.ntmps241
      go_wp2
      go_ret
      exact ⟨by rw [HB.out]; rfl, rfl⟩
  · have HB := Lib.hid (begins_no (s := s) (p := p) (by omega))
    have h' : ¬ (p.size : Int) ≤ (s.size : Int) := by omega
    go_enter Tryz.func241, Tryz.ntmps241
    go_wp2
    go_ret
    exact ⟨by rw [HB.out]; rfl, rfl⟩

set_option maxHeartbeats 800000 in
theorem hasPrefix_c (s p : ByteArray) (w : World) (hs : s.size ≤ maxLen) (hp : p.size ≤ maxLen) :
    Calls Tryz.prog 233 #[.string s, .string p] w fun e w' => e = .returned (.bool (beginsB s p)) ∧ w = w' := by
  unfold maxLen at hs hp
  by_cases h : p.size ≤ s.size
  · have HB := Lib.hid (begins_is h)
    have h' : (p.size : Int) ≤ (s.size : Int) := by omega
    generalize hx : ((s.extract 0 p.size).toList == p.toList) = r at *
    cases r
    · go_enter Tryz.func233, Tryz.ntmps233
      go_wp2
      go_ret
      exact ⟨by rw [HB.out]; rfl, rfl⟩
    · go_enter Tryz.func233, Tryz.ntmps233
      go_wp2
      go_ret
      exact ⟨by rw [HB.out]; rfl, rfl⟩
  · have HB := Lib.hid (begins_no (s := s) (p := p) (by omega))
    have h' : ¬ (p.size : Int) ≤ (s.size : Int) := by omega
    go_enter Tryz.func233, Tryz.ntmps233
    go_wp2
    go_ret
    exact ⟨by rw [HB.out]; rfl, rfl⟩

theorem star_empty {s : ByteArray} (h : s.size = 0) : starB s = false := by simp [starB, h]
theorem extract_last (s : ByteArray) (m : Nat) (h : m < s.size) : (s.extract m (m + 1)).toList = [s[m]] := by
  rw [Lib.toList_data, Lib.extract_data]
  have hl : m < s.data.toList.length := by simpa using h
  rw [show m + 1 - m = 1 by omega, List.take_one, List.head?_drop, List.getElem?_eq_getElem hl]
  rfl
theorem star_byte {s : ByteArray} {m : Nat} (h : s.size = m + 1) : starB s = (((s[m]'(by omega)).toNat : Int) == 42) := by
  have e : s.extract (s.size - 1) s.size = s.extract m (m + 1) := by rw [show s.size - 1 = m by omega, h]
  have hp : 0 < s.size := by omega
  unfold starB
  rw [e, extract_last s m (by omega), Bool.eq_iff_iff]
  simp [hp, ← UInt8.toNat_inj]
  omega
theorem openBody_yes {s : ByteArray} (h : starB s = true) : openBody s = s.extract 0 (s.size - 1) := by simp [openBody, h]
theorem openBody_no {s : ByteArray} (h : starB s = false) : openBody s = s := by simp [openBody, h]

set_option maxHeartbeats 800000 in
theorem cutStar_c (s : ByteArray) (w : World) (hs : s.size ≤ maxLen) :
    Calls Tryz.prog 170 #[.string s, .string ⟨#[42]⟩] w fun e w' => e = .returned (.tuple #[.string (openBody s), .bool (starB s)]) ∧ w = w' := by
  unfold maxLen at hs
  by_cases h0 : s.size = 0
  · have HS := Lib.hid (star_empty h0)
    have HO := Lib.hid (openBody_no (star_empty h0))
    have hz : (s.size : Int) < 1 := by omega
    have hd : decide ((1 : Int) ≤ (s.size : Int)) = false := by simp; omega
    clear h0
    go_enter Tryz.func170, Tryz.ntmps170
    go_wp2
    go_ret2
    exact ⟨by rw [HS.out, HO.out]; rfl, rfl⟩
  · have hp : (1 : Int) ≤ (s.size : Int) := by omega
    have hp' : 1 ≤ s.size := by omega
    cases hx : ((s.extract (s.size - 1) s.size).toList == [42])
    · have hst : starB s = false := by unfold starB; rw [hx]; simp
      have HS := Lib.hid hst
      have HO := Lib.hid (openBody_no hst)
      clear h0 hst
      go_enter Tryz.func170, Tryz.ntmps170
      go_wp2
      go_ret2
      exact ⟨by rw [HS.out, HO.out]; rfl, rfl⟩
    · have hst : starB s = true := by unfold starB; rw [hx]; simp; omega
      have HS := Lib.hid hst
      have HO := Lib.hid (openBody_yes hst)
      clear h0 hst
      go_enter Tryz.func170, Tryz.ntmps170
      go_wp2
      go_ret2
      exact ⟨by rw [HS.out, HO.out]; rfl, rfl⟩

theorem spanHas_yes {s k : ByteArray} (h : starB s = true) : spanHasB s k = beginsB k (openBody s) := by simp [spanHasB, h]
theorem spanHas_no {s k : ByteArray} (h : starB s = false) : spanHasB s k = (s.toList == k.toList) := by simp [spanHasB, h]

end Go.Proofs.YtihghflppegnmaaGreatDoor
namespace Go.Proofs.YtihghflppegnmaaGreatDoor
open Go.RowKit
attribute [local go_sem ↓] Go.wp_at_zero Go.wp_at_succ
theorem news_one {W : World} {b : Nat} {x : Value} (hc : W.cell? ⟨b, 0, none⟩ = some x) : ∀ j u, [x][j]? = some u → W.cell? ((⟨b, 0, none⟩ : Addr).add j) = some u := by
  intro j u hj
  match j, hj with
  | 0, hj => simp at hj; subst hj; simpa [Addr.add] using hc
theorem addSpanFn_c (x : ByteArray) (B : Nat) (W : World) (hc : W.cell? ⟨B, 0, none⟩ = some (.string x)) (y : ByteArray) :
    Calls Tryz.prog 225 #[.string y, .pointer (some ⟨B, 0, none⟩)] W fun e w' => e = .returned (.bool (geP x y)) ∧ Below W.heap.size W w' := by
  have hBW : B < W.heap.size := World.block_lt_of_cell? W _ hc
  have hne : B ≠ W.heap.size := by omega
  have HG := Lib.hid (show geP x y = !(Op.bytesLess y.toList x.toList) from rfl)
  cases hq : Op.bytesLess y.toList x.toList
  all_goals
    go_enter Tryz.func225, Tryz.ntmps225
    go_wp2
    go_ret
    exact ⟨by rw [HG.out, hq]; rfl, (by repeat (first | exact Below.refl _ _ | refine Below.drew ?_ | refine below_drewN ?_ _ | refine Below.allocC ?_ _ | refine Below.setCell ?_ (by first | (simp; done) | (simp; omega)) _ | refine Below.chain ?_ (by assumption)))⟩

set_option maxRecDepth 100000 in
set_option maxHeartbeats 4000000 in
theorem addSpan_c (v : Value) (base : Nat) (xs : List ByteArray) (x : ByteArray) (w : World) (hlen : xs.length ≤ 2150000000000) (ho : w.ownsRow base 9 1 v xs.length (xs.flatMap encS)) (hbase : base ≤ w.heap.size) :
    Calls Tryz.prog 201 #[v, .string x] w (OwnStep 9 1 base v (addS xs x).length ((addS xs x).flatMap encS) w) := by
  obtain ⟨i0, hinf, hzz⟩ := Option.map_eq_some_iff.1 infoString
  simp only [Prod.mk.injEq] at hzz
  have HI := Lib.hid hinf
  have HZ := Lib.hid hzz
  clear hinf hzz
  obtain ⟨a, cap, rfl, hr⟩ := reads_of_owns encS_len ho
  have HLT := Lib.hid ho.lt
  have HO := Lib.hid ho
  have HR := Lib.hid hr
  have HK := Lib.hid (fun (W : World) (hW : Below w.heap.size w W) (hc : W.cell? ⟨w.heap.size, 0, none⟩ = some (.string x)) => indexFuncS_c a cap xs (geP x) 225 #[.pointer (some ⟨w.heap.size, 0, none⟩)] (fun args w => enters_of Tryz.func225 (by kernel_rfl) rfl args w) W
    (fun W' y _ hb => addSpanFn_c x w.heap.size W' (keepS hb hc) y) (by unfold maxLen; omega) (hr.below hW))
  clear ho hr
  obtain ⟨TT, hTT⟩ : ∃ TT, TT = addS xs x := ⟨_, rfl⟩
  have HT := Lib.hid hTT
  rw [← hTT]
  clear hTT
  rcases Nat.lt_or_ge (xs.findIdx (geP x)) xs.length with hlt | hge
  · obtain ⟨y, hy⟩ := some_of_lt hlt
    have HF := Lib.hid (show xs.findIdx (geP x) = xs.findIdx (geP x) from rfl)
    have HI2 := Lib.hid (idxI_lt hlt)
    obtain ⟨k, hk⟩ : ∃ k, xs.findIdx (geP x) = k := ⟨_, rfl⟩
    have HKK := Lib.hid hk
    rw [hk] at hlt hy HI2
    have HY := Lib.hid hy
    have p1 : (0 : Int) ≤ (k : Int) := by omega
    have p2 : (k : Int) < (xs.length : Int) := by omega
    clear hk hy HF
    cases hq : eqB y x with
    | true =>
      have q : (y.toList == x.toList) = true := hq
      have HE := Lib.hid (HT.out.trans (addS_here HKK.out HY.out hq))
      clear hq
      go_enter Tryz.func201, Tryz.ntmps201
      go_wp2_with fail
      refine (HK.out _ (by repeat (first | exact Below.refl _ _ | refine Below.drew ?_ | refine below_drewN ?_ _ | refine Below.allocC ?_ _ | refine Below.setCell ?_ (by first | (simp; done) | (simp; omega)) _ | refine Below.chain ?_ (by assumption))) (by simp)).mono ?_
      rintro e w1 ⟨rfl, hb1⟩
      rw [HKK.out, HI2.out]
      have B1 : Below w.heap.size w w1 := (by repeat (first | exact Below.refl _ _ | refine Below.drew ?_ | refine below_drewN ?_ _ | refine Below.allocC ?_ _ | refine Below.setCell ?_ (by first | (simp; done) | (simp; omega)) _ | refine Below.chain ?_ (by assumption)))
      obtain ⟨b, off, rfl, c0⟩ := readFS HR.out B1 HY.out
      have c1 : w1.cell? ⟨w.heap.size, 0, none⟩ = some (.string x) := keepS hb1 (by simp)
      go_wp2_with fail
      go_quiet (fail)
      go_wp2
      go_ret
      rw [HE.out]
      exact OwnStep.stay HO.out (by repeat (first | exact Below.refl _ _ | refine Below.drew ?_ | refine below_drewN ?_ _ | refine Below.allocC ?_ _ | refine Below.setCell ?_ (by first | (simp; done) | (simp; omega)) _ | refine Below.chain ?_ (by assumption)))
    | false =>
      have q : (y.toList == x.toList) = false := hq
      have HE := Lib.hid (HT.out.trans (addS_in HKK.out HY.out hq))
      clear hq
      go_enter Tryz.func201, Tryz.ntmps201
      go_wp2_with fail
      refine (HK.out _ (by repeat (first | exact Below.refl _ _ | refine Below.drew ?_ | refine below_drewN ?_ _ | refine Below.allocC ?_ _ | refine Below.setCell ?_ (by first | (simp; done) | (simp; omega)) _ | refine Below.chain ?_ (by assumption))) (by simp)).mono ?_
      rintro e w1 ⟨rfl, hb1⟩
      rw [HKK.out, HI2.out]
      have B1 : Below w.heap.size w w1 := (by repeat (first | exact Below.refl _ _ | refine Below.drew ?_ | refine below_drewN ?_ _ | refine Below.allocC ?_ _ | refine Below.setCell ?_ (by first | (simp; done) | (simp; omega)) _ | refine Below.chain ?_ (by assumption)))
      obtain ⟨b, off, rfl, c0⟩ := readFS HR.out B1 HY.out
      have c1 : w1.cell? ⟨w.heap.size, 0, none⟩ = some (.string x) := keepS hb1 (by simp)
      go_wp2_with fail
      go_quiet (fail)
      go_wp2_with fail
      refine (insertS_c _ base k xs x _ _ (by omega) (ownsRow_below HO.out (by repeat (first | exact Below.refl _ _ | refine Below.drew ?_ | refine below_drewN ?_ _ | refine Below.allocC ?_ _ | refine Below.setCell ?_ (by first | (simp; done) | (simp; omega)) _ | refine Below.chain ?_ (by assumption)))) (by omega) (Box.new _ [.string x] _) (fun j hj => ?_) ?_).mono ?_
      · have := (HLT.out j hj).2; have := B1.size; simp; omega
      · have := B1.size; simp; omega
      intro e w' hs
      have HS := Lib.hid (hs.after (w := w) (by repeat (first | exact Below.refl _ _ | refine Below.drew ?_ | refine below_drewN ?_ _ | refine Below.allocC ?_ _ | refine Below.setCell ?_ (by first | (simp; done) | (simp; omega)) _ | refine Below.chain ?_ (by assumption))))
      clear hs
      obtain ⟨v', rfl, h1, h2, h3⟩ := HS.out
      have H2 := Lib.hid (show OwnStep 9 1 base _ TT.length (TT.flatMap encS) w (.returned v') w' from ⟨v', rfl, by
        have hl : TT.length = xs.length + 1 := by rw [HE.out]; simp; omega
        rw [hl, HE.out]; exact h1, h2, h3⟩)
      clear h1 h2 h3 HS
      go_wp2
      go_ret
      exact H2.out
  · have HI2 := Lib.hid (idxI_ge hge)
    have HE := Lib.hid (HT.out.trans (addS_end (Nat.le_antisymm (List.findIdx_le_length) hge)))
    clear hge
    go_enter Tryz.func201, Tryz.ntmps201
    go_wp2_with fail
    refine (HK.out _ (by repeat (first | exact Below.refl _ _ | refine Below.drew ?_ | refine below_drewN ?_ _ | refine Below.allocC ?_ _ | refine Below.setCell ?_ (by first | (simp; done) | (simp; omega)) _ | refine Below.chain ?_ (by assumption))) (by simp)).mono ?_
    rintro e w1 ⟨rfl, hb1⟩
    rw [HI2.out]
    have B1 : Below w.heap.size w w1 := (by repeat (first | exact Below.refl _ _ | refine Below.drew ?_ | refine below_drewN ?_ _ | refine Below.allocC ?_ _ | refine Below.setCell ?_ (by first | (simp; done) | (simp; omega)) _ | refine Below.chain ?_ (by assumption)))
    have c1 : w1.cell? ⟨w.heap.size, 0, none⟩ = some (.string x) := keepS hb1 (by simp)
    go_wp2_with (at_builtin; refine wpList_append_own2 _ rfl _ _ 29 rfl base 9 i0 (.string ⟨#[]⟩) 1 16 Tryz.underlying29 HI.out HZ.out.1 HZ.out.2.1 HZ.out.2.2 rfl (by decide) _ _ _ rfl (ownsRow_below HO.out (by repeat (first | exact Below.refl _ _ | refine Below.drew ?_ | refine below_drewN ?_ _ | refine Below.allocC ?_ _ | refine Below.setCell ?_ (by first | (simp; done) | (simp; omega)) _ | refine Below.chain ?_ (by assumption)))) ⟨w1.heap.size, 0, none⟩ 1 1 [.string x] rfl rfl ?d0 ?d1 ?d2 ?d3 ?d4 ?_)
    case d0 =>
      intro j u hj
      match j, hj with
      | 0, hj => simp at hj; subst hj; simp [Addr.add]
    case d1 => intro u hu; simp at hu; subst hu; rfl
    case d2 => unfold maxLen; omega
    case d3 => omega
    case d4 => have := B1.size; simp; omega
    intro v' w' hown hgrow hor
    have H2 := Lib.hid (show OwnStep 9 1 base _ TT.length (TT.flatMap encS) w (.returned v') w' from OwnStep.after (W := w1.alloc (.cells #[.string x] 9)) (by repeat (first | exact Below.refl _ _ | refine Below.drew ?_ | refine below_drewN ?_ _ | refine Below.allocC ?_ _ | refine Below.setCell ?_ (by first | (simp; done) | (simp; omega)) _ | refine Below.chain ?_ (by assumption))) ⟨v', rfl, by rw [HE.out, List.length_append, List.flatMap_append]; exact hown, hgrow, hor⟩)
    clear hown hgrow hor
    go_wp2
    go_ret
    exact H2.out

/-- A slice that reads as xs, and has room for itself. -/
def ReadsV {α : Type} (K : Nat) (enc : α → List Value) (xs : List α) (w : World) (e : Ending) (w' : World) : Prop :=
  ∃ a cap, e = .returned (.slice a xs.length cap) ∧ Reads w' a K enc xs ∧ xs.length ≤ cap ∧ cap ≤ maxLen ∧ Below w.heap.size w w'
theorem ReadsV.fresh {α : Type} {T K : Nat} {enc : α → List Value} {xs : List α} {w w' : World} {e : Ending} (hk : ∀ x, (enc x).length = K) (h : Fresh T K (xs.flatMap enc) xs.length w e w') : ReadsV K enc xs w e w' := by
  obtain ⟨v, rfl, h1, h2⟩ := h
  obtain ⟨a, cap, rfl, h3, h4, h5⟩ := reads_of_owns' hk h1
  exact ⟨a, cap, rfl, h3, h4, h5, h2⟩
theorem Reads.dropA {α : Type} {enc : α → List Value} {w : World} {a : Option Addr} {K k cap : Nat} {xs : List α} (h : Reads w a K enc xs) (hk : k < xs.length) : ∃ b off, a = some ⟨b, off, none⟩ ∧ Reads w (some ⟨b, off + k * K, none⟩) K enc (xs.drop k) := by
  rcases h with rfl | ⟨b, off, e, h2, h3⟩
  · simp at hk
  · refine ⟨b, off, e, .inr ⟨b, off + k * K, rfl, h2, fun i x hx j v hv => ?_⟩⟩
    rw [List.getElem?_drop] at hx
    have := h3 (k + i) x hx j v hv
    rwa [show off + ((k + i) * K + j) = off + k * K + (i * K + j) by rw [Nat.add_mul]; omega] at this

set_option maxRecDepth 100000 in
set_option maxHeartbeats 4000000 in
theorem specPut_c (a : Option Addr) (cap : Nat) (xs : List ByteArray) (x : ByteArray) (w : World) (hlen : xs.length ≤ 2150000000000) (hr : Reads w a 1 encS xs) (hcap : xs.length ≤ cap) (hcm : cap ≤ maxLen) :
    Calls Tryz.prog 223 #[.slice a xs.length cap, .string x] w (ReadsV 1 encS (addS xs x) w) := by
  obtain ⟨i0, hinf, hzz⟩ := Option.map_eq_some_iff.1 infoString
  simp only [Prod.mk.injEq] at hzz
  have HI := Lib.hid hinf
  have HZ := Lib.hid hzz
  have HR := Lib.hid hr
  have HCM := Lib.hid hcm
  unfold maxLen at hcm
  obtain ⟨TT, hTT⟩ : ∃ TT, TT = addS xs x := ⟨_, rfl⟩
  have HT := Lib.hid hTT
  rw [← hTT]
  clear hTT hinf hzz hr
  go_enter Tryz.func223, Tryz.ntmps223
  go_wp2
  go_loop [5] (fun i => ∃ k : Nat, k ≤ xs.length ∧ i = .int .i64 k ∧ Hid (noneUp (geP x) xs k)) (fun i => xs.length - (intOf i).toNat)
  case atStart => exact ⟨0, Nat.zero_le _, rfl, Lib.hid (noneUp_zero _ _)⟩
  case round =>
    obtain ⟨k, hk, rfl, HU⟩ := hrel
    have p1 : (0 : Int) ≤ (k : Int) := by omega
    rcases Nat.lt_or_ge k xs.length with hlt | hge
    · obtain ⟨y, hy⟩ := some_of_lt hlt
      have p2 : (k : Int) < (xs.length : Int) := by omega
      have HY := Lib.hid hy
      obtain ⟨b, off, hab, c0⟩ := readFS HR.out (Below.refl _ _) hy
      clear hy
      cases hq : Op.bytesLess y.toList x.toList with
      | true =>
        have hs := Lib.hid (noneUp_succ HU.out HY.out (show geP x y = false by simp [geP, ltB, hq]))
        subst hab
        go_wp2
        go_round
        case rel => exact ⟨k + 1, by omega, by go_num, hs⟩
        case measure => simp [intOf]; omega
      | false =>
        have HK := Lib.hid (find_hit HU.out HY.out (show geP x y = true by simp [geP, ltB, hq]))
        cases he : eqB y x with
        | true =>
          have q : (y.toList == x.toList) = true := he
          have HE := Lib.hid (HT.out.trans (addS_here HK.out HY.out he))
          clear he
          have HR2 := HR
          subst hab
          go_wp2
          go_ret
          rw [HE.out]
          exact ⟨_, _, rfl, HR2.out, hcap, HCM.out, Below.refl _ _⟩
        | false =>
          have q : (y.toList == x.toList) = false := he
          have HE := Lib.hid (HT.out.trans (addS_in HK.out HY.out he))
          clear he
          obtain ⟨b', off', hab', hd⟩ := HR.out.dropA (cap := cap) hlt
          rw [hab] at hab'
          cases hab'
          have HD := Lib.hid hd
          have HTk := Lib.hid (HR.out.take k)
          have HTl := Lib.hid (show (xs.take k).length = k from by rw [List.length_take]; omega)
          have HDl := Lib.hid (show (xs.drop k).length = xs.length - k from by rw [List.length_drop])
          have hck : ¬ (cap = k) := by omega
          clear hd
          subst hab
          go_wp2_with (at_builtin; refine wpList_append_reads _ rfl _ _ 29 rfl w.heap.size 9 i0 (.string ⟨#[]⟩) 1 16 Tryz.underlying29 HI.out HZ.out.1 HZ.out.2.1 HZ.out.2.2 rfl (by decide) encS_len encS_one _ 0 [] rfl ⟨rfl, .inr ⟨w.heap.size, 0, #[], rfl, Nat.le_refl _, heap_alloc_new w _, Nat.le_refl _, Nat.zero_le _, rfl, rfl⟩⟩ (some ⟨b, off, none⟩) k cap (xs.take k) rfl HTl.out.symm (HTk.out.below (by repeat (first | exact Below.refl _ _ | refine Below.drew ?_ | refine below_drewN ?_ _ | refine Below.allocC ?_ _ | refine Below.setCell ?_ (by first | (simp; done) | (simp; omega)) _ | refine Below.chain ?_ (by assumption)))) (by rw [HTl.out]; unfold maxLen; omega) (by rw [HTl.out]; omega) (by simp) ?_)
          intro v1 w1 o1 g1 or1
          have B1 : Below w.heap.size w w1 := by
            refine Below.trans (show Below w.heap.size w (w.alloc (.cells #[] 9)) from (by repeat (first | exact Below.refl _ _ | refine Below.drew ?_ | refine below_drewN ?_ _ | refine Below.allocC ?_ _ | refine Below.setCell ?_ (by first | (simp; done) | (simp; omega)) _ | refine Below.chain ?_ (by assumption)))) (below_of_grown g1 (Nat.le_refl _) (by simp))
          have HO1 := Lib.hid (show w1.ownsRow w.heap.size 9 1 v1 k ((xs.take k).flatMap encS) from by first | exact o1 | simpa [HTl.out] using o1)
          clear o1 g1 or1
          go_wp2_with (at_builtin; refine wpList_append_own2 _ rfl _ _ 29 rfl w.heap.size 9 i0 (.string ⟨#[]⟩) 1 16 Tryz.underlying29 HI.out HZ.out.1 HZ.out.2.1 HZ.out.2.2 rfl (by decide) _ _ _ rfl (HO1.out.alloc _) ⟨w1.heap.size, 0, none⟩ 1 1 [.string x] rfl rfl ?e0 ?e1 ?e2 ?e3 ?e4 ?_)
          case e0 =>
            intro j u hj
            match j, hj with
            | 0, hj => simp at hj; subst hj; simp [Addr.add]
          case e1 => intro u hu; simp at hu; subst hu; rfl
          case e2 => unfold maxLen; omega
          case e3 => omega
          case e4 => have := B1.size; simp; omega
          intro v2 w2 o2 g2 or2
          have B2 : Below w.heap.size w w2 := by
            have h := OwnStep.fresh (w := w) (W := w1.alloc (.cells #[.string x] 9)) (e := .returned v2) (w' := w2) (by repeat (first | exact Below.refl _ _ | refine Below.drew ?_ | refine below_drewN ?_ _ | refine Below.allocC ?_ _ | refine Below.setCell ?_ (by first | (simp; done) | (simp; omega)) _ | refine Below.chain ?_ (by assumption))) (HO1.out.alloc _) ⟨v2, rfl, o2, g2, or2⟩
            obtain ⟨_, _, _, h⟩ := h
            exact h
          have HO2 := Lib.hid o2
          clear o2 g2 or2
          go_wp2_with (at_builtin; refine wpList_append_reads _ rfl _ _ 29 rfl w.heap.size 9 i0 (.string ⟨#[]⟩) 1 16 Tryz.underlying29 HI.out HZ.out.1 HZ.out.2.1 HZ.out.2.2 rfl (by decide) encS_len encS_one _ _ _ rfl HO2.out (some ⟨b, off + k, none⟩) (xs.length - k) (cap - k) (xs.drop k) rfl HDl.out.symm (show Reads w2 _ _ _ _ by have := HD.out.below B2; rwa [Nat.mul_one] at this) (by rw [HDl.out]; unfold maxLen; omega) (by rw [HDl.out]; omega) B2.size ?_)
          intro v3 w3 o3 g3 or3
          have h := OwnStep.fresh (w := w) (e := .returned v3) (w' := w3) B2 HO2.out ⟨v3, rfl, o3, g3, or3⟩
          have H2 := Lib.hid (show ReadsV 1 encS TT w (.returned v3) w3 from ReadsV.fresh encS_len (T := 9) (by
            have hl : TT.length = k + 1 + (xs.length - k) := by rw [HE.out, List.length_append, List.length_cons, HTl.out, HDl.out]; omega
            have hf : TT.flatMap encS = (xs.take k).flatMap encS ++ Value.string x :: (xs.drop k).flatMap encS := by rw [HE.out]; simp [List.flatMap_append, encS]
            rw [hl, hf]
            first | exact h | simpa using h))
          clear h o3 g3 or3
          go_wp2
          go_ret
          exact H2.out
    · obtain rfl : k = xs.length := by omega
      have HE := Lib.hid (HT.out.trans (addS_end (find_miss HU.out (Nat.le_refl _))))
      have p2 : ¬ (xs.length : Int) < (xs.length : Int) := by omega
      clear HU
      cases a with
      | none =>
        have hz : xs.length = 0 := by
          rcases HR.out with h | ⟨_, _, h, _⟩
          · rw [h]; rfl
          · cases h
        have hx : xs = [] := List.eq_nil_of_length_eq_zero hz
        subst hx
        go_wp2_with (at_builtin; refine wpList_append_reads _ rfl _ _ 29 rfl w.heap.size 9 i0 (.string ⟨#[]⟩) 1 16 Tryz.underlying29 HI.out HZ.out.1 HZ.out.2.1 HZ.out.2.2 rfl (by decide) encS_len encS_one _ 0 [] rfl ⟨rfl, .inr ⟨w.heap.size, 0, #[], rfl, Nat.le_refl _, heap_alloc_new w _, Nat.le_refl _, Nat.zero_le _, rfl, rfl⟩⟩ _ _ _ [] rfl (by simp) (.inl rfl) (by simp) (by simp) (by simp) ?_)
        intro v1 w1 o1 g1 or1
        have B1 : Below w.heap.size w w1 := by
          refine Below.trans (show Below w.heap.size w (w.alloc (.cells #[] 9)) from (by repeat (first | exact Below.refl _ _ | refine Below.drew ?_ | refine below_drewN ?_ _ | refine Below.allocC ?_ _ | refine Below.setCell ?_ (by first | (simp; done) | (simp; omega)) _ | refine Below.chain ?_ (by assumption)))) (below_of_grown g1 (Nat.le_refl _) (by simp))
        have HO1 := Lib.hid (show w1.ownsRow w.heap.size 9 1 v1 ([] : List ByteArray).length (([] : List ByteArray).flatMap encS) from by first | exact o1 | simpa using o1)
        clear o1 g1 or1
        go_wp2_with (at_builtin; refine wpList_append_own2 _ rfl _ _ 29 rfl w.heap.size 9 i0 (.string ⟨#[]⟩) 1 16 Tryz.underlying29 HI.out HZ.out.1 HZ.out.2.1 HZ.out.2.2 rfl (by decide) _ _ _ rfl (HO1.out.alloc _) ⟨w1.heap.size, 0, none⟩ 1 1 [.string x] rfl rfl (news_one (by simp)) (by intro u hu; simp at hu; subst hu; rfl) (by unfold maxLen; omega) (by omega) (by have := B1.size; simp; omega) ?_)
        intro v2 w2 o2 g2 or2
        have B2 : Below w.heap.size w w2 := by
          have h := OwnStep.fresh (w := w) (W := w1.alloc (.cells #[.string x] 9)) (e := .returned v2) (w' := w2) (by repeat (first | exact Below.refl _ _ | refine Below.drew ?_ | refine below_drewN ?_ _ | refine Below.allocC ?_ _ | refine Below.setCell ?_ (by first | (simp; done) | (simp; omega)) _ | refine Below.chain ?_ (by assumption))) (HO1.out.alloc _) ⟨v2, rfl, o2, g2, or2⟩
          obtain ⟨_, _, _, h⟩ := h
          exact h
        have HO2 := Lib.hid o2
        clear o2 g2 or2
        go_wp2_with (at_builtin; refine wpList_append_reads _ rfl _ _ 29 rfl w.heap.size 9 i0 (.string ⟨#[]⟩) 1 16 Tryz.underlying29 HI.out HZ.out.1 HZ.out.2.1 HZ.out.2.2 rfl (by decide) encS_len encS_one _ _ _ rfl HO2.out _ _ _ [] rfl (by simp) (.inl rfl) (by first | (simp; done) | (simp; unfold maxLen; omega) | (unfold maxLen; simp)) (by first | (simp; done) | (simp; omega)) B2.size ?_)
        intro v3 w3 o3 g3 or3
        have h := OwnStep.fresh (w := w) (e := .returned v3) (w' := w3) B2 HO2.out ⟨v3, rfl, o3, g3, or3⟩
        have H2 := Lib.hid (show ReadsV 1 encS TT w (.returned v3) w3 from ReadsV.fresh encS_len (T := 9) (by
          have hl : TT.length = 1 := by rw [HE.out]; simp
          have hf : TT.flatMap encS = [Value.string x] := by rw [HE.out]; simp [List.flatMap_append, encS]
          rw [hl, hf]
          first | exact h | simpa using h))
        clear h o3 g3 or3
        go_wp2
        go_ret
        exact H2.out
      | some ad =>
        have HRB := Lib.hid (HR.out.below (show Below w.heap.size w (w.alloc (.cells #[] 9)) from (by repeat (first | exact Below.refl _ _ | refine Below.drew ?_ | refine below_drewN ?_ _ | refine Below.allocC ?_ _ | refine Below.setCell ?_ (by first | (simp; done) | (simp; omega)) _ | refine Below.chain ?_ (by assumption)))))
        obtain ⟨b, off, spot⟩ := ad
        by_cases hck : cap = xs.length
        all_goals
          go_wp2_with (at_builtin; refine wpList_append_reads _ rfl _ _ 29 rfl w.heap.size 9 i0 (.string ⟨#[]⟩) 1 16 Tryz.underlying29 HI.out HZ.out.1 HZ.out.2.1 HZ.out.2.2 rfl (by decide) encS_len encS_one _ 0 [] rfl ⟨rfl, .inr ⟨w.heap.size, 0, #[], rfl, Nat.le_refl _, heap_alloc_new w _, Nat.le_refl _, Nat.zero_le _, rfl, rfl⟩⟩ _ _ _ xs rfl (by simp) HRB.out (by unfold maxLen; omega) (by omega) (by simp) ?_)
          intro v1 w1 o1 g1 or1
          have B1 : Below w.heap.size w w1 := by
            refine Below.trans (show Below w.heap.size w (w.alloc (.cells #[] 9)) from (by repeat (first | exact Below.refl _ _ | refine Below.drew ?_ | refine below_drewN ?_ _ | refine Below.allocC ?_ _ | refine Below.setCell ?_ (by first | (simp; done) | (simp; omega)) _ | refine Below.chain ?_ (by assumption)))) (below_of_grown g1 (Nat.le_refl _) (by simp))
          have HO1 := Lib.hid (show w1.ownsRow w.heap.size 9 1 v1 xs.length (xs.flatMap encS) from by first | exact o1 | simpa using o1)
          clear o1 g1 or1
          go_wp2_with (at_builtin; refine wpList_append_own2 _ rfl _ _ 29 rfl w.heap.size 9 i0 (.string ⟨#[]⟩) 1 16 Tryz.underlying29 HI.out HZ.out.1 HZ.out.2.1 HZ.out.2.2 rfl (by decide) _ _ _ rfl (HO1.out.alloc _) ⟨w1.heap.size, 0, none⟩ 1 1 [.string x] rfl rfl (news_one (by simp)) (by intro u hu; simp at hu; subst hu; rfl) (by unfold maxLen; omega) (by omega) (by have := B1.size; simp; omega) ?_)
          intro v2 w2 o2 g2 or2
          have B2 : Below w.heap.size w w2 := by
            have h := OwnStep.fresh (w := w) (W := w1.alloc (.cells #[.string x] 9)) (e := .returned v2) (w' := w2) (by repeat (first | exact Below.refl _ _ | refine Below.drew ?_ | refine below_drewN ?_ _ | refine Below.allocC ?_ _ | refine Below.setCell ?_ (by first | (simp; done) | (simp; omega)) _ | refine Below.chain ?_ (by assumption))) (HO1.out.alloc _) ⟨v2, rfl, o2, g2, or2⟩
            obtain ⟨_, _, _, h⟩ := h
            exact h
          have HO2 := Lib.hid o2
          clear o2 g2 or2
          go_wp2_with (at_builtin; refine wpList_append_reads _ rfl _ _ 29 rfl w.heap.size 9 i0 (.string ⟨#[]⟩) 1 16 Tryz.underlying29 HI.out HZ.out.1 HZ.out.2.1 HZ.out.2.2 rfl (by decide) encS_len encS_one _ _ _ rfl HO2.out _ _ _ [] rfl (by simp) (.inl rfl) (by first | (simp; done) | (simp; unfold maxLen; omega) | (unfold maxLen; simp)) (by first | (simp; done) | (simp; omega)) B2.size ?_)
          intro v3 w3 o3 g3 or3
          have h := OwnStep.fresh (w := w) (e := .returned v3) (w' := w3) B2 HO2.out ⟨v3, rfl, o3, g3, or3⟩
          have H2 := Lib.hid (show ReadsV 1 encS TT w (.returned v3) w3 from ReadsV.fresh encS_len (T := 9) (by
            have hl : TT.length = xs.length + 1 := by rw [HE.out]; simp
            have hf : TT.flatMap encS = xs.flatMap encS ++ [Value.string x] := by rw [HE.out]; simp [List.flatMap_append, encS]
            rw [hl, hf]
            first | exact h | simpa using h))
          clear h o3 g3 or3
          go_wp2
          go_ret
          exact H2.out

set_option maxRecDepth 100000 in
set_option maxHeartbeats 2000000 in
theorem specAddSpan_c (a : Option Addr) (cap : Nat) (xs : List ByteArray) (x : ByteArray) (w : World) (hlen : xs.length ≤ 2100000000000) (hr : Reads w a 1 encS xs) (hcap : xs.length ≤ cap) (hcm : cap ≤ maxLen) :
    Calls Tryz.prog 200 #[.slice a xs.length cap, .string x] w (Fresh 9 1 ((addS xs x).flatMap encS) (addS xs x).length w) := by
  obtain ⟨i0, hinf, hzz⟩ := Option.map_eq_some_iff.1 infoString
  simp only [Prod.mk.injEq] at hzz
  have HI := Lib.hid hinf
  have HZ := Lib.hid hzz
  have K := Lib.hid (specPut_c a cap xs x (w.alloc (.cells #[] 9)) (by omega) (hr.below (by repeat (first | exact Below.refl _ _ | refine Below.drew ?_ | refine below_drewN ?_ _ | refine Below.allocC ?_ _ | refine Below.setCell ?_ (by first | (simp; done) | (simp; omega)) _ | refine Below.chain ?_ (by assumption)))) hcap hcm)
  have HL := Lib.hid (addS_len xs x)
  clear hr hinf hzz
  generalize addS xs x = TT at *
  go_enter Tryz.func200, Tryz.ntmps200
  go_wp2_with fail
  refine K.out.mono ?_
  rintro e w1 ⟨a1, cap1, rfl, r1, q1, q2, hb1⟩
  have HR := Lib.hid r1
  clear r1
  have hl := HL.out
  go_wp2_with (at_builtin; refine wpList_append_reads _ rfl _ _ 29 rfl w.heap.size 9 i0 (.string ⟨#[]⟩) 1 16 Tryz.underlying29 HI.out HZ.out.1 HZ.out.2.1 HZ.out.2.2 rfl (by decide) encS_len encS_one _ 0 [] rfl (ownsRow_below (w := w.alloc (.cells #[] 9)) ⟨rfl, .inr ⟨w.heap.size, 0, #[], rfl, Nat.le_refl _, heap_alloc_new w _, Nat.le_refl _, Nat.zero_le _, rfl, rfl⟩⟩ hb1) _ _ _ TT rfl rfl HR.out (by unfold maxLen; omega) (by omega) (by have := hb1.size; simp at this; omega) ?_)
  intro v2 w2 o2 g2 or2
  have B1 : Below w.heap.size w w1 := (by repeat (first | exact Below.refl _ _ | refine Below.drew ?_ | refine below_drewN ?_ _ | refine Below.allocC ?_ _ | refine Below.setCell ?_ (by first | (simp; done) | (simp; omega)) _ | refine Below.chain ?_ (by assumption)))
  have HO2 := Lib.hid (show w2.ownsRow w.heap.size 9 1 v2 TT.length (TT.flatMap encS) from by first | exact o2 | simpa using o2)
  have B2 : Below w.heap.size w w2 := B1.trans (below_of_grown g2 (Nat.le_refl _) B1.size)
  clear o2 g2 or2
  go_wp2
  go_ret
  exact ⟨_, rfl, HO2.out, B2⟩
end Go.Proofs.YtihghflppegnmaaGreatDoor
namespace Go.Proofs.YtihghflppegnmaaGreatDoor
open Go.RowKit
attribute [local go_sem ↓] Go.wp_at_zero Go.wp_at_succ
set_option maxRecDepth 100000 in
theorem overlapsC_no (w : World) (vb b ob lb cb : Nat) (x : (ByteArray × ByteArray)) (cur : Array Value) (t : TypeId) (hx : Box w vb (encC x)) (hb : w.heap[b]? = some (.cells cur t (0, 0))) (h0 : cur.size ≠ 0) (hne : vb ≠ b) :
    (callFunc 244 #[.slice (some ⟨vb, 0, none⟩) 1 1, .slice (some ⟨b, ob, none⟩) lb cb]).run Tryz.prog w = .ok (.value (.bool false)) w := by
  obtain ⟨hlt, TT, hT⟩ := hx
  rw [run_callFunc_extern Tryz.func244 (by kernel_rfl) (by kernel_rfl) (by kernel_rfl) (e := Extern.SlicesOverlaps.overlaps #[26, 26] #[4]) (by kernel_rfl),
    Lib.run_overlaps_apart w 26 4 99 Tryz.underlying26 2 (fun w => by rfl) ⟨vb, 0, none⟩ ⟨b, ob, none⟩ 1 1 lb cb hne TT t 2 cur.size (by simp [World.shape?, hT, encC]) (by simp [World.shape?, hb]) h0 (by simp [World.frozen?, hT]) (by simp [World.frozen?, hT])]
  rfl

set_option maxRecDepth 100000 in
set_option maxHeartbeats 4000000 in
theorem insertC_c (v : Value) (base i : Nat) (xs : List (ByteArray × ByteArray)) (x : (ByteArray × ByteArray)) (vb : Nat) (w : World) (hlen : xs.length ≤ 2199023255552) (ho : w.ownsRow base 99 2 v xs.length (xs.flatMap encC)) (hi : i ≤ xs.length)
    (hx : Box w vb (encC x)) (hne : ∀ k, v.ownBlock = some k → k ≠ vb) (hbase : base ≤ w.heap.size) :
    Calls Tryz.prog 232 #[v, .int .i64 i, .slice (some ⟨vb, 0, none⟩) 1 1] w (OwnStep 99 2 base v (xs.length + 1) ((xs.take i ++ x :: xs.drop i).flatMap encC) w) := by
  obtain ⟨i0, hinf, hzz⟩ := Option.map_eq_some_iff.1 infoCell
  simp only [Prod.mk.injEq] at hzz
  have HI := Lib.hid hinf
  have HZ := Lib.hid hzz
  have hsz : (Tryz.prog.info? 99).map (·.size) = some 2 := by rw [hinf]; simp [hzz.2.1]
  clear hinf hzz
  have HXN := Lib.hid (show ∀ (W : World), Below w.heap.size w W → ∀ j u, (encC x)[j]? = some u → W.cell? ((⟨vb, 0, none⟩ : Addr).add j) = some u from fun W hW j u hu => by
    rw [add_none, Nat.zero_add]; exact (hx.below hW).cell j u hu)
  have HX1 := Lib.hid (show ∀ u ∈ encC x, u.oneCell' = true from fun u hu => by simp [encC] at hu; first | (subst hu; rfl) | (rcases hu with rfl | rfl <;> rfl))
  have HC1 := Lib.hid (show ∀ u ∈ xs.flatMap encC, u.oneCell' = true from fun u hu => by
    obtain ⟨y, _, hy⟩ := List.mem_flatMap.1 hu
    simp [encC] at hy; first | (subst hy; rfl) | (rcases hy with rfl | rfl <;> rfl))
  have HFL := Lib.hid (length_flatMap_const encC_len xs)
  have HXL := Lib.hid (show (encC x).length = 1 * 2 from rfl)
  have HTgt := Lib.hid (show (xs.take i ++ x :: xs.drop i).flatMap encC = (xs.flatMap encC).take (i * 2) ++ encC x ++ (xs.flatMap encC).drop (i * 2) by
    have e1 : (xs.flatMap encC).take (i * 2) = (xs.take i).flatMap encC := by
      conv => lhs; rw [← List.take_append_drop i xs, List.flatMap_append]
      rw [List.take_append_of_le_length (by rw [length_flatMap_const encC_len, List.length_take]; exact Nat.le_of_eq (by rw [Nat.min_eq_left hi]))]
      rw [List.take_of_length_le (by rw [length_flatMap_const encC_len, List.length_take]; exact Nat.le_of_eq (by rw [Nat.min_eq_left hi]))]
    have e2 : (xs.flatMap encC).drop (i * 2) = (xs.drop i).flatMap encC := by
      conv => lhs; rw [← List.take_append_drop i xs, List.flatMap_append]
      rw [List.drop_append_of_le_length (by rw [length_flatMap_const encC_len, List.length_take]; exact Nat.le_of_eq (by rw [Nat.min_eq_left hi]))]
      rw [List.drop_of_length_le (by rw [length_flatMap_const encC_len, List.length_take]; exact Nat.le_of_eq (by rw [Nat.min_eq_left hi])), List.nil_append]
    rw [e1, e2]; simp [List.flatMap_append, List.append_assoc])
  have HEnd := Lib.hid (show i = xs.length → (xs.take i ++ x :: xs.drop i).flatMap encC = xs.flatMap encC ++ encC x from fun e => by subst e; simp [List.flatMap_append])
  obtain ⟨TT, hTT⟩ : ∃ TT, TT = (xs.take i ++ x :: xs.drop i).flatMap encC := ⟨_, rfl⟩
  rw [← hTT] at HTgt HEnd ⊢
  clear hTT
  rcases ho.2 with ⟨hv, h0⟩ | ⟨g, cap, cur, hv, hbg, hg, hnc, hcm, hcs, htk⟩
  · subst hv
    have hi0 : i = xs.length := by omega
    have HO := Lib.hid ho
    have HE := Lib.hid (HEnd.out hi0)
    rw [h0] at hi0
    have HIz := Lib.hid hi0
    have HL0 := Lib.hid h0
    clear ho HEnd HTgt hi
    rw [hi0]
    clear hi0 h0
    go_enter Tryz.func232, Tryz.ntmps232
    go_wp2_with (at_builtin; refine wpList_append_own2 _ rfl _ _ 26 rfl base 99 i0 (.agg #[.string ⟨#[]⟩, .string ⟨#[]⟩]) 2 32 Tryz.underlying26 HI.out HZ.out.1 HZ.out.2.1 HZ.out.2.2 rfl (by decide) _ _ _ rfl HO.out ⟨vb, 0, none⟩ 1 1 (encC x) rfl HXL.out (HXN.out _ (Below.refl _ _)) HX1.out ?d1 ?d2 ?d3 ?_)
    case d1 => unfold maxLen; omega
    case d2 => omega
    case d3 => omega
    intro v' w' hown hgrow hor
    have H2 := Lib.hid (show OwnStep 99 2 base (.slice none 0 0) (xs.length + 1) TT w (.returned v') w' from ⟨v', rfl, by rw [HE.out]; exact hown, hgrow, hor⟩)
    clear hown hgrow hor
    go_wp2
    go_ret
    exact H2.out
  · subst hv
    have hgv : g ≠ vb := hne g rfl
    have hc63 : cap ≤ 9223372036854775807 := by unfold maxLen at hcm; exact hcm
    have HO := Lib.hid ho
    have HG := Lib.hid hg
    have HB := Lib.hid hx
    have HCS := Lib.hid hcs
    have HTK := Lib.hid htk
    rcases Nat.lt_or_ge i xs.length with hin | hge
    · by_cases hroom : xs.length + 1 ≤ cap
      · -- in place
        have hov : ∀ lb cb, (callFunc 244 #[.slice (some ⟨vb, 0, none⟩) 1 1, .slice (some ⟨g, (i + 1) * 2, none⟩) lb cb]).run Tryz.prog w = .ok (.value (.bool false)) w := fun lb cb =>
          overlapsC_no w vb g ((i + 1) * 2) lb cb x cur _ HB.out HG.out (by rw [HCS.out]; omega) (Ne.symm hgv)
        have HL := Lib.hid (show cur.toList.length = cap * 2 by simpa using hcs)
        obtain ⟨X1, hX1⟩ : ∃ X1, X1 = (xs.flatMap encC).drop (i * 2) := ⟨_, rfl⟩
        have hX1l : X1.length = (xs.length - i) * 2 := by rw [hX1, List.length_drop, HFL.out]; omega
        have HXX := Lib.hid hX1
        have hcell : ∀ j u, X1[j]? = some u → w.drew.cell? ((⟨g, i * 2, none⟩ : Addr).add j) = some u := fun j u hu => by
          rw [HXX.out, List.getElem?_drop] at hu
          have := HO.out.cells (g := g) rfl _ u hu
          rw [add_none] at this ⊢
          rw [show i * 2 + j = 0 + (i * 2 + j) by omega]
          exact this
        have hX1o : ∀ u ∈ X1, u.oneCell' = true := fun u hu => HC1.out u (by rw [HXX.out] at hu; exact List.mem_of_mem_drop hu)
        obtain ⟨L2, hL2⟩ : ∃ L2, L2 = (cur.toList.take ((i + 1) * 2) ++ X1 ++ cur.toList.drop ((i + 1) * 2 + X1.length)).toArray := ⟨_, rfl⟩
        obtain ⟨W2, hW2⟩ : ∃ W2, W2 = w.drew.setRow g L2 := ⟨_, rfl⟩
        have hcp1 : ∀ ty dc sc, (Builtin.copy_ #[26, 26] ty #[.slice (some ⟨g, (i + 1) * 2, none⟩) (xs.length - i) dc, .slice (some ⟨g, i * 2, none⟩) (xs.length + 1 - i) sc]).run Tryz.prog w.drew = .ok (goInt (xs.length - i : Nat)) W2 := fun ty dc sc => by
          rw [hW2, hL2]
          exact run_copyK w.drew _ _ ty 99 g ((i + 1) * 2) _ dc _ _ sc 2 (xs.length - i) cur 99 X1 Tryz.underlying26 hsz HG.out (by simp only [Nat.min_def]; split <;> omega) hX1l hcell (by rw [hX1l, HCS.out]; omega) hX1o
        have hG2 : W2.heap[g]? = some (.cells L2 99 (0, 0)) := by rw [hW2]; exact setRow_heap w.drew g cur L2 _ _ HG.out
        have hgb2 : w.grownBy W2 (some g) := by rw [hW2]; exact grownBy_trans (grownBy_drew w (some g)) (grownBy_setRow w.drew g L2)
        have hvb2 : W2.heap[vb]? = w.heap[vb]? := hgb2.block vb HB.out.1 (fun e => hgv (by cases e; rfl))
        have hxc2 : ∀ j u, (encC x)[j]? = some u → W2.cell? ((⟨vb, 0, none⟩ : Addr).add j) = some u := fun j u hu => by
          rw [add_none, Nat.zero_add]
          obtain ⟨hlt, TT, hT⟩ := HB.out
          exact Box.cell (w := W2) ⟨by rw [hW2]; simpa [World.setRow] using hlt, TT, by rw [hvb2]; exact hT⟩ j u hu
        have hL2s : L2.size = cap * 2 := by rw [hL2]; simp [hX1l]; omega
        obtain ⟨L3, hL3⟩ : ∃ L3, L3 = (L2.toList.take (i * 2) ++ encC x ++ L2.toList.drop (i * 2 + (encC x).length)).toArray := ⟨_, rfl⟩
        obtain ⟨W3, hW3⟩ : ∃ W3, W3 = W2.setRow g L3 := ⟨_, rfl⟩
        have hcp2 : ∀ ty dc, (Builtin.copy_ #[26, 26] ty #[.slice (some ⟨g, i * 2, none⟩) (xs.length + 1 - i) dc, .slice (some ⟨vb, 0, none⟩) 1 1]).run Tryz.prog W2 = .ok (goInt (1 : Nat)) W3 := fun ty dc => by
          rw [hW3, hL3]
          exact run_copyK W2 _ _ ty 99 g (i * 2) _ dc _ _ 1 2 1 L2 99 (encC x) Tryz.underlying26 hsz hG2 (by simp only [Nat.min_def]; split <;> omega) HXL.out hxc2 (by rw [HXL.out, hL2s]; omega) HX1.out
        have HEND := Lib.hid (show OwnStep 99 2 base (.slice (some ⟨g, 0, none⟩) xs.length cap) (xs.length + 1) TT w (.returned (.slice (some ⟨g, 0, none⟩) (xs.length + 1) cap)) W3 from by
          refine ⟨_, rfl, ⟨?_, .inr ⟨g, cap, L3, rfl, hbg, by rw [hW3]; exact setRow_heap W2 g L2 L3 _ _ hG2, hroom, hcm, by rw [hL3]; simp [hL2s, HXL.out]; omega, ?_⟩⟩, by rw [hW3]; exact grownBy_trans hgb2 (grownBy_setRow W2 g L3), .inl rfl⟩
          · rw [HTgt.out]; simp [HFL.out, HXL.out]; omega
          · have e1 : L2.toList.take (i * 2) = (xs.flatMap encC).take (i * 2) := by
              rw [hL2, ← HTK.out]
              simp only [List.append_assoc]
              rw [List.take_append_of_le_length (by rw [List.length_take, HL.out]; omega), List.take_take, List.take_take]
              congr 1
              omega
            have e2 : (L2.toList.drop (i * 2 + (encC x).length)).take (X1.length) = X1 := by
              rw [hL2, HXL.out]
              simp only [List.append_assoc]
              rw [List.drop_append_of_le_length (by rw [List.length_take, HL.out]; omega), List.drop_of_length_le (by rw [List.length_take]; omega), List.nil_append, List.take_left]
            rw [HTgt.out, ← HXX.out, hL3, e1]
            simp only [List.append_assoc]
            rw [List.take_append, List.take_of_length_le (by rw [List.length_take, HFL.out]; omega)]
            congr 1
            have e3 : ((xs.flatMap encC).take (i * 2)).length = i * 2 := by rw [List.length_take, HFL.out]; omega
            rw [e3, List.take_append, List.take_of_length_le (by rw [HXL.out]; omega)]
            congr 1
            rw [show (xs.length + 1) * 2 - i * 2 - (encC x).length = X1.length by rw [HXL.out, hX1l]; omega]
            exact e2)
        clear hX1 hX1l hcell hX1o hL2 hW2 hG2 hgb2 hvb2 hxc2 hL2s hL3 hW3 HL hx hg hcs htk ho HEnd HTgt hne HXX hsz
        have hw1 : IntKind.i64.wrap ((i : Int) + 1) = (i : Int) + 1 := by rw [IntKind.wrap_i64]; omega
        have hb1 : (0 : Int) ≤ (i : Int) + 1 := by omega
        have htn : ((i : Int) + 1).toNat = i + 1 := by omega
        have hb2 : ¬ (cap = i + 1) := by omega
        have hb3 : (i : Int) ≤ (xs.length : Int) + 1 := by omega
        have hb4 : ¬ (cap = i) := by omega
        have hz2 : ¬ ((i : Int) = (xs.length : Int)) := by omega
        go_enter Tryz.func232, Tryz.ntmps232
        go_wp2_with (simp only [hov])
        go_region_law (refine step_copy_at rfl _ _ 26 26 rfl _ _ (by simp [Act.eval, Act.put]) (by simp [Act.eval, Act.put]) (hcp1 _ _ _) ?_)
        go_wp2_with (at_builtin; refine wpList_copy_at rfl _ _ 26 26 rfl _ _ rfl rfl (hcp2 _ _) ?_)
        go_ret
        exact HEND.out
      · -- a new row
        have hzr : Builtin.zeroCells (.agg #[.string ⟨#[]⟩, .string ⟨#[]⟩] : Value).cells = Builtin.zeroCells (.agg #[.string ⟨#[]⟩, .string ⟨#[]⟩] : Value).cells := rfl
        have hold : (Builtin.firstCells i0.size i (.slice (some ⟨g, 0, none⟩) i cap)).run Tryz.prog w.drew = .ok ((xs.flatMap encC).take (i * 2)).toArray w.drew := by
          rw [HZ.out.2.1]
          exact run_firstCells_some w.drew 2 i ⟨g, 0, none⟩ i cap ((xs.flatMap encC).take (i * 2)) (by rw [List.length_take, HFL.out]; omega) (fun j u hj => by
            rw [List.getElem?_take] at hj
            split at hj
            · exact HO.out.cells (g := g) rfl j u hj
            · cases hj)
        obtain ⟨G, hG⟩ : ∃ G, G = grownCap w (xs.length + 1) cap 99 := ⟨_, rfl⟩
        obtain ⟨ROW, hROW⟩ : ∃ ROW : Array Value, ROW = ((xs.flatMap encC).take (i * 2)).toArray ++ Builtin.zeroCells (.agg #[.string ⟨#[]⟩, .string ⟨#[]⟩] : Value).cells (xs.length + 1 - i) ++ Builtin.zeroCells (.agg #[.string ⟨#[]⟩, .string ⟨#[]⟩] : Value).cells (G - (xs.length + 1)) := ⟨_, rfl⟩
        obtain ⟨W1, hW1⟩ : ∃ W1, W1 = w.drew.alloc (.cells ROW 99) := ⟨_, rfl⟩
        have hgge : xs.length + 1 ≤ G := by rw [hG]; exact grownCap_ge w _ _ _
        have hgle : G ≤ maxLen := by rw [hG]; exact grownCap_le_maxLen w _ _ _ (by unfold maxLen; omega)
        have hrz : ∀ ty, (Builtin.append_ #[26, 3] ty #[.slice (some ⟨g, 0, none⟩) i cap, .int .i64 ((xs.length : Int) + 1 - (i : Int))]).run Tryz.prog w =
            .ok (.slice (some ⟨w.heap.size, 0, none⟩) (xs.length + 1) G) W1 := fun ty => by
          have h := Lib.run_append_grow_zeros w 26 3 ty 99 i0 _ .i64 .i64 Tryz.underlying26 Tryz.underlying3 HI.out HZ.out.1 (some ⟨g, 0, none⟩) i cap _ hold (xs.length + 1 - i) (by omega) (by rw [HZ.out.2.1]; decide) (by omega) (by omega) (by rw [HZ.out.2.2]; omega) (by rw [HZ.out.2.2, show i + (xs.length + 1 - i) = xs.length + 1 by omega]; exact growslice_fits (by omega) (by omega))
          rw [show i + (xs.length + 1 - i) = xs.length + 1 by omega] at h
          rw [show (xs.length : Int) + 1 - (i : Int) = ((xs.length + 1 - i : Nat) : Int) by omega, hW1, hROW, hG]
          exact h
        have hRs : ROW.size = G * 2 := by
          rw [hROW]; simp [zeroCells_toList, HFL.out, Value.cells]; omega
        have hRt : ROW.toList.take (i * 2) = (xs.flatMap encC).take (i * 2) := by
          rw [hROW]
          simp only [Array.toList_append, List.append_assoc]
          rw [List.take_append_of_le_length (by rw [List.length_take, HFL.out]; omega), List.take_take]
          congr 1
          omega
        have hW1g : W1.heap[w.heap.size]? = some (.cells ROW 99 (0, 0)) := by rw [hW1]; exact heap_alloc_new w.drew _
        have hW1o : ∀ k, k < w.heap.size → W1.heap[k]? = w.heap[k]? := fun k hk => by rw [hW1]; exact heap_alloc_old _ _ hk
        have hB1 : Below w.heap.size w W1 := by rw [hW1]; exact ((Below.refl _ _).drew).alloc (Nat.le_refl _) _
        have hglt : g < w.heap.size := (Array.getElem?_eq_some_iff.1 HG.out).1
        have hns : w.heap.size ≠ g := by omega
        obtain ⟨L2, hL2⟩ : ∃ L2, L2 = (ROW.toList.take (i * 2) ++ encC x ++ ROW.toList.drop (i * 2 + (encC x).length)).toArray := ⟨_, rfl⟩
        obtain ⟨W2, hW2⟩ : ∃ W2, W2 = W1.setRow w.heap.size L2 := ⟨_, rfl⟩
        have hcp1 : ∀ ty dc, (Builtin.copy_ #[26, 26] ty #[.slice (some ⟨w.heap.size, i * 2, none⟩) (xs.length + 1 - i) dc, .slice (some ⟨vb, 0, none⟩) 1 1]).run Tryz.prog W1 = .ok (goInt (1 : Nat)) W2 := fun ty dc => by
          rw [hW2, hL2]
          exact run_copyK W1 _ _ ty 99 w.heap.size (i * 2) _ dc _ _ 1 2 1 ROW 99 (encC x) Tryz.underlying26 hsz hW1g (by simp only [Nat.min_def]; split <;> omega) HXL.out (HXN.out W1 hB1) (by rw [HXL.out, hRs]; omega) HX1.out
        have hL2s : L2.size = G * 2 := by rw [hL2]; simp [hRs, HXL.out]; omega
        have hG2 : W2.heap[w.heap.size]? = some (.cells L2 99 (0, 0)) := by rw [hW2]; exact setRow_heap W1 _ ROW L2 _ _ hW1g
        have hW2o : ∀ k, k < w.heap.size → W2.heap[k]? = w.heap[k]? := fun k hk => by rw [hW2, setRow_other W1 _ k L2 (by omega), hW1o k hk]
        obtain ⟨X1, hX1⟩ : ∃ X1, X1 = (xs.flatMap encC).drop (i * 2) := ⟨_, rfl⟩
        have HXX := Lib.hid hX1
        have hX1l : X1.length = (xs.length - i) * 2 := by rw [hX1, List.length_drop, HFL.out]; omega
        have hX1o : ∀ u ∈ X1, u.oneCell' = true := fun u hu => HC1.out u (by rw [HXX.out] at hu; exact List.mem_of_mem_drop hu)
        have hcell : ∀ j u, X1[j]? = some u → W2.drew.cell? ((⟨g, i * 2, none⟩ : Addr).add j) = some u := fun j u hu => by
          rw [HXX.out, List.getElem?_drop] at hu
          have := HO.out.cells (g := g) rfl _ u hu
          rw [add_none] at this ⊢
          rw [show i * 2 + j = 0 + (i * 2 + j) by omega]
          rw [cell_of_row w g _ cur _ _ HG.out] at this
          rw [show W2.drew.cell? ⟨g, 0 + (i * 2 + j), none⟩ = W2.cell? ⟨g, 0 + (i * 2 + j), none⟩ from rfl, cell_of_row W2 g _ cur _ _ (by rw [hW2o g hglt]; exact HG.out)]
          exact this
        obtain ⟨L3, hL3⟩ : ∃ L3, L3 = (L2.toList.take ((i + 1) * 2) ++ X1 ++ L2.toList.drop ((i + 1) * 2 + X1.length)).toArray := ⟨_, rfl⟩
        obtain ⟨W3, hW3⟩ : ∃ W3, W3 = W2.drew.setRow w.heap.size L3 := ⟨_, rfl⟩
        have hcp2 : ∀ ty dc sc, (Builtin.copy_ #[26, 26] ty #[.slice (some ⟨w.heap.size, (i + 1) * 2, none⟩) (xs.length - i) dc, .slice (some ⟨g, i * 2, none⟩) (xs.length - i) sc]).run Tryz.prog W2.drew = .ok (goInt (xs.length - i : Nat)) W3 := fun ty dc sc => by
          rw [hW3, hL3]
          exact run_copyK W2.drew _ _ ty 99 w.heap.size ((i + 1) * 2) _ dc _ _ sc 2 (xs.length - i) L2 99 X1 Tryz.underlying26 hsz hG2 (by simp only [Nat.min_def]; split <;> omega) hX1l hcell (by rw [hX1l, hL2s]; omega) hX1o
        have HEND := Lib.hid (show OwnStep 99 2 base (.slice (some ⟨g, 0, none⟩) xs.length cap) (xs.length + 1) TT w (.returned (.slice (some ⟨w.heap.size, 0, none⟩) (xs.length + 1) G)) W3 from by
          refine ⟨_, rfl, ⟨?_, .inr ⟨w.heap.size, G, L3, rfl, hbase, by rw [hW3]; exact setRow_heap W2.drew _ L2 L3 _ _ hG2, hgge, hgle, by rw [hL3]; simp [hL2s, hX1l]; omega, ?_⟩⟩, ⟨by rw [hW3, hW2, hW1]; rfl, by rw [hW3, hW2, hW1]; rfl, by rw [hW3, hW2, hW1]; rfl, by rw [hW3, hW2, hW1]; simp [World.setRow], fun k hk _ => by rw [hW3, setRow_other W2.drew _ k L3 (by omega)]; exact hW2o k hk⟩, .inr fun k hk => by simp [Value.ownBlock] at hk; omega⟩
          · rw [HTgt.out]; simp [HFL.out, HXL.out]; omega
          · have e1 : L2.toList.take ((i + 1) * 2) = (xs.flatMap encC).take (i * 2) ++ encC x := by
              rw [hL2, hRt]
              have e3 : ((xs.flatMap encC).take (i * 2)).length = i * 2 := by rw [List.length_take, HFL.out]; omega
              rw [List.take_append_of_le_length (by rw [List.length_append, e3, HXL.out]; omega), List.take_of_length_le (by rw [List.length_append, e3, HXL.out]; omega)]
            rw [HTgt.out, ← HXX.out, hL3, e1]
            have e3 : ((xs.flatMap encC).take (i * 2)).length = i * 2 := by rw [List.length_take, HFL.out]; omega
            rw [List.take_append_of_le_length (by rw [List.length_append, List.length_append, e3, HXL.out, hX1l]; omega), List.take_of_length_le (by rw [List.length_append, List.length_append, e3, HXL.out, hX1l]; omega)])
        have hGi : ¬ (G = i) := by omega
        have hGim : ¬ (G = i + 1) := by omega
        have hci : ¬ (cap = i) := by omega
        have hw1 : IntKind.i64.wrap ((i : Int) + 1) = (i : Int) + 1 := by rw [IntKind.wrap_i64]; omega
        have hb1 : (0 : Int) ≤ (i : Int) + 1 := by omega
        have htn : ((i : Int) + 1).toNat = i + 1 := by omega
        have hb3 : (i : Int) ≤ (xs.length : Int) := by omega
        have hG63 : G ≤ 9223372036854775807 := by unfold maxLen at hgle; exact hgle
        have hz3 : (cap : Int) < (xs.length : Int) + 1 := by omega
        have hz2 : ¬ ((i : Int) = (xs.length : Int)) := by omega
        clear hold hG hROW hW1 hRs hRt hW1g hW1o hB1 hL2 hW2 hL2s hG2 hW2o hX1 hX1l hX1o hcell hL3 hW3 hzr hgle hx hg hcs htk ho HEnd HTgt hne HXX hsz hcm
        go_enter Tryz.func232, Tryz.ntmps232
        go_wp2_with (first
          | (at_builtin; refine Lib.wpList_append_run _ rfl _ _ _ _ rfl _ _ rfl rfl _ _ (hrz _) ?_)
          | (at_builtin; refine wpList_copy_at rfl _ _ 26 26 rfl _ _ rfl rfl (hcp1 _ _) ?_))
        go_region_law (refine step_copy_at rfl _ _ 26 26 rfl _ _ (by simp [Act.eval, Act.put]) (by simp [Act.eval, Act.put]) (hcp2 _ _ _) ?_)
        go_wp2
        go_ret
        exact HEND.out
    · -- at the end
      obtain rfl : xs.length = i := by omega
      have HE := Lib.hid (HEnd.out rfl)
      clear ho hg hcs htk hx HEnd HTgt hne hcm
      go_enter Tryz.func232, Tryz.ntmps232
      go_wp2_with (at_builtin; refine wpList_append_own2 _ rfl _ _ 26 rfl base 99 i0 (.agg #[.string ⟨#[]⟩, .string ⟨#[]⟩]) 2 32 Tryz.underlying26 HI.out HZ.out.1 HZ.out.2.1 HZ.out.2.2 rfl (by decide) _ _ _ rfl HO.out ⟨vb, 0, none⟩ 1 1 (encC x) rfl HXL.out (HXN.out _ (Below.refl _ _)) HX1.out (by unfold maxLen; omega) (by omega) (by omega) ?_)
      all_goals
        intro v' w' hown hgrow hor
        have H2 := Lib.hid (show OwnStep 99 2 base (.slice (some ⟨g, 0, none⟩) xs.length cap) (xs.length + 1) TT w (.returned v') w' from ⟨v', rfl, by rw [HE.out]; exact hown, hgrow, hor⟩)
        clear hown hgrow hor
        go_wp2
        go_ret
        exact H2.out
end Go.Proofs.YtihghflppegnmaaGreatDoor
namespace Go.Proofs.YtihghflppegnmaaGreatDoor
open Go.RowKit
attribute [local go_sem ↓] Go.wp_at_zero Go.wp_at_succ
def delP (key : ByteArray) (c : ByteArray × ByteArray) : Bool := eqB c.1 key
theorem delFn_c (key : ByteArray) (B : Nat) (W : World) (hc : W.cell? ⟨B, 0, none⟩ = some (.string key)) (x : ByteArray × ByteArray) :
    Calls Tryz.prog 229 #[.agg #[.string x.1, .string x.2], .pointer (some ⟨B, 0, none⟩)] W fun e w' => e = .returned (.bool (delP key x)) ∧ Below W.heap.size W w' := by
  have hBW : B < W.heap.size := World.block_lt_of_cell? W _ hc
  have hne : B ≠ W.heap.size := by omega
  have HG := Lib.hid (show delP key x = (x.1.toList == key.toList) from rfl)
  cases hq : (x.1.toList == key.toList)
  all_goals
    go_enter Tryz.func229, Tryz.ntmps229
    go_wp2
    go_ret
    exact ⟨by rw [HG.out, hq]; rfl, (by repeat (first | exact Below.refl _ _ | refine Below.drew ?_ | refine below_drewN ?_ _ | refine Below.allocC ?_ _ | refine Below.setCell ?_ (by first | (simp; done) | (simp; omega)) _ | refine Below.chain ?_ (by assumption)))⟩
theorem gtFn_c (key : ByteArray) (B : Nat) (W : World) (hc : W.cell? ⟨B, 0, none⟩ = some (.string key)) (x : ByteArray × ByteArray) :
    Calls Tryz.prog 231 #[.agg #[.string x.1, .string x.2], .pointer (some ⟨B, 0, none⟩)] W fun e w' => e = .returned (.bool (gtP key x)) ∧ Below W.heap.size W w' := by
  have hBW : B < W.heap.size := World.block_lt_of_cell? W _ hc
  have hne : B ≠ W.heap.size := by omega
  have HG := Lib.hid (show gtP key x = !(Op.bytesLess x.1.toList key.toList || x.1.toList == key.toList) from (gt_is _ _).symm)
  cases hq : (x.1.toList == key.toList) <;> cases hp : Op.bytesLess x.1.toList key.toList
  all_goals
    go_enter Tryz.func231, Tryz.ntmps231
    go_wp2
    go_ret
    exact ⟨by rw [HG.out, hq, hp]; rfl, (by repeat (first | exact Below.refl _ _ | refine Below.drew ?_ | refine below_drewN ?_ _ | refine Below.allocC ?_ _ | refine Below.setCell ?_ (by first | (simp; done) | (simp; omega)) _ | refine Below.chain ?_ (by assumption)))⟩

theorem delK_none {xs : List (ByteArray × ByteArray)} {key : ByteArray} (h : noneUp (delP key) xs xs.length) : delK xs key = xs := by
  unfold delK
  rw [List.filter_eq_self]
  intro x hx
  obtain ⟨j, hj⟩ := List.mem_iff_getElem?.1 hx
  have := h j x (lt_of_some hj) hj
  unfold delP at this
  simp [this]
theorem delK_keep {xs : List (ByteArray × ByteArray)} {key : ByteArray} {k : Nat} {x : ByteArray × ByteArray} (hx : xs[k]? = some x) (h : delP key x = false) : delK (xs.take (k + 1)) key = delK (xs.take k) key ++ [x] := by
  unfold delK; rw [take_snoc_of hx, List.filter_append]; unfold delP at h; simp [h]
theorem delK_drop {xs : List (ByteArray × ByteArray)} {key : ByteArray} {k : Nat} {x : ByteArray × ByteArray} (hx : xs[k]? = some x) (h : delP key x = true) : delK (xs.take (k + 1)) key = delK (xs.take k) key := by
  unfold delK; rw [take_snoc_of hx, List.filter_append]; unfold delP at h; simp [h]
theorem delK_first {xs : List (ByteArray × ByteArray)} {key : ByteArray} {k : Nat} {x : ByteArray × ByteArray} (hu : noneUp (delP key) xs k) (hx : xs[k]? = some x) (h : delP key x = true) : delK (xs.take (k + 1)) key = xs.take k := by
  rw [delK_drop hx h]
  unfold delK
  rw [List.filter_eq_self]
  intro y hy
  obtain ⟨j, hj⟩ := List.mem_iff_getElem?.1 hy
  rw [List.getElem?_take] at hj
  split at hj
  · have := hu j y (by assumption) hj
    unfold delP at this
    simp [this]
  · cases hj
theorem delK_lt {xs : List (ByteArray × ByteArray)} {key : ByteArray} {k j : Nat} {x : ByteArray × ByteArray} (hx : xs[k]? = some x) (h : delP key x = true) (hj : k < j) (hl : j ≤ xs.length) : (delK (xs.take j) key).length < j := by
  have hk := lt_of_some hx
  have hlen : (xs.take j).length = j := by rw [List.length_take]; omega
  rcases Nat.lt_or_ge (delK (xs.take j) key).length j with h1 | h1
  · exact h1
  · exfalso
    have e : (delK (xs.take j) key).length = (xs.take j).length := by
      have := delK_len (xs.take j) key
      omega
    have e2 := List.length_filter_eq_length_iff.1 e x (by
      rw [List.mem_iff_getElem?]
      exact ⟨k, by rw [List.getElem?_take, if_pos hj]; exact hx⟩)
    unfold delP at h
    simp [h] at e2

theorem cell_keepG {w w' : World} {g B : Nat} {v : Value} (hg : w.grownBy w' (some g)) (hne : g ≠ B) (hc : w.cell? ⟨B, 0, none⟩ = some v) : w'.cell? ⟨B, 0, none⟩ = some v :=
  (World.cell?_of_block (hg.block B (World.block_lt_of_cell? w _ hc) (by intro e; cases e; exact hne rfl))).trans hc

set_option maxRecDepth 100000 in
set_option maxHeartbeats 4000000 in
set_option maxRecDepth 100000 in
theorem deleteC_c (v : Value) (base B : Nat) (xs : List (ByteArray × ByteArray)) (key : ByteArray) (w : World) (hlen : xs.length ≤ 2199023255552) (ho : w.ownsRow base 99 2 v xs.length (xs.flatMap encC))
    (hB : w.cell? ⟨B, 0, none⟩ = some (.string key)) (hne : ∀ k, v.ownBlock = some k → k ≠ B) (_hbase : base ≤ w.heap.size) :
    Calls Tryz.prog 228 #[v, .func (.func 229) #[] #[.pointer (some ⟨B, 0, none⟩)]] w
      (OwnStep 99 2 base v (delK xs key).length ((delK xs key).flatMap encC) w) := by
  have eg : ∀ args w, (callFunc 229 args).run Tryz.prog w = .ok (.enter 229 args) w := fun args w => enters_of Tryz.func229 (by kernel_rfl) rfl args w
  have HEG := Lib.hid eg
  obtain ⟨a, cap, rfl, hr⟩ := reads_of_owns encC_len ho
  have HR := Lib.hid hr
  have HO := Lib.hid ho
  have HBc := Lib.hid hB
  have hBlt : B < w.heap.size := World.block_lt_of_cell? w _ hB
  have K := Lib.hid (indexFuncC_c a cap xs (delP key) 229 #[.pointer (some ⟨B, 0, none⟩)] eg w (fun W x _ hb => delFn_c key B W (keepS hb hB) x) (by unfold maxLen; omega) hr)
  obtain ⟨TT, hTT⟩ : ∃ TT, TT = delK xs key := ⟨_, rfl⟩
  have HT := Lib.hid hTT
  rw [← hTT]
  clear hTT hr hB eg
  rcases Nat.lt_or_ge (xs.findIdx (delP key)) xs.length with hlt | hge
  · obtain ⟨x0, hx0⟩ := some_of_lt hlt
    obtain ⟨k0, hk0⟩ : ∃ k, xs.findIdx (delP key) = k := ⟨_, rfl⟩
    have HI2 := Lib.hid (idxI_lt hlt)
    have hup : noneUp (delP key) xs k0 := fun j y hj hy => by
      rw [← hk0] at hj
      have := List.not_of_lt_findIdx hj
      obtain ⟨hl, rfl⟩ := List.getElem?_eq_some_iff.1 hy
      simpa using this
    have hp0 : delP key x0 = true := by
      have := List.findIdx_getElem (w := hlt)
      obtain ⟨hl, e⟩ := List.getElem?_eq_some_iff.1 hx0
      rw [← e]; exact this
    have HKK := Lib.hid hk0
    rw [hk0] at hlt hx0 HI2
    have HX0 := Lib.hid hx0
    have HP0 := Lib.hid hp0
    have HST := Lib.hid (delK_first hup hx0 hp0)
    clear hk0 hup hp0 hx0
    rcases ho.2 with ⟨hv, h0⟩ | ⟨g, cap', cur, hv, hbg, hg, hnc, hcm, hcs, htk⟩
    · omega
    · simp only [Value.slice.injEq] at hv
      obtain ⟨rfl, _, rfl⟩ := hv
      have hgB : g ≠ B := hne g rfl
      have HCM := Lib.hid hcm
      unfold maxLen at hcm
      have HF0 := Lib.hid (show Filling w g 99 2 cap ((xs.take k0).flatMap encC) from ⟨cur, hg, hcs, by
        have e := (take_flatMap_const encC_len xs k0 (by omega)).symm
        rw [length_flatMap_const encC_len, e, ← htk, List.take_take, List.length_take]
        congr 1; omega⟩)
      have HRow := Lib.hid (show ∀ j y, xs[j]? = some y → w.cell? ⟨g, j * 2, none⟩ = some (.string y.1) ∧ w.cell? ⟨g, j * 2 + 1, none⟩ = some (.string y.2) from fun j y hy => by
        rcases HR.out with rfl | ⟨b, off, e, _, h3⟩
        · simp at hy
        · cases e
          have a0 := h3 j y hy 0 _ rfl
          have a1 := h3 j y hy 1 _ rfl
          simp only [Nat.zero_add, Nat.add_zero] at a0 a1
          exact ⟨a0, a1⟩)
      have hne1 : ((k0 : Int) == -1) = false := beq_eq_false_iff_ne.2 (by omega)
      clear hg hcs htk ho hne
      go_enter Tryz.func228, Tryz.ntmps228
      go_wp2_with fail
      refine K.out.mono ?_
      rintro e w1 ⟨rfl, hb1⟩
      rw [HKK.out, HI2.out]
      have B1 := Lib.hid hb1
      clear hb1
      go_wp2
      go_loopw [5, 6, 7] (fun i j _ wr => ∃ m : Nat, k0 < m ∧ m ≤ xs.length ∧ j = .int .i64 m ∧ i = .int .i64 (delK (xs.take m) key).length ∧ Hid (Filling wr g 99 2 cap ((delK (xs.take m) key).flatMap encC)) ∧ Hid (∀ t, m * 2 ≤ t → wr.cell? ⟨g, t, none⟩ = w.cell? ⟨g, t, none⟩) ∧ Hid (w.grownBy wr (some g))) (fun _ j _ _ => xs.length - (intOf j).toNat)
      case atStart =>
        refine ⟨k0 + 1, by omega, by omega, by go_num, ?_, ?_, ?_, ?_⟩
        · rw [HST.out, List.length_take]; congr 2; omega
        · rw [HST.out]; exact Lib.hid (HF0.out.below B1.out)
        · exact Lib.hid (fun t _ => B1.out.cell (p := ⟨g, t, none⟩) (HF0.out.lt))
        · exact Lib.hid (grownBy_of_below B1.out _)
      case round =>
        obtain ⟨m, hkm, hm, rfl, rfl, HF, HC, HG⟩ := hrel
        have p1 : (0 : Int) ≤ (m : Int) := by omega
        have hdl := delK_lt HX0.out HP0.out hkm hm
        by_cases hlt2 : m < xs.length
        · obtain ⟨y, hy⟩ := some_of_lt hlt2
          have p2 : (m : Int) < (xs.length : Int) := by omega
          have HY := Lib.hid hy
          have c0 := (HC.out (m * 2) (by omega)).trans (HRow.out m y hy).1
          have c1 := (HC.out (m * 2 + 1) (by omega)).trans (HRow.out m y hy).2
          have cB : wr.cell? ⟨B, 0, none⟩ = some (.string key) := cell_keepG HG.out hgB HBc.out
          have HcB := Lib.hid cB
          have hglt : g < wr.heap.size := HF.out.lt
          have hgne : g ≠ wr.heap.size := by omega
          have hBlt2 : B < wr.heap.size := World.block_lt_of_cell? wr _ cB
          have HCall := Lib.hid (fun (W : World) (hW : Below wr.heap.size wr W) => delFn_c key B W (keepS hW HcB.out) y)
          have hl2 : (delK (xs.take m) key).length ≤ 2199023255552 := by omega
          obtain ⟨y0, y1⟩ := y
          dsimp only at c0 c1
          clear hy cB
          have eg := HEG.out
          cases hq : delP key (y0, y1) with
          | false =>
            have HS := Lib.hid (delK_keep HY.out hq)
            rw [hq] at HCall
            obtain ⟨n, hn⟩ : ∃ n, (delK (xs.take m) key).length = n := ⟨_, rfl⟩
            have HN := Lib.hid hn
            rw [hn] at hdl hl2 ⊢
            clear hn hq
            have pn0 : (0 : Int) ≤ (n : Int) := by omega
            have pn1 : (n : Int) < (xs.length : Int) := by omega
            go_wp2_with (go_at_fn 229; refine (HCall.out _ (by repeat (first | exact Below.refl _ _ | refine Below.allocC ?_ _ | refine Below.setCell ?_ (by simp) _))).mono ?_; rintro e w2 ⟨rfl, hb2⟩; have d0 : w2.cell? ⟨wr.heap.size, 0, none⟩ = some (.string y0) := keepS hb2 (by simp); have d1 : w2.cell? ⟨wr.heap.size, 1, none⟩ = some (.string y1) := keepS hb2 (by simp); have B2 := Lib.hid (show Below wr.heap.size wr w2 from (by repeat (first | exact Below.refl _ _ | refine Below.drew ?_ | refine below_drewN ?_ _ | refine Below.allocC ?_ _ | refine Below.setCell ?_ (by first | (simp; done) | (simp; omega)) _ | refine Below.chain ?_ (by assumption)))); have F2 := HF.out.below B2.out; have f0 := F2.free (n * 2); have f1 := F2.free (n * 2 + 1); obtain ⟨o0, z0⟩ := F2.cell (n * 2) (by omega); obtain ⟨o1, z1⟩ := F2.cell (n * 2 + 1) (by omega); clear F2)
            have hfl : ((delK (xs.take m) key).flatMap encC).length = n * 2 := by rw [length_flatMap_const encC_len, HN.out]
            have F3 := Lib.hid (show Filling ((w2.setCell ⟨g, n * 2, none⟩ (.string y0)).setCell ⟨g, n * 2 + 1, none⟩ (.string y1)) g 99 2 cap ((delK (xs.take (m + 1)) key).flatMap encC) from by
              have h := (HF.out.below B2.out).stores [.string y0, .string y1] (n * 2) hfl.symm (by rw [hfl]; simp; omega)
              rw [HS.out, List.flatMap_append]; exact h)
            have HC3 := Lib.hid (show ∀ t, (m + 1) * 2 ≤ t → ((w2.setCell ⟨g, n * 2, none⟩ (.string y0)).setCell ⟨g, n * 2 + 1, none⟩ (.string y1)).cell? ⟨g, t, none⟩ = w.cell? ⟨g, t, none⟩ from fun t ht => by
              rw [World.cell?_setCell_other _ _ _ _ (by first | (simp; done) | (simp; omega)), World.cell?_setCell_other _ _ _ _ (by first | (simp; done) | (simp; omega)), B2.out.cell (p := ⟨g, t, none⟩) hglt]
              exact HC.out t (by omega))
            have HG3 := Lib.hid (show w.grownBy ((w2.setCell ⟨g, n * 2, none⟩ (.string y0)).setCell ⟨g, n * 2 + 1, none⟩ (.string y1)) (some g) from grownBy_trans (grownBy_trans HG.out (grownBy_of_below B2.out _)) (sets_grown [.string y0, .string y1] w2 g (n * 2)))
            have HL3 := Lib.hid (show (delK (xs.take (m + 1)) key).length = n + 1 from by rw [HS.out, List.length_append, HN.out]; rfl)
            clear hfl d0 d1 f0 f1 z0 z1
            go_wp2
            go_roundw
            case rel => exact ⟨m + 1, by omega, by omega, by go_num, by rw [HL3.out]; go_num, F3, HC3, HG3⟩
            case measure => simp [intOf]; omega
          | true =>
            have HS := Lib.hid (delK_drop HY.out hq)
            rw [hq] at HCall
            clear hq
            go_wp2_with (go_at_fn 229; refine (HCall.out _ (by repeat (first | exact Below.refl _ _ | refine Below.allocC ?_ _ | refine Below.setCell ?_ (by simp) _))).mono ?_; rintro e w2 ⟨rfl, hb2⟩; have B2 := Lib.hid (show Below wr.heap.size wr w2 from (by repeat (first | exact Below.refl _ _ | refine Below.drew ?_ | refine below_drewN ?_ _ | refine Below.allocC ?_ _ | refine Below.setCell ?_ (by first | (simp; done) | (simp; omega)) _ | refine Below.chain ?_ (by assumption)))))
            have F3 := Lib.hid (show Filling w2 g 99 2 cap ((delK (xs.take (m + 1)) key).flatMap encC) from by
              rw [HS.out]; exact HF.out.below B2.out)
            have HC3 := Lib.hid (show ∀ t, (m + 1) * 2 ≤ t → w2.cell? ⟨g, t, none⟩ = w.cell? ⟨g, t, none⟩ from fun t ht => by
              rw [B2.out.cell (p := ⟨g, t, none⟩) hglt]
              exact HC.out t (by omega))
            have HG3 := Lib.hid (show w.grownBy w2 (some g) from grownBy_trans HG.out (grownBy_of_below B2.out _))
            go_wp2
            go_roundw
            case rel => exact ⟨m + 1, by omega, by omega, by go_num, by rw [HS.out], F3, HC3, HG3⟩
            case measure => simp [intOf]; omega
        · obtain rfl : m = xs.length := by omega
          rw [List.take_of_length_le (Nat.le_refl _), ← HT.out] at HF
          rw [List.take_of_length_le (Nat.le_refl _), ← HT.out] at hdl ⊢
          obtain ⟨n, hn⟩ : ∃ n, TT.length = n := ⟨_, rfl⟩
          have HN := Lib.hid hn
          have p2 : ¬ (xs.length : Int) < (xs.length : Int) := by omega
          have hfl : (TT.flatMap encC).length = n * 2 := by rw [length_flatMap_const encC_len, hn]
          rw [hn] at hdl ⊢
          clear hn
          obtain ⟨L, hL, hLs, hLt⟩ := HF.out
          rw [hfl] at hLt
          obtain ⟨L2, hL2⟩ : ∃ L2, L2 = (L.toList.take (n * 2) ++ (Builtin.zeroCells (.agg #[.string ⟨#[]⟩, .string ⟨#[]⟩] : Value).cells (xs.length - n)).toList ++ L.toList.drop (n * 2 + (xs.length - n) * 2)).toArray := ⟨_, rfl⟩
          obtain ⟨W2, hW2⟩ : ∃ W2, W2 = wr.setRow g L2 := ⟨_, rfl⟩
          have hcl : ∀ ty, (Builtin.clear_ #[26] ty #[.slice (some ⟨g, n * 2, none⟩) (xs.length - n) (cap - n)]).run Tryz.prog wr = .ok (.tuple #[]) W2 := fun ty => by
            rw [hW2, hL2]
            exact run_clearK wr _ 99 ty _ Tryz.underlying26 (fun _ => by rfl) g (n * 2) (xs.length - n) _ 2 rfl (fun u hu => by
              have := Array.mem_toList_iff.1 hu
              simp only [Builtin.zeroCells] at this
              obtain ⟨i, _, rfl⟩ := Array.mem_map.1 this
              simp only [Value.cells]
              rcases Nat.mod_two_eq_zero_or_one i with h | h <;> simp [h, Value.oneCell']) L 99 hL (by rw [hLs]; omega)
          have hz : (Builtin.zeroCells (.agg #[.string ⟨#[]⟩, .string ⟨#[]⟩] : Value).cells (xs.length - n)).toList.length = (xs.length - n) * 2 := by rw [Array.length_toList, zeroCells_toList]; rfl
          have H2 := Lib.hid (show OwnStep 99 2 base (.slice (some ⟨g, 0, none⟩) xs.length cap) n (TT.flatMap encC) w (.returned (.slice (some ⟨g, 0, none⟩) n cap)) W2 from by
            refine ⟨_, rfl, ⟨hfl, .inr ⟨g, cap, L2, rfl, hbg, by rw [hW2]; exact setRow_heap wr g L L2 _ _ hL, by omega, HCM.out, by rw [hL2, List.size_toArray, List.length_append, List.length_append, hz, List.length_take, List.length_drop, Array.length_toList, hLs]; omega, ?_⟩⟩, by rw [hW2]; exact grownBy_trans HG.out (grownBy_setRow wr g L2), .inl rfl⟩
            rw [hL2]
            simp only [List.append_assoc]
            rw [List.take_append_of_le_length (by rw [List.length_take, Array.length_toList, hLs]; omega), List.take_take, Nat.min_self, hLt])
          clear hL hLs hLt hL2 hW2 hz hfl HC HG HF
          go_wp2
          go_ret
          rw [HN.out]
          exact H2.out
  · have HI2 := Lib.hid (idxI_ge hge)
    have HE : Hid (TT = xs) := Lib.hid (by
      rw [HT.out]
      apply delK_none
      intro j y hj hy
      have := List.not_of_lt_findIdx (show j < xs.findIdx (delP key) by omega)
      obtain ⟨hl, rfl⟩ := List.getElem?_eq_some_iff.1 hy
      simpa using this)
    clear hge ho hne
    go_enter Tryz.func228, Tryz.ntmps228
    go_wp2_with fail
    refine K.out.mono ?_
    rintro e w1 ⟨rfl, hb1⟩
    rw [HI2.out]
    go_wp2
    go_ret
    rw [HE.out]
    exact OwnStep.stay HO.out hb1
end Go.Proofs.YtihghflppegnmaaGreatDoor
namespace Go.Proofs.YtihghflppegnmaaGreatDoor
open Go.RowKit
/-- A number lies in a range. -/
def inB (n lo hi : Int) : Bool := decide (lo ≤ n) && decide (n ≤ hi)
theorem inB_yes {n lo hi : Int} (h1 : lo ≤ n) (h2 : n ≤ hi) : inB n lo hi = true := by simp [inB, h1, h2]
theorem inB_lo {n lo hi : Int} (h1 : n < lo) : inB n lo hi = false := by simp [inB]; omega
theorem inB_hi {n lo hi : Int} (h1 : hi < n) : inB n lo hi = false := by simp [inB]; omega
theorem inB_iff {n lo hi : Int} : inB n lo hi = true ↔ lo ≤ n ∧ n ≤ hi := by simp [inB]
theorem inB_false {n lo hi : Int} (h : inB n lo hi = false) : n < lo ∨ hi < n := by
  simp [inB] at h; omega

theorem l01In_c (n lo hi : Int) (w : World) :
    Calls Tryz.prog 70 #[.int .i64 n, .int .i64 lo, .int .i64 hi] w fun e w' => e = .returned (.bool (inB n lo hi)) ∧ w = w' := by
  by_cases h1 : lo ≤ n
  · by_cases h2 : n ≤ hi
    · go_enter Tryz.func70, Tryz.ntmps70
      go_wp2
      go_ret
      exact ⟨by rw [inB_yes h1 h2]; rfl, rfl⟩
    · go_enter Tryz.func70, Tryz.ntmps70
      go_wp2
      go_ret
      exact ⟨by rw [inB_hi (by omega)]; rfl, rfl⟩
  · go_enter Tryz.func70, Tryz.ntmps70
    go_wp2
    go_ret
    exact ⟨by rw [inB_lo (by omega)]; rfl, rfl⟩

theorem within_c (n lo hi : Int) (w : World) :
    Calls Tryz.prog 152 #[.int .i64 n, .int .i64 lo, .int .i64 hi] w fun e w' => e = .returned (.bool (inB n lo hi)) ∧ w = w' := by
  by_cases h1 : lo ≤ n
  · by_cases h2 : n ≤ hi
    · go_enter Tryz.func152, Tryz.ntmps152
      go_wp2
      go_ret
      exact ⟨by rw [inB_yes h1 h2]; rfl, rfl⟩
    · go_enter Tryz.func152, Tryz.ntmps152
      go_wp2
      go_ret
      exact ⟨by rw [inB_hi (by omega)]; rfl, rfl⟩
  · go_enter Tryz.func152, Tryz.ntmps152
    go_wp2
    go_ret
    exact ⟨by rw [inB_lo (by omega)]; rfl, rfl⟩
end Go.Proofs.YtihghflppegnmaaGreatDoor
namespace Go.Proofs.YtihghflppegnmaaGreatDoor
open Go.RowKit

def keyByte (c : UInt8) : Bool := decide (33 ≤ (c.toNat : Int)) && decide ((c.toNat : Int) ≤ 126) && !((c.toNat : Int) == 42)
/-- A key is valid: 1 to 40 bytes, each in 33 .. 126 and none a star. -/
def keyOkB (s : ByteArray) : Bool := s.data.toList.all keyByte && inB s.size 1 40
def keysUpTo (s : ByteArray) (k : Nat) : Prop := (s.data.toList.take k).all keyByte = true
theorem keysUpTo_zero (s : ByteArray) : keysUpTo s 0 := by simp [keysUpTo]
theorem take_snoc (s : ByteArray) (k : Nat) (h : k < s.size) : s.data.toList.take (k + 1) = s.data.toList.take k ++ [s[k]] := by
  rw [List.take_succ_eq_append_getElem (by simpa using h)]; rfl
theorem keysUpTo_succ (s : ByteArray) (k : Nat) (h : k < s.size) (hk : keysUpTo s k) (hb : keyByte s[k] = true) : keysUpTo s (k + 1) := by
  unfold keysUpTo at *
  rw [take_snoc s k h, List.all_append, hk]
  simp [hb]
theorem keyOk_no (s : ByteArray) (k : Nat) (h : k < s.size) (hb : keyByte s[k] = false) : keyOkB s = false := by
  have : s.data.toList.all keyByte = false := by
    rw [List.all_eq_false]
    exact ⟨s[k], by rw [show s[k] = s.data.toList[k]'(by simpa using h) from rfl]; exact List.getElem_mem _, by simp [hb]⟩
  simp [keyOkB, this]
theorem keyOk_end (s : ByteArray) (k : Nat) (hk : keysUpTo s k) (h : s.size ≤ k) : keyOkB s = inB s.size 1 40 := by
  unfold keysUpTo at hk
  rw [List.take_of_length_le (by simpa using h)] at hk
  simp [keyOkB, hk]
theorem byte_le (c : UInt8) : (c.toNat : Int) ≤ 255 := by have := c.toNat_lt; omega
theorem keyByte_of {c : UInt8} (h1 : (33 : Int) ≤ c.toNat) (h2 : (c.toNat : Int) ≤ 126) (h3 : ((c.toNat : Int) == 42) = false) : keyByte c = true := by simp [keyByte, h1, h2, h3]
theorem keyByte_in {c : UInt8} (h1 : inB (c.toNat : Int) 33 126 = true) (h3 : ((c.toNat : Int) == 42) = false) : keyByte c = true := keyByte_of (inB_iff.1 h1).1 (inB_iff.1 h1).2 h3
theorem keyByte_out {c : UInt8} (h1 : inB (c.toNat : Int) 33 126 = false) : keyByte c = false := by
  rcases inB_false h1 with h | h <;> simp [keyByte] <;> omega
theorem keyByte_lo {c : UInt8} (h1 : (c.toNat : Int) < 33) : keyByte c = false := by simp [keyByte]; omega
theorem keyByte_hi {c : UInt8} (h1 : 126 < (c.toNat : Int)) : keyByte c = false := by simp [keyByte]; omega
theorem keyByte_star {c : UInt8} (h1 : ((c.toNat : Int) == 42) = true) : keyByte c = false := by simp [keyByte, h1]

set_option maxHeartbeats 800000 in
theorem specKeyOk_c (s : ByteArray) (w : World) (hs : s.size ≤ maxLen) :
    Calls Tryz.prog 69 #[.string s] w fun e w' => e = .returned (.bool (keyOkB s)) ∧ w = w' := by
  unfold maxLen at hs
  go_enter Tryz.func69, Tryz.ntmps69
  go_wp2
  go_loop [3] (fun i => ∃ k : Nat, k ≤ s.size ∧ i = .int .i64 k ∧ keysUpTo s k) (fun i => s.size - (intOf i).toNat)
  case atStart => exact ⟨0, Nat.zero_le _, rfl, keysUpTo_zero s⟩
  case round =>
    obtain ⟨k, hk, rfl, hup⟩ := hrel
    by_cases hlt : k < s.size
    · have hb255 := byte_le s[k]
      by_cases hin : inB (s[k].toNat : Int) 33 126 = true
      · by_cases h3 : ((s[k].toNat : Int) == 42) = true
        · have hno := Lib.hid (keyOk_no s k hlt (keyByte_star h3))
          go_wp2_with (first | (go_at_call 70; refine (l01In_c _ _ _ _).mono ?_; rintro e w' ⟨rfl, rfl⟩) | go_in)
          go_ret
          exact ⟨by rw [hno.out]; rfl, rfl⟩
        · have h3' : ((s[k].toNat : Int) == 42) = false := by simpa using h3
          have hsucc := keysUpTo_succ s k hlt hup (keyByte_in hin h3')
          clear h3
          go_wp2_with (first | (go_at_call 70; refine (l01In_c _ _ _ _).mono ?_; rintro e w' ⟨rfl, rfl⟩) | go_in)
          go_round
          case rel => exact ⟨k + 1, by omega, by go_num, hsucc⟩
          case measure => simp [intOf]; omega
      · have hin' : inB (s[k].toNat : Int) 33 126 = false := by simpa using hin
        clear hin
        have hno := Lib.hid (keyOk_no s k hlt (keyByte_out hin'))
        go_wp2_with (first | (go_at_call 70; refine (l01In_c _ _ _ _).mono ?_; rintro e w' ⟨rfl, rfl⟩) | go_in)
        go_ret
        exact ⟨by rw [hno.out]; rfl, rfl⟩
    · have hend := Lib.hid (keyOk_end s k hup (by omega))
      go_wp2_with (first | (go_at_call 70; refine (l01In_c _ _ _ _).mono ?_; rintro e w' ⟨rfl, rfl⟩) | go_in)
      go_ret
      exact ⟨by rw [hend.out]; rfl, rfl⟩

set_option maxHeartbeats 800000 in
theorem implKeyOk_c (s : ByteArray) (w : World) (hs : s.size ≤ maxLen) :
    Calls Tryz.prog 227 #[.string s] w fun e w' => e = .returned (.bool (keyOkB s)) ∧ w = w' := by
  unfold maxLen at hs
  go_enter Tryz.func227, Tryz.ntmps227
  go_wp2
  go_loop [6] (fun i => ∃ k : Nat, k ≤ s.size ∧ i = .int .i64 k ∧ keysUpTo s k) (fun i => s.size - (intOf i).toNat)
  case atStart => exact ⟨0, Nat.zero_le _, rfl, keysUpTo_zero s⟩
  case round =>
    obtain ⟨k, hk, rfl, hup⟩ := hrel
    by_cases hlt : k < s.size
    · by_cases h1 : (s[k].toNat : Int) < 33
      · have hno := Lib.hid (keyOk_no s k hlt (keyByte_lo h1))
        go_wp2_with (first | (go_at_call 152; refine (within_c _ _ _ _).mono ?_; rintro e w' ⟨rfl, rfl⟩) | go_in)
        go_ret
        exact ⟨by rw [hno.out]; rfl, rfl⟩
      · by_cases h2 : 126 < (s[k].toNat : Int)
        · have hno := Lib.hid (keyOk_no s k hlt (keyByte_hi h2))
          go_wp2_with (first | (go_at_call 152; refine (within_c _ _ _ _).mono ?_; rintro e w' ⟨rfl, rfl⟩) | go_in)
          go_ret
          exact ⟨by rw [hno.out]; rfl, rfl⟩
        · by_cases h3 : ((s[k].toNat : Int) == 42) = true
          · have hno := Lib.hid (keyOk_no s k hlt (keyByte_star h3))
            go_wp2_with (first | (go_at_call 152; refine (within_c _ _ _ _).mono ?_; rintro e w' ⟨rfl, rfl⟩) | go_in)
            go_ret
            exact ⟨by rw [hno.out]; rfl, rfl⟩
          · have h3' : ((s[k].toNat : Int) == 42) = false := by simpa using h3
            have hsucc := keysUpTo_succ s k hlt hup (keyByte_of (by omega) (by omega) h3')
            clear h3
            go_wp2_with (first | (go_at_call 152; refine (within_c _ _ _ _).mono ?_; rintro e w' ⟨rfl, rfl⟩) | go_in)
            go_round
            case rel => exact ⟨k + 1, by omega, by go_num, hsucc⟩
            case measure => simp [intOf]; omega
    · have hend := Lib.hid (keyOk_end s k hup (by omega))
      go_wp2_with (first | (go_at_call 152; refine (within_c _ _ _ _).mono ?_; rintro e w' ⟨rfl, rfl⟩) | go_in)
      go_ret
      exact ⟨by rw [hend.out]; rfl, rfl⟩

end Go.Proofs.YtihghflppegnmaaGreatDoor
