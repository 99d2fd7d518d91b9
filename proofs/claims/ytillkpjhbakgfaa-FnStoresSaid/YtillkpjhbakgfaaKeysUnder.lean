/- Contracts: KeysUnder of both sides: the keys that begin with a prefix, in memory of its own. Conditions: only the bounds that any Go slice and string meets. -/
import Derived.Test.YtillkpjhbakgfaaFind
import Derived.Test.YtillkpjhbakgfaaSpan
import Derived.OwnWalk
import Derived.Test.YtillkpjhbakgfaaSliceString
namespace Go.Proofs.Ytillkpjhbakgfaa
open Go.RowKit
attribute [local go_sem ↓] Go.wp_at_zero Go.wp_at_succ
/-- The keys that begin with p. -/
def keysU (xs : List (ByteArray × ByteArray)) (p : ByteArray) : List ByteArray := (xs.filter (fun c => beginsB c.1 p)).map (·.1)
theorem keysU_len (xs : List (ByteArray × ByteArray)) (p : ByteArray) : (keysU xs p).length ≤ xs.length := by
  unfold keysU; rw [List.length_map]; exact List.length_filter_le _ _
theorem keysU_hit {xs : List (ByteArray × ByteArray)} {p : ByteArray} {k : Nat} {x : ByteArray × ByteArray} (hx : xs[k]? = some x) (h : beginsB x.1 p = true) : keysU (xs.take (k + 1)) p = keysU (xs.take k) p ++ [x.1] := by
  unfold keysU; rw [take_snoc_of hx, List.filter_append]; simp [h]
theorem keysU_miss {xs : List (ByteArray × ByteArray)} {p : ByteArray} {k : Nat} {x : ByteArray × ByteArray} (hx : xs[k]? = some x) (h : beginsB x.1 p = false) : keysU (xs.take (k + 1)) p = keysU (xs.take k) p := by
  unfold keysU; rw [take_snoc_of hx, List.filter_append]; simp [h]
theorem below_of_own {w W w' : World} {T K n : Nat} {v : Value} {cells : List Value} (hb : Below w.heap.size w W) (ho : W.ownsRow w.heap.size T K v n cells) (hg : W.grownBy w' v.ownBlock) : Below w.heap.size w w' := by
  rcases ho.2 with ⟨rfl, _⟩ | ⟨g, cap, cur, rfl, hge, _⟩
  · exact hb.trans ⟨hg.os, hg.tape, hg.output, hg.size, fun k hk => hg.block k (Nat.lt_of_lt_of_le hk hb.size) (by simp [Value.ownBlock])⟩
  · exact hb.trans (below_of_grown hg hge hb.size)

/-- A kept key joins the row. -/
theorem keysU_own {w' : World} {base T : Nat} {v' : Value} {xs : List (ByteArray × ByteArray)} {p x0 : ByteArray} {k : Nat} (hs : keysU (xs.take (k + 1)) p = keysU (xs.take k) p ++ [x0])
    (h : w'.ownsRow base T 1 v' ((keysU (xs.take k) p).length + 1) ((keysU (xs.take k) p).flatMap encS ++ [.string x0])) : w'.ownsRow base T 1 v' (keysU (xs.take (k + 1)) p).length ((keysU (xs.take (k + 1)) p).flatMap encS) := by
  rw [hs, List.length_append, List.flatMap_append]
  exact h

set_option maxHeartbeats 3200000 in
theorem specKeysUnder_c (a : Option Addr) (cap : Nat) (xs : List (ByteArray × ByteArray)) (p : ByteArray) (w : World) (hlen : xs.length ≤ 1048576) (hr : Reads w a 2 encC xs) (ho : ∀ x ∈ xs, x.1.size ≤ maxLen ∧ x.2.size ≤ maxLen) (hp : p.size ≤ maxLen) :
    Calls Try.prog 47 #[.slice a xs.length cap, .string p] w (Fresh 9 1 ((keysU xs p).flatMap encS) (keysU xs p).length w) := by
  obtain ⟨i0, hi, hzz⟩ := Option.map_eq_some_iff.1 infoString
  simp only [Prod.mk.injEq] at hzz
  have HI := Lib.hid hi
  have HZ := Lib.hid hzz
  have HR := Lib.hid hr
  have HO := Lib.hid ho
  have HP := Lib.hid hp
  clear hr ho hp hi hzz
  go_enter Try.func47, Try.ntmps47
  go_wp2
  go_loopw [5, 6] (fun v i wr => ∃ k : Nat, k ≤ xs.length ∧ i = .int .i64 k ∧ Hid (wr.ownsRow w.heap.size 9 1 v (keysU (xs.take k) p).length ((keysU (xs.take k) p).flatMap encS)) ∧ Below w.heap.size w wr) (fun _ i _ => xs.length - (intOf i).toNat)
  case atStart =>
    refine ⟨0, Nat.zero_le _, rfl, ?_, (by repeat (first | exact Below.refl _ _ | refine Below.drew ?_ | refine below_drewN ?_ _ | refine Below.allocC ?_ _ | refine Below.setCell ?_ (by first | (simp; done) | (simp; omega)) _ | refine Below.chain ?_ (by assumption)))⟩
    simp only [List.take_zero, show keysU [] p = [] from rfl, List.length_nil, List.flatMap_nil]
    exact Lib.hid ⟨rfl, .inr ⟨w.heap.size, 0, #[], rfl, Nat.le_refl _, heap_alloc_new w _, Nat.le_refl _, Nat.zero_le _, rfl, rfl⟩⟩
  case round =>
    obtain ⟨k, hk, rfl, HW, hb⟩ := hrel
    by_cases hlt : k < xs.length
    · obtain ⟨x, hx⟩ := some_of_lt hlt
      obtain ⟨b, off, hab, c0, c1⟩ := readFC HR.out hb hx
      subst hab
      have p1 : (0 : Int) ≤ (k : Int) := by omega
      have p2 : (k : Int) < (xs.length : Int) := by omega
      have HX1 := Lib.hid (HO.out x (List.mem_of_getElem? hx)).1
      have HX := Lib.hid hx
      clear hx
      obtain ⟨x0, x1⟩ := x
      dsimp only at c0 c1 HX1
      have HC := Lib.hid (fun W => begins_c x0 p W HX1.out HP.out)
      cases hq : beginsB x0 p with
      | false =>
        have hs := Lib.hid (keysU_miss (p := p) HX.out hq)
        rw [hq] at HC
        clear hq
        go_wp2_with fail
        refine (HC.out _).mono ?_
        rintro e w' ⟨rfl, rfl⟩
        go_wp2
        go_roundw
        case rel => exact ⟨k + 1, by omega, by go_num, by rw [hs.out]; exact HW, (by repeat (first | exact Below.refl _ _ | refine Below.drew ?_ | refine below_drewN ?_ _ | refine Below.allocC ?_ _ | refine Below.setCell ?_ (by first | (simp; done) | (simp; omega)) _ | refine Below.chain ?_ (by assumption)))⟩
        case measure => simp [intOf]; omega
      | true =>
        have hs := Lib.hid (keysU_hit (p := p) HX.out hq)
        rw [hq] at HC
        clear hq
        have hkl := Lib.hid (Nat.le_trans (keysU_len (xs.take k) p) (List.length_take_le _ _))
        go_wp2_with fail
        refine (HC.out _).mono ?_
        rintro e w' ⟨rfl, rfl⟩
        go_wp2_with (at_builtin; refine wpList_append_own _ rfl _ _ 22 rfl w.heap.size 9 i0 (.string ⟨#[]⟩) 1 16 Try.underlying22 HI.out HZ.out.1 HZ.out.2.1 HZ.out.2.2 rfl (by decide) _ _ _ rfl (HW.out.alloc _) ⟨wr.heap.size, 0, none⟩ 1 1 [.string x0] rfl rfl ?c1 ?c2 ?c3 ?c4 ?c5 ?_)
        case c1 =>
          intro j u hj
          match j, hj with
          | 0, hj => simp at hj; subst hj; simp [Addr.add]
        case c2 => intro u hu; simp at hu; subst hu; rfl
        case c3 => have := hkl.out; unfold maxLen; omega
        case c4 => have := hkl.out; omega
        case c5 => have := hb.size; simp; omega
        intro v' w' hown' hgrow _
        have HW2 := Lib.hid (keysU_own hs.out hown')
        have HB2 := Lib.hid (below_of_own (show Below w.heap.size w _ from (by repeat (first | exact Below.refl _ _ | refine Below.drew ?_ | refine below_drewN ?_ _ | refine Below.allocC ?_ _ | refine Below.setCell ?_ (by first | (simp; done) | (simp; omega)) _ | refine Below.chain ?_ (by assumption)))) (HW.out.alloc _) hgrow)
        clear hown' hgrow HW
        go_wp2
        go_roundw
        case rel => exact ⟨k + 1, by omega, by go_num, HW2, HB2.out⟩
        case measure => simp [intOf]; omega
    · obtain rfl : k = xs.length := by omega
      rw [List.take_of_length_le (Nat.le_refl _)] at HW
      have p2 : ¬ (xs.length : Int) < (xs.length : Int) := by omega
      go_wp2
      go_ret
      exact ⟨_, rfl, HW.out, hb⟩

set_option maxHeartbeats 3200000 in
theorem implKeysUnder_c (a : Option Addr) (cap : Nat) (xs : List (ByteArray × ByteArray)) (p : ByteArray) (w : World) (hlen : xs.length ≤ 1048576) (hr : Reads w a 2 encC xs) (ho : ∀ x ∈ xs, x.1.size ≤ maxLen ∧ x.2.size ≤ maxLen) (hp : p.size ≤ maxLen) :
    Calls Try.prog 26 #[.slice a xs.length cap, .string p] w (Fresh 9 1 ((keysU xs p).flatMap encS) (keysU xs p).length w) := by
  obtain ⟨i0, hi, hzz⟩ := Option.map_eq_some_iff.1 infoString
  simp only [Prod.mk.injEq] at hzz
  have HI := Lib.hid hi
  have HZ := Lib.hid hzz
  have HR := Lib.hid hr
  have HO := Lib.hid ho
  have HP := Lib.hid hp
  clear hr ho hp hi hzz
  go_enter Try.func26, Try.ntmps26
  go_wp2
  go_loopw [5, 10] (fun v i wr => ∃ k : Nat, k ≤ xs.length ∧ i = .int .i64 k ∧ Hid (wr.ownsRow w.heap.size 9 1 v (keysU (xs.take k) p).length ((keysU (xs.take k) p).flatMap encS)) ∧ Below w.heap.size w wr) (fun _ i _ => xs.length - (intOf i).toNat)
  case atStart =>
    refine ⟨0, Nat.zero_le _, rfl, ?_, (by repeat (first | exact Below.refl _ _ | refine Below.drew ?_ | refine below_drewN ?_ _ | refine Below.allocC ?_ _ | refine Below.setCell ?_ (by first | (simp; done) | (simp; omega)) _ | refine Below.chain ?_ (by assumption)))⟩
    simp only [List.take_zero, show keysU [] p = [] from rfl, List.length_nil, List.flatMap_nil]
    exact Lib.hid (World.ownsRow_nil _ _ _ _)
  case round =>
    obtain ⟨k, hk, rfl, HW, hb⟩ := hrel
    by_cases hlt : k < xs.length
    · obtain ⟨x, hx⟩ := some_of_lt hlt
      obtain ⟨b, off, hab, c0, c1⟩ := readFC HR.out hb hx
      subst hab
      have p1 : (0 : Int) ≤ (k : Int) := by omega
      have p2 : (k : Int) < (xs.length : Int) := by omega
      have HX1 := Lib.hid (HO.out x (List.mem_of_getElem? hx)).1
      have HX := Lib.hid hx
      clear hx
      obtain ⟨x0, x1⟩ := x
      dsimp only at c0 c1 HX1
      have HC := Lib.hid (fun W => hasPrefix_c x0 p W HX1.out HP.out)
      cases hq : beginsB x0 p with
      | false =>
        have hs := Lib.hid (keysU_miss (p := p) HX.out hq)
        rw [hq] at HC
        clear hq
        go_wp2_with fail
        refine (HC.out _).mono ?_
        rintro e w' ⟨rfl, rfl⟩
        go_wp2
        go_roundw
        case rel => exact ⟨k + 1, by omega, by go_num, by rw [hs.out]; exact Lib.hid (HW.out.alloc _), (by repeat (first | exact Below.refl _ _ | refine Below.drew ?_ | refine below_drewN ?_ _ | refine Below.allocC ?_ _ | refine Below.setCell ?_ (by first | (simp; done) | (simp; omega)) _ | refine Below.chain ?_ (by assumption)))⟩
        case measure => simp [intOf]; omega
      | true =>
        have hs := Lib.hid (keysU_hit (p := p) HX.out hq)
        rw [hq] at HC
        clear hq
        have hkl := Lib.hid (Nat.le_trans (keysU_len (xs.take k) p) (List.length_take_le _ _))
        go_wp2_with fail
        refine (HC.out _).mono ?_
        rintro e w' ⟨rfl, rfl⟩
        go_wp2_with (at_builtin; refine wpList_append_own _ rfl _ _ 22 rfl w.heap.size 9 i0 (.string ⟨#[]⟩) 1 16 Try.underlying22 HI.out HZ.out.1 HZ.out.2.1 HZ.out.2.2 rfl (by decide) _ _ _ rfl ((HW.out.alloc _).alloc _) ⟨wr.heap.size + 1, 0, none⟩ 1 1 [.string x0] rfl rfl ?c1 ?c2 ?c3 ?c4 ?c5 ?_)
        case c1 =>
          intro j u hj
          match j, hj with
          | 0, hj => simp at hj; subst hj; simp [Addr.add]
        case c2 => intro u hu; simp at hu; subst hu; rfl
        case c3 => have := hkl.out; unfold maxLen; omega
        case c4 => have := hkl.out; omega
        case c5 => have := hb.size; simp; omega
        intro v' w' hown' hgrow _
        have HW2 := Lib.hid (keysU_own hs.out hown')
        have HB2 := Lib.hid (below_of_own (show Below w.heap.size w _ from (by repeat (first | exact Below.refl _ _ | refine Below.drew ?_ | refine below_drewN ?_ _ | refine Below.allocC ?_ _ | refine Below.setCell ?_ (by first | (simp; done) | (simp; omega)) _ | refine Below.chain ?_ (by assumption)))) ((HW.out.alloc _).alloc _) hgrow)
        clear hown' hgrow HW
        go_wp2
        go_roundw
        case rel => exact ⟨k + 1, by omega, by go_num, HW2, HB2.out⟩
        case measure => simp [intOf]; omega
    · obtain rfl : k = xs.length := by omega
      rw [List.take_of_length_le (Nat.le_refl _)] at HW
      have p2 : ¬ (xs.length : Int) < (xs.length : Int) := by omega
      go_wp2
      go_ret
      exact ⟨_, rfl, HW.out, hb⟩
end Go.Proofs.Ytillkpjhbakgfaa
