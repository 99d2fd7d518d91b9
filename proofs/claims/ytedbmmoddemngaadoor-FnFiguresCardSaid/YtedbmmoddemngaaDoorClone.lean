/- Contracts: the library's slices.Clone at texts and at cells: a copy in memory of its own. Conditions: at most 2^20 elements. -/
import Derived.Test.YtedbmmoddemngaaDoorFind
import Derived.OwnWalk
import Derived.Test.YtedbmmoddemngaaDoorSliceString
import Derived.Test.YtedbmmoddemngaaDoorSliceCell
namespace Go.Proofs.YtedbmmoddemngaaDoor
open Go.RowKit
attribute [local go_sem ↓] Go.wp_at_zero Go.wp_at_succ
theorem below_of_own0 {w W w' : World} {T K n : Nat} {v : Value} {cells : List Value} (hb : Below w.heap.size w W) (ho : W.ownsRow w.heap.size T K v n cells) (hg : W.grownBy w' v.ownBlock) : Below w.heap.size w w' := by
  rcases ho.2 with ⟨rfl, _⟩ | ⟨g, cap, cur, rfl, hge, _⟩
  · exact hb.trans ⟨hg.os, hg.tape, hg.output, hg.size, fun k hk => hg.block k (Nat.lt_of_lt_of_le hk hb.size) (by simp [Value.ownBlock])⟩
  · exact hb.trans (below_of_grown hg hge hb.size)
/-- The cells of a slice that is read, one by one. -/
theorem reads_news {α : Type} {w : World} {ad : Addr} {K : Nat} {enc : α → List Value} {xs : List α} (hk : ∀ x, (enc x).length = K) (hK : 0 < K) (h : Reads w (some ad) K enc xs) : ∀ j u, (xs.flatMap enc)[j]? = some u → w.cell? (ad.add j) = some u := by
  intro j u hu
  rcases h with rfl | ⟨b, off, e, _, h3⟩
  · simp at hu
  · cases e
    have hj : j < xs.length * K := by
      have := (List.getElem?_eq_some_iff.1 hu).1
      rwa [length_flatMap_const hk] at this
    have hi : j / K < xs.length := (Nat.div_lt_iff_lt_mul hK).2 hj
    obtain ⟨x, hx⟩ := some_of_lt hi
    have hr : j % K < K := Nat.mod_lt _ hK
    have hd : j / K * K + j % K = j := by rw [Nat.mul_comm]; exact Nat.div_add_mod j K
    have h4 := getElem_flatMap hk xs (j / K) (j % K) x hx hr
    rw [hd, hu] at h4
    have h5 := h3 (j / K) x hx (j % K) u h4.symm
    rw [hd] at h5
    rw [add_none]
    exact h5

set_option maxRecDepth 100000 in
set_option maxHeartbeats 2000000 in
theorem cloneS_c (a : Option Addr) (cap : Nat) (xs : List ByteArray) (w : World) (hlen : xs.length ≤ 1048576) (hr : Reads w a 1 encS xs) :
    Calls Tryd.prog 74 #[.slice a xs.length cap] w (Fresh 9 1 (xs.flatMap encS) xs.length w) := by
  obtain ⟨i0, hi, hzz⟩ := Option.map_eq_some_iff.1 infoString
  simp only [Prod.mk.injEq] at hzz
  have HI := Lib.hid hi
  have HZ := Lib.hid hzz
  clear hi hzz
  cases a with
  | none =>
    have hz : xs.length = 0 := by
      rcases hr with rfl | ⟨b, off, e, _⟩
      · rfl
      · cases e
    have hx : xs = [] := List.eq_nil_of_length_eq_zero hz
    subst hx
    have he : ∀ W : World, (binOp .eql 51 (.slice none 0 cap) (.slice none 0 0)).run Tryd.prog W = .ok (.bool true) W := fun _ => rfl
    clear hr hlen hz
    go_enter Tryd.func74, Tryd.ntmps74
    go_wp2
    go_ret
    exact ⟨_, rfl, ⟨rfl, .inl ⟨rfl, rfl⟩⟩, Below.refl _ _⟩
  | some ad =>
    have HN := Lib.hid (reads_news encS_len (by decide) (hr.below (show Below w.heap.size w (w.alloc (.cells #[] 9)) from (by repeat (first | exact Below.refl _ _ | refine Below.drew ?_ | refine below_drewN ?_ _ | refine Below.allocC ?_ _ | refine Below.setCell ?_ (by first | (simp; done) | (simp; omega)) _ | refine Below.chain ?_ (by assumption))))))
    have HO := Lib.hid (show (w.alloc (.cells #[] 9)).ownsRow w.heap.size 9 1 (.slice (some ⟨w.heap.size, 0, none⟩) 0 0) 0 [] from ⟨rfl, .inr ⟨w.heap.size, 0, #[], rfl, Nat.le_refl _, heap_alloc_new w _, Nat.le_refl _, Nat.zero_le _, rfl, rfl⟩⟩)
    have he : ∀ W : World, (binOp .eql 51 (.slice (some ad) xs.length cap) (.slice none 0 0)).run Tryd.prog W = .ok (.bool false) W := fun _ => rfl
    clear hr
    go_enter Tryd.func74, Tryd.ntmps74
    go_wp2_with (at_builtin; refine wpList_append_own _ rfl _ _ 51 rfl w.heap.size 9 i0 (.string ⟨#[]⟩) 1 16 Tryd.underlying51 HI.out HZ.out.1 HZ.out.2.1 HZ.out.2.2 rfl (by decide) _ _ _ rfl HO.out ad xs.length cap (xs.flatMap encS) rfl (length_flatMap_const encS_len xs) HN.out ?c2 ?c3 ?c4 ?c5 ?_)
    case c2 =>
      intro u hu
      obtain ⟨x, _, hx⟩ := List.mem_flatMap.1 hu
      simp [encS] at hx
      first | (subst hx; rfl) | (rcases hx with rfl | rfl <;> rfl)
    case c3 => unfold maxLen; omega
    case c4 => omega
    case c5 => simp
    intro v' w' hown' hgrow _
    have HB2 := Lib.hid (below_of_own0 (show Below w.heap.size w _ from (by repeat (first | exact Below.refl _ _ | refine Below.drew ?_ | refine below_drewN ?_ _ | refine Below.allocC ?_ _ | refine Below.setCell ?_ (by first | (simp; done) | (simp; omega)) _ | refine Below.chain ?_ (by assumption)))) HO.out hgrow)
    have HW2 := Lib.hid hown'
    clear hown' hgrow
    go_wp2
    go_ret
    refine ⟨_, rfl, ?_, HB2.out⟩
    have := HW2.out
    simpa using this

end Go.Proofs.YtedbmmoddemngaaDoor
