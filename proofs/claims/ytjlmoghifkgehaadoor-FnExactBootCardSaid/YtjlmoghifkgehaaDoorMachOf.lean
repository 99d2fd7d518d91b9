/- Contracts: MachOf of both sides: a Mach with a copy of the store in memory of its own, and no spans. Conditions: at most 2^20 cells. -/
import Derived.Test.YtjlmoghifkgehaaDoorClone
import Derived.Laws.AppendOwnNone
namespace Go.Proofs.YtjlmoghifkgehaaDoor
open Go.RowKit
attribute [local go_sem ↓] Go.wp_at_zero Go.wp_at_succ
/-- A call returned a Mach of this store, in memory of its own, and of no spans. -/
def FreshMO (T : Nat) (xs : List (ByteArray × ByteArray)) (w : World) (e : Ending) (w' : World) : Prop :=
  ∃ v, e = .returned (.agg #[v, .slice none 0 0, .slice none 0 0]) ∧ w'.ownsRow (w.heap.size + 1) T 2 v xs.length (xs.flatMap encC) ∧ Below w.heap.size w w'

theorem below_of_own1 {W w' : World} {B T K n : Nat} {v : Value} {cells : List Value} (ho : W.ownsRow B T K v n cells) (hg : W.grownBy w' v.ownBlock) (hB : B ≤ W.heap.size) : Below B W w' := by
  rcases ho.2 with ⟨rfl, _⟩ | ⟨g, cap, cur, rfl, hge, _⟩
  · exact ⟨hg.os, hg.tape, hg.output, hg.size, fun k hk => hg.block k (by omega) (by simp [Value.ownBlock])⟩
  · exact below_of_grown hg hge hB
set_option maxHeartbeats 2000000 in
theorem specMachOf_c (a : Option Addr) (cap : Nat) (xs : List (ByteArray × ByteArray)) (w : World) (hlen : xs.length ≤ 1048576) (hc : a = none → cap = 0) (hr : Reads w a 2 encC xs) :
    Calls Tryd.prog 10 #[.slice a xs.length cap] w (FreshMO 39 xs w) := by
  obtain ⟨i0, hi, hzz⟩ := Option.map_eq_some_iff.1 infoCell
  simp only [Prod.mk.injEq] at hzz
  have HI := Lib.hid hi
  have HZ := Lib.hid hzz
  clear hi hzz
  have HB : Below w.heap.size w ((w.alloc (.cells #[.slice none 0 0, .slice none 0 0, .slice none 0 0] 31)).alloc (.cells #[] 39)) := (by repeat (first | exact Below.refl _ _ | refine Below.drew ?_ | refine below_drewN ?_ _ | refine Below.allocC ?_ _ | refine Below.setCell ?_ (by first | (simp; done) | (simp; omega)) _ | refine Below.chain ?_ (by assumption)))
  have HR := Lib.hid (hr.below HB)
  have HBB := Lib.hid HB
  have HO := Lib.hid (show ((w.alloc (.cells #[.slice none 0 0, .slice none 0 0, .slice none 0 0] 31)).alloc (.cells #[] 39)).ownsRow (w.heap.size + 1) 39 2 (.slice (some ⟨w.heap.size + 1, 0, none⟩) 0 0) 0 [] from ⟨rfl, .inr ⟨w.heap.size + 1, 0, #[], rfl, Nat.le_refl _, by have := heap_alloc_new (w.alloc (.cells #[.slice none 0 0, .slice none 0 0, .slice none 0 0] 31)) (.cells #[] 39); simpa using this, Nat.le_refl _, Nat.zero_le _, rfl, rfl⟩⟩)
  have X := (Box.new w [.slice none 0 0, .slice none 0 0, .slice none 0 0] 31).alloc (.cells #[] 39)
  have HX := Lib.hid X
  clear hr HB X
  cases a with
  | none =>
    have hcap := hc rfl
    subst hcap
    have hx : xs = [] := by
      rcases HR.out with h | ⟨_, _, e, _⟩
      · exact h
      · cases e
    subst hx
    have X1 := HX.out
    have f0 := X1.cell 0 _ rfl
    have f1 := X1.cell 1 _ rfl
    have f2 := X1.cell 2 _ rfl
    have z0 := X1.free 0
    have z1 := X1.free 1
    have z2 := X1.free 2
    clear X1 hc hlen
    go_enter Tryd.func10, Tryd.ntmps10
    go_wp2_with (at_builtin; refine wpList_append_own_none rfl _ _ 22 rfl (w.heap.size + 1) 39 i0 2 Tryd.underlying22 HI.out _ _ _ rfl HO.out rfl ?_)
    go_wp2
    refine bodyPost_ret (v := .agg #[.slice (some ⟨w.heap.size + 1, 0, none⟩) 0 0, .slice none 0 0, .slice none 0 0]) (by simp [results, Tryd.results10, go_sem]) rfl ⟨.slice (some ⟨w.heap.size + 1, 0, none⟩) 0 0, rfl, ?_, (by repeat (first | exact Below.refl _ _ | refine Below.drew ?_ | refine below_drewN ?_ _ | refine Below.allocC ?_ _ | refine Below.setCell ?_ (by first | (simp; done) | (simp; omega)) _ | refine Below.chain ?_ (by assumption)))⟩
    exact ⟨rfl, .inr ⟨w.heap.size + 1, 0, #[], rfl, Nat.le_refl _, by have := heap_alloc_new (w.alloc (.cells #[.slice (some ⟨w.heap.size + 1, 0, none⟩) 0 0, .slice none 0 0, .slice none 0 0] 31)) (.cells #[] 39); simpa using this, Nat.le_refl _, Nat.zero_le _, rfl, rfl⟩⟩
  | some ad =>
    have HN := Lib.hid (reads_news encC_len (by decide) HR.out)
    go_enter Tryd.func10, Tryd.ntmps10
    go_wp2_with (at_builtin; refine wpList_append_own _ rfl _ _ 22 rfl (w.heap.size + 1) 39 i0 (.agg #[.string ⟨#[]⟩, .string ⟨#[]⟩]) 2 32 Tryd.underlying22 HI.out HZ.out.1 HZ.out.2.1 HZ.out.2.2 rfl (by decide) _ _ _ rfl HO.out ad xs.length cap (xs.flatMap encC) rfl (length_flatMap_const encC_len xs) HN.out ?c2 ?c3 ?c4 ?c5 ?_)
    case c2 =>
      intro u hu
      obtain ⟨x, _, hx⟩ := List.mem_flatMap.1 hu
      simp [encC] at hx
      rcases hx with rfl | rfl <;> rfl
    case c3 => unfold maxLen; omega
    case c4 => omega
    case c5 => simp
    intro v1 w1 hown' hgrow _
    have O1 := Lib.hid hown'
    have HG := Lib.hid hgrow
    have hbl : (w.alloc (.cells #[.slice none 0 0, .slice none 0 0, .slice none 0 0] 31)).heap.size ≤ w.heap.size + 1 := by simp
    have hbx := Lib.hid (below_of_own1 (B := w.heap.size + 1) HO.out hgrow (by simp))
    obtain ⟨ar, cr, rfl⟩ := ownsRow_shape hown'
    have X1 : Box w1 w.heap.size [.slice none 0 0, .slice none 0 0, .slice none 0 0] := by
      obtain ⟨q1, T, q2⟩ := HX.out
      exact ⟨Nat.lt_of_lt_of_le q1 hbx.out.size, T, (hbx.out.block _ (by omega)).trans q2⟩
    clear hown' hgrow hbl
    have f0 := X1.cell 0 _ rfl
    have f1 := X1.cell 1 _ rfl
    have f2 := X1.cell 2 _ rfl
    have z0 := X1.free 0
    have z1 := X1.free 1
    have z2 := X1.free 2
    clear X1
    go_wp2
    have g1 : Below w.heap.size w w1 := HBB.out.trans (hbx.out.mono (by omega))
    refine bodyPost_ret (v := .agg #[.slice ar (0 + xs.length) cr, .slice none 0 0, .slice none 0 0]) (by simp [results, Tryd.results10, go_sem, f0, f1, f2]) rfl ⟨.slice ar (0 + xs.length) cr, rfl, ?_, ?_⟩
    · have h1 := O1.out
      have h2 := ownsRow_setCell_below (ownsRow_setCell_below (ownsRow_setCell_below h1 (a := ⟨w.heap.size, 0, none⟩) (by show w.heap.size < _; omega) (.slice ar (0 + xs.length) cr)) (a := ⟨w.heap.size, 1, none⟩) (by show w.heap.size < _; omega) (.slice none 0 0)) (a := ⟨w.heap.size, 2, none⟩) (by show w.heap.size < _; omega) (.slice none 0 0)
      simp only [Nat.zero_add] at h2 ⊢
      exact h2
    · exact Below.setCell (Below.setCell (Below.setCell g1 (Nat.le_refl _) _) (Nat.le_refl _) _) (Nat.le_refl _) _
end Go.Proofs.YtjlmoghifkgehaaDoor
