/- Contracts: the library's slices.Clone at texts and at cells: a copy in memory of its own. Conditions: at most 2^20 elements. -/
import Derived.Test.YtjlmoghifkgehaaDoorFind
import Derived.OwnWalk
import Derived.Test.YtjlmoghifkgehaaDoorSliceString
import Derived.Test.YtjlmoghifkgehaaDoorSliceCell
namespace Go.Proofs.YtjlmoghifkgehaaDoor
open Go.RowKit
attribute [local go_sem ↓] Go.wp_at_zero Go.wp_at_succ
theorem below_of_own0 {w W w' : World} {T K n : Nat} {v : Value} {cells : List Value} (hb : Below w.heap.size w W) (ho : W.ownsRow w.heap.size T K v n cells) (hg : W.grownBy w' v.ownBlock) : Below w.heap.size w w' := by
  rcases ho.2 with ⟨rfl, _⟩ | ⟨g, cap, cur, rfl, hge, _⟩
  · exact hb.trans ⟨hg.os, hg.tape, hg.output, hg.size, fun k hk => hg.block k (Nat.lt_of_lt_of_le hk hb.size) (by simp [Value.ownBlock])⟩
  · exact hb.trans (below_of_grown hg hge hb.size)
/-- The cells of a slice that is read, one by one. -/
theorem reads_news {α : Type} {w : World} {ad : Addr} {K : Nat} {enc : α → List Value} {xs : List α} (hk : ∀ x, (enc x).length = K) (hK : 0 < K) (h : Reads w (some ad) K enc xs) : ∀ j u, (xs.flatMap enc)[j]? = some u → w.cell? (ad.add j) = some u := by
  intro j u hu
  rcases h with rfl | ⟨b, off, e, _, h3⟩
  · simp at hu
  · cases e
    have hj : j < xs.length * K := by
      have := (List.getElem?_eq_some_iff.1 hu).1
      rwa [length_flatMap_const hk] at this
    have hi : j / K < xs.length := (Nat.div_lt_iff_lt_mul hK).2 hj
    obtain ⟨x, hx⟩ := some_of_lt hi
    have hr : j % K < K := Nat.mod_lt _ hK
    have hd : j / K * K + j % K = j := by rw [Nat.mul_comm]; exact Nat.div_add_mod j K
    have h4 := getElem_flatMap hk xs (j / K) (j % K) x hx hr
    rw [hd, hu] at h4
    have h5 := h3 (j / K) x hx (j % K) u h4.symm
    rw [hd] at h5
    rw [add_none]
    exact h5

end Go.Proofs.YtjlmoghifkgehaaDoor
