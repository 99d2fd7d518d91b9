/- An own row that another own row's writing leaves; a table that stays as it lay. Of no program. -/
import Derived.Test.YtjlmoghifkgehaaDoorMarkS
import Derived.Test.YtjlmoghifkgehaaDoorOwn
import Derived.Lib.LaidTab
namespace Go.Proofs.YtjlmoghifkgehaaDoor
open Go.RowKit
theorem own_keep {W w' : World} {base T K n : Nat} {v u : Value} {cells : List Value} (h : W.ownsRow base T K v n cells) (hg : W.grownBy w' u.ownBlock) (hne : ∀ b, v.ownBlock = some b → u.ownBlock = some b → False) : w'.ownsRow base T K v n cells :=
  h.kept hg (by
    cases hv : v.ownBlock with
    | none => simp
    | some b => simp; intro hu; exact hne b hv hu.symm)
theorem reads_marks {w : World} {base T n k cap : Nat} {a : Option Addr} (h : w.ownsRow base T 1 (.slice a n cap) n ((marks k n).flatMap encS)) : Reads w a 1 encS (marks k n) := by
  have h' : w.ownsRow base T 1 (.slice a n cap) (marks k n).length ((marks k n).flatMap encS) := by rw [marks_len]; exact h
  obtain ⟨_, _, e, r⟩ := reads_of_owns encS_len h'
  simp only [Value.slice.injEq] at e
  obtain ⟨rfl, _, rfl⟩ := e
  exact r
theorem below_of_own {w W w' : World} {T K n : Nat} {v : Value} {cells : List Value} (hb : Below w.heap.size w W) (ho : W.ownsRow w.heap.size T K v n cells) (hg : W.grownBy w' v.ownBlock) : Below w.heap.size w w' := by
  rcases ho.2 with ⟨rfl, _⟩ | ⟨g, cap, cur, rfl, hge, _⟩
  · exact hb.trans ⟨hg.os, hg.tape, hg.output, hg.size, fun k hk => hg.block k (Nat.lt_of_lt_of_le hk hb.size) (by simp [Value.ownBlock])⟩
  · exact hb.trans (below_of_grown hg hge hb.size)
theorem tab_below {P : Program} {w W : World} {name : String} {k : IntKind} {zs : List Int} (h : Lib.TabIs P w name k zs) (hb : Below w.heap.size w W) : Lib.TabIs P W name k zs := by
  unfold Lib.TabIs World.var? at *
  cases hg : P.globalNamed name with
  | none => simp [hg] at h
  | some g =>
    simp only [hg, Option.bind_some] at h ⊢
    have hlt : g < w.heap.size := by
      rcases Nat.lt_or_ge g w.heap.size with h' | h'
      · exact h'
      · simp [Array.getElem?_eq_none h'] at h
    rw [hb.block g hlt]
    exact h
end Go.Proofs.YtjlmoghifkgehaaDoor
