/- An own row that another own row's writing leaves. Of no program. -/
import Derived.Test.YtjlmoghifkgehaaDoorMarkC
import Derived.Test.YtjlmoghifkgehaaDoorOwn
namespace Go.Proofs.YtjlmoghifkgehaaDoor
open Go.RowKit
theorem own_keep {W w' : World} {base T K n : Nat} {v u : Value} {cells : List Value} (h : W.ownsRow base T K v n cells) (hg : W.grownBy w' u.ownBlock) (hne : ∀ b, v.ownBlock = some b → u.ownBlock = some b → False) : w'.ownsRow base T K v n cells :=
  h.kept hg (by
    cases hv : v.ownBlock with
    | none => simp
    | some b => simp; intro hu; exact hne b hv hu.symm)
/-- The marks in a row read as marks. -/
theorem reads_marks {w : World} {base T n k cap : Nat} {a : Option Addr} (h : w.ownsRow base T 1 (.slice a n cap) n ((marks k n).flatMap encS)) : Reads w a 1 encS (marks k n) := by
  have h' : w.ownsRow base T 1 (.slice a n cap) (marks k n).length ((marks k n).flatMap encS) := by rw [marks_len]; exact h
  obtain ⟨_, _, e, r⟩ := reads_of_owns encS_len h'
  simp only [Value.slice.injEq] at e
  obtain ⟨rfl, _, rfl⟩ := e
  exact r
theorem reads_marksC {w : World} {base T n k cap : Nat} {a : Option Addr} (h : w.ownsRow base T 2 (.slice a n cap) n ((marksC k n).flatMap encC)) : Reads w a 2 encC (marksC k n) := by
  have h' : w.ownsRow base T 2 (.slice a n cap) (marksC k n).length ((marksC k n).flatMap encC) := by rw [marksC_len]; exact h
  obtain ⟨_, _, e, r⟩ := reads_of_owns encC_len h'
  simp only [Value.slice.injEq] at e
  obtain ⟨rfl, _, rfl⟩ := e
  exact r
end Go.Proofs.YtjlmoghifkgehaaDoor
