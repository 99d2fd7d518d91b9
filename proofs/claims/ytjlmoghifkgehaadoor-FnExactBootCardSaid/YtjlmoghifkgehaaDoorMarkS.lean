/- Contracts: the laws' markStringS and heldStringS: marks written into an own row of texts, and found there. Conditions: the row is the caller's own; the numbers are positive and small. -/
import Derived.Test.YtjlmoghifkgehaaDoorMark
import Derived.Test.YtjlmoghifkgehaaDoorFind
namespace Go.Proofs.YtjlmoghifkgehaaDoor
open Go.RowKit
attribute [local go_sem ↓] Go.wp_at_zero Go.wp_at_succ
/-- The n marks from k on. -/
def marks (k n : Nat) : List ByteArray := (List.range n).map (fun j => markT (k + j))
theorem marks_len (k n : Nat) : (marks k n).length = n := by simp [marks]
theorem marks_succ (k n : Nat) : marks k (n + 1) = marks k n ++ [markT (k + n)] := by simp [marks, List.range_succ]
theorem marks_get {k n j : Nat} (h : j < n) : (marks k n)[j]? = some (markT (k + j)) := by simp [marks, h]
theorem marks_flat (k n : Nat) : ((marks k n).flatMap encS).length = n := by rw [length_flatMap_const encS_len, marks_len, Nat.mul_one]
/-- A row of which the first cells are 'done' and that is the caller's own. -/
theorem Filling.owned {w : World} {b e K n cap base : Nat} {done : List Value} (h : Filling w b e K cap done) (hd : done.length = n * K) (hb : base ≤ b) (hn : n ≤ cap) (hc : cap ≤ maxLen) : w.ownsRow base e K (.slice (some ⟨b, 0, none⟩) n cap) n done := by
  obtain ⟨cur, h1, h2, h3⟩ := h
  exact ⟨hd, .inr ⟨b, cap, cur, rfl, hb, h1, hn, hc, h2, by rw [← hd]; exact h3⟩⟩

/-- Behind marking: the value holds the marks, and nothing else that was there is written. -/
def MarkedS (T k n : Nat) (v : Value) (base : Nat) (w : World) (e : Ending) (w' : World) : Prop :=
  e = .returned (.int .i64 ((k + n : Nat) : Int)) ∧ w'.ownsRow base T 1 v n ((marks k n).flatMap encS) ∧ w.grownBy w' v.ownBlock

end Go.Proofs.YtjlmoghifkgehaaDoor
