/- Contracts for the laws' helpers on slices of String: szStringS counts, eqStringS compares. Conditions: only the bounds that any Go string and slice meets. -/
import Derived.Test.YtjlmoghifkgehaaDoorProg
import Derived.WalkKit
import Derived.WalkSpells
import Derived.WalkLawsBesides
import Derived.Test.YtjlmoghifkgehaaDoorOwn
import Derived.Lib.Hide
import Derived.Deep.RegionHeld3
import Derived.Deep.DrawnRows
namespace Go.Proofs.YtjlmoghifkgehaaDoor
open Go.RowKit
attribute [local go_sem ↓] Go.wp_at_zero Go.wp_at_succ

theorem readString {w wr : World} {a : Option Addr} {xs : List ByteArray} (hr : Reads w a 1 encS xs) (hb : Below w.heap.size w wr) {k : Nat} {x : ByteArray} (hx : xs[k]? = some x) :
    ∃ b off, a = some ⟨b, off, none⟩ ∧ wr.cell? ⟨b, off + k, none⟩ = some (.string x) := by
  rcases hr.below hb with rfl | ⟨b, off, h1, _, h3⟩
  · simp at hx
  · exact ⟨b, off, h1, by simpa [Nat.add_assoc] using h3 k x hx 0 _ rfl⟩

theorem infoString : (Tryd.prog.info? 9).map (fun i => (i.zero, i.size, i.bytes)) = some (some (.string ⟨#[]⟩), 1, 16) := by kernel_rfl
end Go.Proofs.YtjlmoghifkgehaaDoor
