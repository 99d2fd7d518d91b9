/- Lemmas and contracts that the last text leans on, joined: PgClean, EqCCell. Conditions: as each theorem says. -/
import Derived.Test.YtihghflppegnmaaGreatDoorCm8
import Derived.Test.YtihghflppegnmaaGreatDoorCm11
import Derived.Test.YtihghflppegnmaaGreatDoorCm12
import Derived.Test.YtihghflppegnmaaGreatDoorProg
import Derived.WalkKit
import Derived.WalkSpells
import Derived.WalkLawsBesides
import Derived.Test.YtihghflppegnmaaGreatDoorCm1
import Derived.Lib.Hide
import Derived.Deep.RegionHeld3
import Derived.Deep.DrawnRows
set_option linter.unusedSimpArgs false
set_option linter.unusedVariables false
namespace Go.Proofs.YtihghflppegnmaaGreatDoor
open Go.RowKit
namespace Pg
variable {α β : Type}
def Still : Pg α → Prop
 | .ret _ => True
 | .look _ f => ∀ v, Still (f v)
 | .lay _ _ _ => False
 | .under _ f => ∀ ks, Still (f ks)
def All (g : α → Prop) : Pg α → Prop
 | .ret a => g a
 | .look _ f => ∀ v, All g (f v)
 | .lay _ _ f => All g f
 | .under _ f => ∀ ks, All g (f ks)
def Clean (g : α → Prop) : Pg α → Prop
 | .ret _ => True
 | .look _ f => ∀ v, Clean g (f v)
 | .lay _ _ f => All g f
 | .under _ f => ∀ ks, Clean g (f ks)
variable {g : α → Prop} {p : β → Prop}
theorem All.sem {x : Pg α} : All g x → ∀ s : Sto, g (x.sem s).2 := by
 induction x with
 | ret a => intro h _; exact h
 | look k f ih => intro h s; exact ih _ (h _) s
 | lay k v f ih => intro h s; exact ih h _
 | under q f ih => intro h s; exact ih _ (h _) s
theorem Clean.sem {x : Pg α} : Clean g x → ∀ s : Sto, g (x.sem s).2 ∨ (x.sem s).1 = s := by
 induction x with
 | ret a => intro _ s; exact .inr rfl
 | look k f ih => intro h s; exact ih _ (h _) s
 | lay k v f ih => intro h s; exact .inl (All.sem (x := f) h _)
 | under q f ih => intro h s; exact ih _ (h _) s
theorem Still.run {x : Pg α} : Still x → ∀ m : Mch, (x.run m).1.st = m.st ∧ (x.run m).1.ws = m.ws := by
 induction x with
 | ret a => intro _ m; exact ⟨rfl, rfl⟩
 | look k f ih => intro h m; exact ih _ (h _) (lookM m k)
 | lay k v f ih => intro h; exact h.elim
 | under q f ih => intro h m; exact ih _ (h _) (lookM m (starK q))
theorem All.clean {x : Pg α} : All g x → Clean g x := by
 induction x with
 | ret a => intro _; exact trivial
 | look k f ih => intro h v; exact ih v (h v)
 | lay k v f ih => intro h; exact h
 | under q f ih => intro h v; exact ih v (h v)
theorem All.bind {x : Pg β} {h : β → Pg α} (hg : ∀ v, All g (h v)) : All g (x >>= h) := by
 induction x with
 | ret a => exact hg a
 | look k f ih => exact fun v => ih v
 | lay k v f ih => exact ih
 | under q f ih => exact fun v => ih v
theorem All.bindP {x : Pg β} {h : β → Pg α} (hx : All p x) (hg : ∀ v, p v → All g (h v)) : All g (x >>= h) := by
 induction x with
 | ret a => exact hg a hx
 | look k f ih => exact fun v => ih v (hx v)
 | lay k v f ih => exact ih hx
 | under q f ih => exact fun v => ih v (hx v)
theorem Clean.bind {x : Pg β} {h : β → Pg α} (hx : Clean p x) (hg : ∀ v, p v → All g (h v)) (hn : ∀ v, Clean g (h v)) : Clean g (x >>= h) := by
 induction x with
 | ret a => exact hn a
 | look k f ih => exact fun v => ih v (hx v)
 | lay k v f ih => exact All.bindP (x := f) hx hg
 | under q f ih => exact fun v => ih v (hx v)
theorem Clean.still {x : Pg β} {h : β → Pg α} (hx : Still x) (hn : ∀ v, Clean g (h v)) : Clean g (x >>= h) := by
 induction x with
 | ret a => exact hn a
 | look k f ih => exact fun v => ih v (hx v)
 | lay k v f ih => exact hx.elim
 | under q f ih => exact fun v => ih v (hx v)
theorem Still.bind {x : Pg β} {h : β → Pg α} (hx : Still x) (hn : ∀ v, Still (h v)) : Still (x >>= h) := by
 induction x with
 | ret a => exact hn a
 | look k f ih => exact fun v => ih v (hx v)
 | lay k v f ih => exact hx.elim
 | under q f ih => exact fun v => ih v (hx v)
theorem Clean.map {x : Pg β} {f : β → α} (hx : Clean p x) (h : ∀ v, p v → g (f v)) : Clean g (x >>= fun v => pure (f v)) := Clean.bind hx (fun v hv => h v hv) (fun _ => trivial)
theorem Clean.pure (a : α) : Clean g (Pure.pure a : Pg α) := trivial
theorem Still.pure (a : α) : Still (Pure.pure a : Pg α) := trivial
theorem Clean.ite {q : Prop} [Decidable q] {x y : Pg α} (hx : Clean g x) (hy : Clean g y) : Clean g (if q then x else y) := by
 split
 ·exact hx
 ·exact hy
theorem All.ite {q : Prop} [Decidable q] {x y : Pg α} (hx : All g x) (hy : All g y) : All g (if q then x else y) := by
 split
 ·exact hx
 ·exact hy
theorem Still.ite {q : Prop} [Decidable q] {x y : Pg α} (hx : Still x) (hy : Still y) : Still (if q then x else y) := by
 split
 ·exact hx
 ·exact hy
end Pg
open Pg
theorem numP_still (k : ByteArray) : Still (numP k) := fun _ => trivial
theorem msgP_still (k : ByteArray) : Still (msgP k) := fun _ => trivial
theorem blockP_still (i j : Int) : Still (blockP i j) := fun _ => trivial
theorem namesP_still : Still namesP := fun _ => trivial
theorem fileOfP_still (a : ByteArray) : Still (fileOfP a) := by
 unfold fileOfP;exact Still.ite (numP_still _) (Still.pure _)
theorem isPipeP_still (a : Int) : Still (isPipeP a) := by
 unfold isPipeP;exact Still.bind (numP_still _) (fun _ => trivial)
theorem stateP_still (a : Int) : Still (stateP a) := numP_still _
theorem loadP_still (a b : Int) : Still (loadP a b) := by
 unfold loadP;exact Still.ite (Still.bind (msgP_still _) (fun _ => trivial)) (Still.pure _)
theorem readL_still (id a e : Int) : ∀ (n : Nat) (p : Int) (s : ByteArray), Still (readL id a e n p s)
 | 0, _, _ => trivial
 | n + 1, _, _ => by
  unfold readL;exact Still.ite (Still.bind (blockP_still _ _) (fun _ => readL_still id a e n _ _)) trivial
theorem readP_still (a b c : Int) : Still (readP a b c) := by
 unfold readP;exact Still.bind (numP_still _) (fun _ => Still.ite trivial (readL_still _ _ _ _ _ _))
theorem kidsL_still (p : Int) : ∀ (ks : List ByteArray) (o : List Int), Still (kidsL p ks o)
 | [], _ => trivial
 | k :: ks, _ => by
  unfold kidsL;exact Still.ite (Still.bind (numP_still _) (fun _ => kidsL_still p ks _)) (kidsL_still p ks _)
theorem kidsP_still (p : Int) : Still (kidsP p) := fun _ => kidsL_still p _ _
theorem makeP_clean (a : ByteArray) : Pg.Clean (fun x => x.2 = 0) (makeP a) := by
 unfold makeP
 repeat' first | exact Pg.Clean.pure _ | exact (rfl : (_ : Int) = 0) | with_reducible refine Pg.Clean.ite ?_ ?_ | with_reducible refine Pg.Clean.still (numP_still _) (fun _ => ?_) | with_reducible refine Pg.Clean.still (msgP_still _) (fun _ => ?_) | with_reducible refine Pg.Clean.still (blockP_still _ _) (fun _ => ?_) | with_reducible refine Pg.Clean.still (fileOfP_still _) (fun _ => ?_) | with_reducible refine Pg.Clean.still (isPipeP_still _) (fun _ => ?_) | with_reducible refine Pg.Clean.still (stateP_still _) (fun _ => ?_) | (refine All.clean ?_; repeat' first | exact (rfl : (_ : Int) = 0) | with_reducible refine All.ite ?_ ?_ | with_reducible refine All.bind (fun _ => ?_))
theorem linkP_clean (a b : ByteArray) : Pg.Clean (fun x => x = 0) (linkP a b) := by
 unfold linkP
 repeat' first | exact Pg.Clean.pure _ | exact (rfl : (_ : Int) = 0) | with_reducible refine Pg.Clean.ite ?_ ?_ | with_reducible refine Pg.Clean.still (numP_still _) (fun _ => ?_) | with_reducible refine Pg.Clean.still (msgP_still _) (fun _ => ?_) | with_reducible refine Pg.Clean.still (blockP_still _ _) (fun _ => ?_) | with_reducible refine Pg.Clean.still (fileOfP_still _) (fun _ => ?_) | with_reducible refine Pg.Clean.still (isPipeP_still _) (fun _ => ?_) | with_reducible refine Pg.Clean.still (stateP_still _) (fun _ => ?_) | (refine All.clean ?_; repeat' first | exact (rfl : (_ : Int) = 0) | with_reducible refine All.ite ?_ ?_ | with_reducible refine All.bind (fun _ => ?_))
theorem unlinkP_clean (a : ByteArray) : Pg.Clean (fun x => x = 0) (unlinkP a) := by
 unfold unlinkP
 repeat' first | exact Pg.Clean.pure _ | exact (rfl : (_ : Int) = 0) | with_reducible refine Pg.Clean.ite ?_ ?_ | with_reducible refine Pg.Clean.still (numP_still _) (fun _ => ?_) | with_reducible refine Pg.Clean.still (msgP_still _) (fun _ => ?_) | with_reducible refine Pg.Clean.still (blockP_still _ _) (fun _ => ?_) | with_reducible refine Pg.Clean.still (fileOfP_still _) (fun _ => ?_) | with_reducible refine Pg.Clean.still (isPipeP_still _) (fun _ => ?_) | with_reducible refine Pg.Clean.still (stateP_still _) (fun _ => ?_) | (refine All.clean ?_; repeat' first | exact (rfl : (_ : Int) = 0) | with_reducible refine All.ite ?_ ?_ | with_reducible refine All.bind (fun _ => ?_))
theorem renameP_clean (a b : ByteArray) : Pg.Clean (fun x => x = 0) (renameP a b) := by
 unfold renameP
 repeat' first | exact Pg.Clean.pure _ | exact (rfl : (_ : Int) = 0) | with_reducible refine Pg.Clean.ite ?_ ?_ | with_reducible refine Pg.Clean.still (numP_still _) (fun _ => ?_) | with_reducible refine Pg.Clean.still (msgP_still _) (fun _ => ?_) | with_reducible refine Pg.Clean.still (blockP_still _ _) (fun _ => ?_) | with_reducible refine Pg.Clean.still (fileOfP_still _) (fun _ => ?_) | with_reducible refine Pg.Clean.still (isPipeP_still _) (fun _ => ?_) | with_reducible refine Pg.Clean.still (stateP_still _) (fun _ => ?_) | (refine All.clean ?_; repeat' first | exact (rfl : (_ : Int) = 0) | with_reducible refine All.ite ?_ ?_ | with_reducible refine All.bind (fun _ => ?_))
theorem mkPipeP_clean  : Pg.Clean (fun x => x.2 = 0) (mkPipeP ) := by
 unfold mkPipeP
 repeat' first | exact Pg.Clean.pure _ | exact (rfl : (_ : Int) = 0) | with_reducible refine Pg.Clean.ite ?_ ?_ | with_reducible refine Pg.Clean.still (numP_still _) (fun _ => ?_) | with_reducible refine Pg.Clean.still (msgP_still _) (fun _ => ?_) | with_reducible refine Pg.Clean.still (blockP_still _ _) (fun _ => ?_) | with_reducible refine Pg.Clean.still (fileOfP_still _) (fun _ => ?_) | with_reducible refine Pg.Clean.still (isPipeP_still _) (fun _ => ?_) | with_reducible refine Pg.Clean.still (stateP_still _) (fun _ => ?_) | (refine All.clean ?_; repeat' first | exact (rfl : (_ : Int) = 0) | with_reducible refine All.ite ?_ ?_ | with_reducible refine All.bind (fun _ => ?_))
theorem putPipeP_clean (a : Int) (t : ByteArray) : Pg.Clean (fun x => x = 0) (putPipeP a t) := by
 unfold putPipeP
 repeat' first | exact Pg.Clean.pure _ | exact (rfl : (_ : Int) = 0) | with_reducible refine Pg.Clean.ite ?_ ?_ | with_reducible refine Pg.Clean.still (numP_still _) (fun _ => ?_) | with_reducible refine Pg.Clean.still (msgP_still _) (fun _ => ?_) | with_reducible refine Pg.Clean.still (blockP_still _ _) (fun _ => ?_) | with_reducible refine Pg.Clean.still (fileOfP_still _) (fun _ => ?_) | with_reducible refine Pg.Clean.still (isPipeP_still _) (fun _ => ?_) | with_reducible refine Pg.Clean.still (stateP_still _) (fun _ => ?_) | (refine All.clean ?_; repeat' first | exact (rfl : (_ : Int) = 0) | with_reducible refine All.ite ?_ ?_ | with_reducible refine All.bind (fun _ => ?_))
theorem takePipeP_clean (a : Int) : Pg.Clean (fun x => x.2 = 0) (takePipeP a) := by
 unfold takePipeP
 repeat' first | exact Pg.Clean.pure _ | exact (rfl : (_ : Int) = 0) | with_reducible refine Pg.Clean.ite ?_ ?_ | with_reducible refine Pg.Clean.still (numP_still _) (fun _ => ?_) | with_reducible refine Pg.Clean.still (msgP_still _) (fun _ => ?_) | with_reducible refine Pg.Clean.still (blockP_still _ _) (fun _ => ?_) | with_reducible refine Pg.Clean.still (fileOfP_still _) (fun _ => ?_) | with_reducible refine Pg.Clean.still (isPipeP_still _) (fun _ => ?_) | with_reducible refine Pg.Clean.still (stateP_still _) (fun _ => ?_) | (refine All.clean ?_; repeat' first | exact (rfl : (_ : Int) = 0) | with_reducible refine All.ite ?_ ?_ | with_reducible refine All.bind (fun _ => ?_))
theorem spawnP_clean (a : Int) : Pg.Clean (fun x => x.2 = 0) (spawnP a) := by
 unfold spawnP
 repeat' first | exact Pg.Clean.pure _ | exact (rfl : (_ : Int) = 0) | with_reducible refine Pg.Clean.ite ?_ ?_ | with_reducible refine Pg.Clean.still (numP_still _) (fun _ => ?_) | with_reducible refine Pg.Clean.still (msgP_still _) (fun _ => ?_) | with_reducible refine Pg.Clean.still (blockP_still _ _) (fun _ => ?_) | with_reducible refine Pg.Clean.still (fileOfP_still _) (fun _ => ?_) | with_reducible refine Pg.Clean.still (isPipeP_still _) (fun _ => ?_) | with_reducible refine Pg.Clean.still (stateP_still _) (fun _ => ?_) | (refine All.clean ?_; repeat' first | exact (rfl : (_ : Int) = 0) | with_reducible refine All.ite ?_ ?_ | with_reducible refine All.bind (fun _ => ?_))
theorem endP_clean (a b : Int) : Pg.Clean (fun x => x = 0) (endP a b) := by
 unfold endP
 repeat' first | exact Pg.Clean.pure _ | exact (rfl : (_ : Int) = 0) | with_reducible refine Pg.Clean.ite ?_ ?_ | with_reducible refine Pg.Clean.still (numP_still _) (fun _ => ?_) | with_reducible refine Pg.Clean.still (msgP_still _) (fun _ => ?_) | with_reducible refine Pg.Clean.still (blockP_still _ _) (fun _ => ?_) | with_reducible refine Pg.Clean.still (fileOfP_still _) (fun _ => ?_) | with_reducible refine Pg.Clean.still (isPipeP_still _) (fun _ => ?_) | with_reducible refine Pg.Clean.still (stateP_still _) (fun _ => ?_) | (refine All.clean ?_; repeat' first | exact (rfl : (_ : Int) = 0) | with_reducible refine All.ite ?_ ?_ | with_reducible refine All.bind (fun _ => ?_))
theorem reapP_clean (a b : Int) : Pg.Clean (fun x => x.2 = 0) (reapP a b) := by
 unfold reapP
 repeat' first | exact Pg.Clean.pure _ | exact (rfl : (_ : Int) = 0) | with_reducible refine Pg.Clean.ite ?_ ?_ | with_reducible refine Pg.Clean.still (numP_still _) (fun _ => ?_) | with_reducible refine Pg.Clean.still (msgP_still _) (fun _ => ?_) | with_reducible refine Pg.Clean.still (blockP_still _ _) (fun _ => ?_) | with_reducible refine Pg.Clean.still (fileOfP_still _) (fun _ => ?_) | with_reducible refine Pg.Clean.still (isPipeP_still _) (fun _ => ?_) | with_reducible refine Pg.Clean.still (stateP_still _) (fun _ => ?_) | (refine All.clean ?_; repeat' first | exact (rfl : (_ : Int) = 0) | with_reducible refine All.ite ?_ ?_ | with_reducible refine All.bind (fun _ => ?_))
theorem sendP_clean (a b : Int) : Pg.Clean (fun x => x = 0) (sendP a b) := by
 unfold sendP
 repeat' first | exact Pg.Clean.pure _ | exact (rfl : (_ : Int) = 0) | with_reducible refine Pg.Clean.ite ?_ ?_ | with_reducible refine Pg.Clean.still (numP_still _) (fun _ => ?_) | with_reducible refine Pg.Clean.still (msgP_still _) (fun _ => ?_) | with_reducible refine Pg.Clean.still (blockP_still _ _) (fun _ => ?_) | with_reducible refine Pg.Clean.still (fileOfP_still _) (fun _ => ?_) | with_reducible refine Pg.Clean.still (isPipeP_still _) (fun _ => ?_) | with_reducible refine Pg.Clean.still (stateP_still _) (fun _ => ?_) | (refine All.clean ?_; repeat' first | exact (rfl : (_ : Int) = 0) | with_reducible refine All.ite ?_ ?_ | with_reducible refine All.bind (fun _ => ?_))
theorem takeSigP_clean (a : Int) : Pg.Clean (fun x => x.2 = 0) (takeSigP a) := by
 unfold takeSigP
 repeat' first | exact Pg.Clean.pure _ | exact (rfl : (_ : Int) = 0) | with_reducible refine Pg.Clean.ite ?_ ?_ | with_reducible refine Pg.Clean.still (numP_still _) (fun _ => ?_) | with_reducible refine Pg.Clean.still (msgP_still _) (fun _ => ?_) | with_reducible refine Pg.Clean.still (blockP_still _ _) (fun _ => ?_) | with_reducible refine Pg.Clean.still (fileOfP_still _) (fun _ => ?_) | with_reducible refine Pg.Clean.still (isPipeP_still _) (fun _ => ?_) | with_reducible refine Pg.Clean.still (stateP_still _) (fun _ => ?_) | (refine All.clean ?_; repeat' first | exact (rfl : (_ : Int) = 0) | with_reducible refine All.ite ?_ ?_ | with_reducible refine All.bind (fun _ => ?_))
theorem timerP_clean (a b : Int) : Pg.Clean (fun x => x = 0) (timerP a b) := by
 unfold timerP
 repeat' first | exact Pg.Clean.pure _ | exact (rfl : (_ : Int) = 0) | with_reducible refine Pg.Clean.ite ?_ ?_ | with_reducible refine Pg.Clean.still (numP_still _) (fun _ => ?_) | with_reducible refine Pg.Clean.still (msgP_still _) (fun _ => ?_) | with_reducible refine Pg.Clean.still (blockP_still _ _) (fun _ => ?_) | with_reducible refine Pg.Clean.still (fileOfP_still _) (fun _ => ?_) | with_reducible refine Pg.Clean.still (isPipeP_still _) (fun _ => ?_) | with_reducible refine Pg.Clean.still (stateP_still _) (fun _ => ?_) | (refine All.clean ?_; repeat' first | exact (rfl : (_ : Int) = 0) | with_reducible refine All.ite ?_ ?_ | with_reducible refine All.bind (fun _ => ?_))
theorem tickP_clean (a : Int) : Pg.Clean (fun x => x.2 = 0) (tickP a) := by
 unfold tickP
 repeat' first | exact Pg.Clean.pure _ | exact (rfl : (_ : Int) = 0) | with_reducible refine Pg.Clean.ite ?_ ?_ | with_reducible refine Pg.Clean.still (numP_still _) (fun _ => ?_) | with_reducible refine Pg.Clean.still (msgP_still _) (fun _ => ?_) | with_reducible refine Pg.Clean.still (blockP_still _ _) (fun _ => ?_) | with_reducible refine Pg.Clean.still (fileOfP_still _) (fun _ => ?_) | with_reducible refine Pg.Clean.still (isPipeP_still _) (fun _ => ?_) | with_reducible refine Pg.Clean.still (stateP_still _) (fun _ => ?_) | (refine All.clean ?_; repeat' first | exact (rfl : (_ : Int) = 0) | with_reducible refine All.ite ?_ ?_ | with_reducible refine All.bind (fun _ => ?_))
theorem storeP_clean (a b : Int) (t : ByteArray) : Pg.Clean (fun x => x = 0) (storeP a b t) := by
 unfold storeP
 repeat' first | exact Pg.Clean.pure _ | exact (rfl : (_ : Int) = 0) | with_reducible refine Pg.Clean.ite ?_ ?_ | with_reducible refine Pg.Clean.still (numP_still _) (fun _ => ?_) | with_reducible refine Pg.Clean.still (msgP_still _) (fun _ => ?_) | with_reducible refine Pg.Clean.still (blockP_still _ _) (fun _ => ?_) | with_reducible refine Pg.Clean.still (fileOfP_still _) (fun _ => ?_) | with_reducible refine Pg.Clean.still (isPipeP_still _) (fun _ => ?_) | with_reducible refine Pg.Clean.still (stateP_still _) (fun _ => ?_) | (refine All.clean ?_; repeat' first | exact (rfl : (_ : Int) = 0) | with_reducible refine All.ite ?_ ?_ | with_reducible refine All.bind (fun _ => ?_))
theorem putOutP_clean (t : ByteArray) : Pg.Clean (fun x => x = 0) (putOutP t) := by
 unfold putOutP
 repeat' first | exact Pg.Clean.pure _ | exact (rfl : (_ : Int) = 0) | with_reducible refine Pg.Clean.ite ?_ ?_ | with_reducible refine Pg.Clean.still (numP_still _) (fun _ => ?_) | with_reducible refine Pg.Clean.still (msgP_still _) (fun _ => ?_) | with_reducible refine Pg.Clean.still (blockP_still _ _) (fun _ => ?_) | with_reducible refine Pg.Clean.still (fileOfP_still _) (fun _ => ?_) | with_reducible refine Pg.Clean.still (isPipeP_still _) (fun _ => ?_) | with_reducible refine Pg.Clean.still (stateP_still _) (fun _ => ?_) | (refine All.clean ?_; repeat' first | exact (rfl : (_ : Int) = 0) | with_reducible refine All.ite ?_ ?_ | with_reducible refine All.bind (fun _ => ?_))
theorem writeP_clean (a b : Int) (t : ByteArray) : Pg.Clean (fun x => x = 0) (writeP a b t) := by
 unfold writeP
 repeat' first | exact Pg.Clean.pure _ | exact (rfl : (_ : Int) = 0) | with_reducible refine Pg.Clean.ite ?_ ?_ | with_reducible refine Pg.Clean.still (numP_still _) (fun _ => ?_) | with_reducible refine Pg.Clean.still (msgP_still _) (fun _ => ?_) | with_reducible refine Pg.Clean.still (blockP_still _ _) (fun _ => ?_) | with_reducible refine Pg.Clean.still (fileOfP_still _) (fun _ => ?_) | with_reducible refine Pg.Clean.still (isPipeP_still _) (fun _ => ?_) | with_reducible refine Pg.Clean.still (stateP_still _) (fun _ => ?_) | (refine All.clean ?_; repeat' first | exact (rfl : (_ : Int) = 0) | with_reducible refine All.ite ?_ ?_ | with_reducible refine All.bind (fun _ => ?_))
theorem cutP_clean (a b : Int) : Pg.Clean (fun x => x = 0) (cutP a b) := by
 unfold cutP
 repeat' first | exact Pg.Clean.pure _ | exact (rfl : (_ : Int) = 0) | with_reducible refine Pg.Clean.ite ?_ ?_ | with_reducible refine Pg.Clean.still (numP_still _) (fun _ => ?_) | with_reducible refine Pg.Clean.still (msgP_still _) (fun _ => ?_) | with_reducible refine Pg.Clean.still (blockP_still _ _) (fun _ => ?_) | with_reducible refine Pg.Clean.still (fileOfP_still _) (fun _ => ?_) | with_reducible refine Pg.Clean.still (isPipeP_still _) (fun _ => ?_) | with_reducible refine Pg.Clean.still (stateP_still _) (fun _ => ?_) | (refine All.clean ?_; repeat' first | exact (rfl : (_ : Int) = 0) | with_reducible refine All.ite ?_ ?_ | with_reducible refine All.bind (fun _ => ?_))
theorem fileP_clean (c : Cal) : Pg.Clean (fun a : Ans => a.code = 0) (fileP c) := by
 unfold fileP;refine Pg.Clean.still (fileOfP_still _) (fun _ => Pg.Clean.ite (Pg.Clean.pure _) (Pg.Clean.ite (Pg.Clean.still (readP_still _ _ _) (fun _ => Pg.Clean.pure _)) (Pg.Clean.ite ?_ ?_)))
 ·exact Pg.Clean.map (writeP_clean _ _ _) (fun _ h => h)
 ·exact Pg.Clean.map (cutP_clean _ _) (fun _ h => h)
theorem spawnAllP_clean (a : Int) : Pg.Clean (fun a : Ans => a.code = 0) (spawnAllP a) := by
 unfold spawnAllP;refine Pg.Clean.bind (spawnP_clean _) (fun v hv => ?_) (fun v => ?_)
 ·rw [if_pos hv]; exact All.bind (fun _ => hv)
 ·split
  ·rename_i h; exact All.clean (All.bind (fun _ => h))
  ·exact Pg.Clean.pure _
theorem endAllP_clean (a b : Int) : Pg.Clean (fun a : Ans => a.code = 0) (endAllP a b) := by
 unfold endAllP;refine Pg.Clean.bind (endP_clean _ _) (fun v hv => ?_) (fun v => ?_)
 ·rw [if_pos hv]; exact All.bind (fun _ => hv)
 ·split
  ·rename_i h; exact All.clean (All.bind (fun _ => h))
  ·exact Pg.Clean.pure _
theorem kindP_clean (p : Int) (c : Cal) : Pg.Clean (fun a : Ans => a.code = 0) (kindP p c) := by
 unfold kindP;refine Pg.Clean.ite (Pg.Clean.map (makeP_clean _) (fun _ h => h)) (Pg.Clean.ite (Pg.Clean.map (linkP_clean _ _) (fun _ h => h)) (Pg.Clean.ite (Pg.Clean.map (unlinkP_clean _) (fun _ h => h)) (Pg.Clean.ite (Pg.Clean.map (renameP_clean _ _) (fun _ h => h)) ?_)));refine Pg.Clean.ite (Pg.Clean.still namesP_still (fun _ => Pg.Clean.pure _)) (Pg.Clean.ite (fileP_clean _) (Pg.Clean.ite (Pg.Clean.map mkPipeP_clean (fun _ h => h)) (Pg.Clean.ite (Pg.Clean.map (putPipeP_clean _ _) (fun _ h => h)) (Pg.Clean.ite (Pg.Clean.map (takePipeP_clean _) (fun _ h => h)) ?_))));refine Pg.Clean.ite (spawnAllP_clean _) (Pg.Clean.ite (endAllP_clean _ _) (Pg.Clean.ite (Pg.Clean.map (reapP_clean _ _) (fun _ h => h)) (Pg.Clean.ite (Pg.Clean.still (kidsP_still _) (fun _ => Pg.Clean.pure _)) (Pg.Clean.ite (Pg.Clean.map (sendP_clean _ _) (fun _ h => h)) ?_))));refine Pg.Clean.ite (Pg.Clean.map (takeSigP_clean _) (fun _ h => h)) (Pg.Clean.ite (Pg.Clean.map (timerP_clean _ _) (fun _ h => h)) (Pg.Clean.ite (Pg.Clean.map (tickP_clean _) (fun _ h => h)) (Pg.Clean.ite (Pg.Clean.map (storeP_clean _ _ _) (fun _ h => h)) (Pg.Clean.ite (Pg.Clean.still (loadP_still _ _) (fun _ => Pg.Clean.pure _)) (Pg.Clean.map (putOutP_clean _) (fun _ h => h))))))
theorem callP_clean (p : Int) (c : Cal) : Pg.Clean (fun a : Ans => a.code = 0) (callP p c) := by
 unfold callP;exact Pg.Clean.still (stateP_still _) (fun _ => Pg.Clean.ite (Pg.Clean.ite (kindP_clean _ _) (Pg.Clean.pure _)) (Pg.Clean.pure _))
theorem callP_refused (p : Int) (c : Cal) (m : Mch) : ((callP p c).run m).2.code = 0 ∨ ((callP p c).run m).1.st = m.st := by
 obtain ⟨h1, h2⟩ := (callP p c).run_sem m;rw [h1, h2];exact (callP_clean p c).sem m.st
end Go.Proofs.YtihghflppegnmaaGreatDoor
namespace Go.Proofs.YtihghflppegnmaaGreatDoor
open Go.RowKit
attribute [local go_sem ↓] Go.wp_at_zero Go.wp_at_succ
theorem readqCCell {w wr : World} {a : Option Addr} {xs : List (ByteArray × ByteArray)} (hr : Reads w a 2 encC xs) (hb : Below w.heap.size w wr) {k : Nat} {x : (ByteArray × ByteArray)} (hx : xs[k]? = some x) :
 ∃ b off, a = some ⟨b, off, none⟩ ∧ wr.cell? ⟨b, off + k * 2, none⟩ = some (.string x.1) ∧ wr.cell? ⟨b, off + k * 2 + 1, none⟩ = some (.string x.2) := by
 rcases hr.below hb with rfl | ⟨b, off, h1, _, h3⟩
 ·simp at hx
 ·exact ⟨b, off, h1, by simpa [Nat.add_assoc] using h3 k x hx 0 _ rfl, by simpa [Nat.add_assoc] using h3 k x hx 1 _ rfl⟩
set_option maxHeartbeats 4000000 in
theorem lawEqCell_c (a a2 : Option Addr) (cap cap2 : Nat) (xs ys : List (ByteArray × ByteArray)) (w : World) (hlen : xs.length ≤ maxLen) (hr : Reads w a 2 encC xs) (hr2 : Reads w a2 2 encC ys) :
 Calls Tryz.prog 17 #[.slice a xs.length cap, .slice a2 ys.length cap2] w fun e w' => e = .returned (.bool (same xs ys)) ∧ Below w.heap.size w w' := by
 have HR := Lib.hid hr;have HR2 := Lib.hid hr2;clear hr hr2;unfold maxLen at hlen;by_cases h1 : xs.length = ys.length
 ·have HE := Lib.hid h1;have hq : ((xs.length : Int) != (ys.length : Int)) = false := by simp [h1]
  have h1' : ys.length ≤ xs.length := by omega
  have h1'' : xs.length ≤ ys.length := by omega
  clear h1;go_enter Tryz.func17, Tryz.ntmps17;go_wp2;go_loopw [5] (fun i wr => ∃ k : Nat, k ≤ xs.length ∧ i = .int .i64 k ∧ upTo xs ys k ∧ Below w.heap.size w wr) (fun i _ => xs.length - (intOf i).toNat)
  case atStart => exact ⟨0, Nat.zero_le _, rfl, upTo_zero _ _, (by repeat (first | exact Below.refl _ _ | assumption | refine Below.alloc ?_ (by simp <;> omega) _ | refine Below.setCell ?_ (by simp <;> omega) _ | refine Below.drew ?_))⟩
  case round =>
   obtain ⟨k, hk, rfl, hup, hb⟩ := hrel;by_cases hlt : k < xs.length
   ·obtain ⟨x, hx⟩ := some_of_lt hlt;obtain ⟨y, hy⟩ := some_of_lt (xs := ys) (k := k) (by omega);obtain ⟨b, off, rfl, c0, c1⟩ := readqCCell HR.out hb hx;obtain ⟨b2, off2, rfl, d0, d1⟩ := readqCCell HR2.out hb hy;have p1 : (0 : Int) ≤ (k : Int) := by omega
    have p2 : (k : Int) < (xs.length : Int) := by omega
    have p3 : (k : Int) < (ys.length : Int) := by omega
    have HX := Lib.hid hx;have HY := Lib.hid hy;clear hx hy;obtain ⟨a0, a1⟩ := x;obtain ⟨e0, e1⟩ := y;dsimp only at c0 c1 d0 d1;by_cases h2 : a0 = e0
    rotate_left
    ·have HN := Lib.hid (same_at HX.out HY.out (same_ne (by simp [h2])));have q1 := toList_ne h2;have q2 := beq_toList_false h2;have q3 := bne_toList_true h2;clear HX HY;go_wp2_with fail;go_region_held3 (fun w' => w'.cell? ⟨b, off + k * 2, none⟩ = some (.string a0) ∧ w'.cell? ⟨b, off + k * 2 + 1, none⟩ = some (.string a1) ∧ w'.cell? ⟨b2, off2 + k * 2, none⟩ = some (.string e0) ∧ w'.cell? ⟨b2, off2 + k * 2 + 1, none⟩ = some (.string e1)) ((go_split_ands; (repeat' apply And.intro) <;> first | assumption | exact keepS (by assumption) (by assumption))) (fail);go_wp2;go_ret;exact ⟨by rw [HN.out]; rfl, (by repeat (first | exact Below.refl _ _ | refine Below.drew ?_ | refine below_drewN ?_ _ | refine Below.allocC ?_ _ | refine Below.setCell ?_ (by first | (simp; done) | (simp; omega)) _ | refine Below.chain ?_ (by assumption)))⟩
    subst h2;by_cases h3 : a1 = e1
    rotate_left
    ·have HN := Lib.hid (same_at HX.out HY.out (same_ne (by simp [h3])));have q1 := toList_ne h3;have q2 := beq_toList_false h3;have q3 := bne_toList_true h3;clear HX HY;go_wp2_with fail;go_region_held3 (fun w' => w'.cell? ⟨b, off + k * 2, none⟩ = some (.string a0) ∧ w'.cell? ⟨b, off + k * 2 + 1, none⟩ = some (.string a1) ∧ w'.cell? ⟨b2, off2 + k * 2, none⟩ = some (.string a0) ∧ w'.cell? ⟨b2, off2 + k * 2 + 1, none⟩ = some (.string e1)) ((go_split_ands; (repeat' apply And.intro) <;> first | assumption | exact keepS (by assumption) (by assumption))) (fail);go_wp2;go_ret;exact ⟨by rw [HN.out]; rfl, (by repeat (first | exact Below.refl _ _ | refine Below.drew ?_ | refine below_drewN ?_ _ | refine Below.allocC ?_ _ | refine Below.setCell ?_ (by first | (simp; done) | (simp; omega)) _ | refine Below.chain ?_ (by assumption)))⟩
    subst h3;have hs := upTo_succ hup HX.out HY.out (same_self _);clear HX HY;go_wp2_with fail;go_region_held3 (fun w' => w'.cell? ⟨b, off + k * 2, none⟩ = some (.string a0) ∧ w'.cell? ⟨b, off + k * 2 + 1, none⟩ = some (.string a1) ∧ w'.cell? ⟨b2, off2 + k * 2, none⟩ = some (.string a0) ∧ w'.cell? ⟨b2, off2 + k * 2 + 1, none⟩ = some (.string a1)) ((go_split_ands; (repeat' apply And.intro) <;> first | assumption | exact keepS (by assumption) (by assumption))) (fail);go_wp2;go_roundw
    case rel => exact ⟨k + 1, by omega, by go_num, hs, (by repeat (first | exact Below.refl _ _ | refine Below.drew ?_ | refine below_drewN ?_ _ | refine Below.allocC ?_ _ | refine Below.setCell ?_ (by first | (simp; done) | (simp; omega)) _ | refine Below.chain ?_ (by assumption)))⟩
    case measure => simp [intOf]; omega
   ·have HS := Lib.hid (same_end hup (by omega) (by omega));go_wp2;go_ret;exact ⟨by rw [HS.out]; rfl, hb⟩
 ·have HS := Lib.hid (same_len h1);have hq : ((xs.length : Int) != (ys.length : Int)) = true := by simp; omega
  clear h1;go_enter Tryz.func17, Tryz.ntmps17;go_wp2;go_ret;exact ⟨by rw [HS.out]; rfl, (by repeat (first | exact Below.refl _ _ | assumption | refine Below.alloc ?_ (by simp <;> omega) _ | refine Below.setCell ?_ (by simp <;> omega) _ | refine Below.drew ?_))⟩
end Go.Proofs.YtihghflppegnmaaGreatDoor
