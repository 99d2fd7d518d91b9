/- Lemmas and contracts that the last text leans on, joined: KeysIn, DrawK, DrawL, Small, KeysN, LawAgreesW. Conditions: as each theorem says. -/
import Derived.Test.YtihghflppegnmaaGreatDoorCz12
import Derived.Test.YtihghflppegnmaaGreatDoorCz4
import Derived.Test.YtihghflppegnmaaGreatDoorCz11
import Derived.Test.YtihghflppegnmaaGreatDoorCz6
import Derived.Test.YtihghflppegnmaaGreatDoorCz3
import Derived.Test.YtihghflppegnmaaGreatDoorCz2
import Derived.Test.YtihghflppegnmaaGreatDoorCz8
import Derived.Deep.CutRange
import Derived.Test.YtihghflppegnmaaGreatDoorCards
import Derived.Test.YtihghflppegnmaaGreatDoorTie
import Derived.Test.YtihghflppegnmaaGreatDoorCz7
import Derived.Test.YtihghflppegnmaaGreatDoorCz1
import Derived.LaidMore
import Derived.OpenVars
import Derived.Stop.Joined
import Derived.SevenTiedAt
import Derived.Lib.LaidU8
import Derived.LaidLaws
import Derived.Lib.Hide
import Derived.Deep.RegionHeld3
import Derived.Deep.DrawnRows
import Derived.BigQuiet
set_option linter.unusedSimpArgs false
set_option linter.unusedVariables false
namespace Go.Proofs.YtihghflppegnmaaGreatDoor
open Go.RowKit
abbrev Sm (n : Int) : Prop := 0 ≤ n ∧ n ≤ 999
namespace Pg
variable {α β : Type}
def KS (V : ByteArray → Prop) (Q : α → Prop) : Pg α → Prop
 | .ret a => Q a
 | .look k f => V k ∧ ∀ v, KS V Q (f v)
 | .lay k _ f => V k ∧ KS V Q f
 | .under p f => V (starK p) ∧ ∀ ks : List ByteArray, (∀ k ∈ ks, V k ∧ beginsB k p = true) → KS V Q (f ks)
variable {V : ByteArray → Prop} {Q : α → Prop} {R : β → Prop}
theorem KS.bind {x : Pg α} {g : α → Pg β} (hx : KS V Q x) (hg : ∀ v, Q v → KS V R (g v)) : KS V R (x >>= g) := by
 induction x with
 | ret a => exact hg a hx
 | look k f ih => exact ⟨hx.1, fun v => ih v (hx.2 v)⟩
 | lay k v f ih => exact ⟨hx.1, ih hx.2⟩
 | under p f ih => exact ⟨hx.1, fun ks h => ih ks (hx.2 ks h)⟩
theorem KS.pure (a : α) (h : Q a) : KS V Q (Pure.pure a : Pg α) := h
theorem KS.ite {p : Prop} [Decidable p] {x y : Pg α} (hx : p → KS V Q x) (hy : ¬ p → KS V Q y) : KS V Q (if p then x else y) := by
 split
 ·exact hx (by assumption)
 ·exact hy (by assumption)
theorem KS.mono {Q' : α → Prop} {x : Pg α} (hx : KS V Q x) (h : ∀ v, Q v → Q' v) : KS V Q' x := by
 induction x with
 | ret a => exact h a hx
 | look k f ih => exact ⟨hx.1, fun v => ih v (hx.2 v)⟩
 | lay k v f ih => exact ⟨hx.1, ih hx.2⟩
 | under p f ih => exact ⟨hx.1, fun ks hk => ih ks (hx.2 ks hk)⟩
end Pg
open Pg
structure Vok (V : ByteArray → Prop) (I : Int → Prop) (N : ByteArray → Prop) : Prop where
 sm : ∀ i : Int, 0 ≤ i → i ≤ 999 → I i
 procS : ∀ i : Int, I i → V (procK i tS)
 procP : ∀ i : Int, I i → V (procK i tP)
 procX : ∀ i : Int, I i → V (procK i tX)
 procA : ∀ i : Int, I i → V (starK (procK i tSl))
 sigT : ∀ i : Int, I i → V (sigK i tT)
 sigH : ∀ i : Int, I i → V (sigK i tH)
 pipeO : ∀ i : Int, I i → V (pipeK i tO)
 pipeT : ∀ i : Int, I i → V (pipeK i tT)
 pipeH : ∀ i : Int, I i → V (pipeK i tH)
 timer : ∀ i : Int, I i → V (timerK i)
 pagesA : ∀ i : Int, I i → V (starK (pagesK i))
 links : ∀ i : Int, I i → V (linksK i)
 size : ∀ i : Int, I i → V (sizeK i)
 fileA : ∀ i : Int, I i → V (starK (fileK i))
 sigQ : ∀ i j : Int, I i → 0 ≤ j → j ≤ 1000 → V (sigQ i j)
 pipeQ : ∀ i j : Int, I i → 0 ≤ j → j ≤ 1000 → V (pipeQ i j)
 page : ∀ i j : Int, I i → 0 ≤ j → j ≤ 1000 → V (pageK i j)
 block : ∀ i j : Int, I i → 0 ≤ j → j ≤ 1000 → V (blockK i j)
 out : ∀ j : Int, 0 ≤ j → j ≤ 1000 → V (outK1 j)
 nam : ∀ s, N s → V (nK s)
 cfile : V (cFile)
 cpipe : V (cPipe)
 cproc : V (cProc)
 cclock : V (cClock)
 dn : V (dnK)
 nA : V (starK nHead)
 tA : V (starK tHead)
 rA : V (starK rHead)
 fork : ∀ (a b : Int) (k : ByteArray), 0 ≤ b → b ≤ 999 → V k → beginsB k (pagesK a) = true → V (pagesK b ++ k.extract (pagesK a).size k.size)
variable {V : ByteArray → Prop} {I : Int → Prop} {N : ByteArray → Prop} {α : Type}
theorem ks_num {k : ByteArray} (h : V k) : KS V Sm (numP k) := ⟨h, fun v => numOf_bounds v⟩
theorem ks_set {k : ByteArray} {n : Int} (h : V k) : KS V (fun _ => True) (setP k n) := ⟨h, trivial⟩
theorem ks_lay {k v : ByteArray} (h : V k) : KS V (fun _ => True) (layP k v) := ⟨h, trivial⟩
theorem ks_msg {k : ByteArray} (h : V k) : KS V (fun _ => True) (msgP k) := ⟨h, fun _ => trivial⟩
theorem ks_layAll : ∀ (ks : List ByteArray), (∀ k ∈ ks, V k) → KS V (fun _ => True) (layAll ks)
 | [], _ => trivial
 | k :: ks, h => ⟨h k List.mem_cons_self, ks_layAll ks (fun x hx => h x (List.mem_cons_of_mem _ hx))⟩
theorem ks_wipe {p : ByteArray} (h : V (starK p)) : KS V (fun _ => True) (wipeP p) := ⟨h, fun ks hk => ks_layAll ks (fun k hx => (hk k hx).1)⟩
theorem ks_fileOf (H : Vok V I N) {a : ByteArray} (ha : N a) : KS V Sm (fileOfP a) := by
 unfold fileOfP
 repeat' first | (with_reducible refine KS.pure _ ?_; first | exact True.intro | (constructor <;> omega) | (constructor <;> (dsimp only; omega))) | with_reducible exact (ks_num (by first | assumption | (with_reducible refine H.nam _ ?_; assumption))) | with_reducible refine KS.ite (fun _ => ?_) (fun _ => ?_)
theorem ks_bump {k : ByteArray} (h : V k) : KS V Sm (bumpP k) := by
 unfold bumpP;refine KS.bind (ks_num h) ?_;rintro v ⟨h1, h2⟩;refine KS.ite (fun _ => KS.pure _ ⟨by omega, by omega⟩) (fun hq => ?_);refine KS.bind (ks_set h) (fun _ _ => KS.pure _ ⟨by omega, by omega⟩)
theorem ks_make (H : Vok V I N) {a : ByteArray} (ha : N a) : KS V (fun _ => True) (makeP a) := by
 unfold makeP
 repeat' first | (with_reducible refine KS.pure _ ?_; first | exact True.intro | (constructor <;> omega) | (constructor <;> (dsimp only; omega))) | (with_reducible refine KS.bind (ks_num (by first | assumption | (with_reducible refine H.nam _ ?_; assumption) | with_reducible exact H.links _ (by first | assumption | exact H.sm _ (by omega) (by omega)) | with_reducible exact H.cfile)) ?_; rintro v ⟨_, _⟩) | with_reducible refine KS.bind (ks_set (by first | assumption | (with_reducible refine H.nam _ ?_; assumption) | with_reducible exact H.links _ (by first | assumption | exact H.sm _ (by omega) (by omega)) | with_reducible exact H.cfile)) (fun _ _ => ?_) | (with_reducible refine KS.bind (ks_fileOf H (by assumption)) ?_; rintro v ⟨_, _⟩) | (with_reducible refine KS.bind (ks_bump (by first | assumption | (with_reducible refine H.nam _ ?_; assumption) | with_reducible exact H.links _ (by first | assumption | exact H.sm _ (by omega) (by omega)) | with_reducible exact H.cfile)) ?_; rintro v ⟨_, _⟩) | with_reducible refine KS.ite (fun _ => ?_) (fun _ => ?_)
theorem ks_link (H : Vok V I N) {a b : ByteArray} (ha : N a) (hb : N b) : KS V (fun _ => True) (linkP a b) := by
 unfold linkP
 repeat' first | (with_reducible refine KS.pure _ ?_; first | exact True.intro | (constructor <;> omega) | (constructor <;> (dsimp only; omega))) | (with_reducible refine KS.bind (ks_num (by first | assumption | (with_reducible refine H.nam _ ?_; assumption) | with_reducible exact H.links _ (by first | assumption | exact H.sm _ (by omega) (by omega)))) ?_; rintro v ⟨_, _⟩) | with_reducible refine KS.bind (ks_set (by first | assumption | (with_reducible refine H.nam _ ?_; assumption) | with_reducible exact H.links _ (by first | assumption | exact H.sm _ (by omega) (by omega)))) (fun _ _ => ?_) | (with_reducible refine KS.bind (ks_fileOf H (by assumption)) ?_; rintro v ⟨_, _⟩) | with_reducible refine KS.ite (fun _ => ?_) (fun _ => ?_)
theorem ks_unlink (H : Vok V I N) {a : ByteArray} (ha : N a) : KS V (fun _ => True) (unlinkP a) := by
 unfold unlinkP
 repeat' first | (with_reducible refine KS.pure _ ?_; first | exact True.intro | (constructor <;> omega) | (constructor <;> (dsimp only; omega))) | (with_reducible refine KS.bind (ks_num (by first | assumption | (with_reducible refine H.nam _ ?_; assumption) | with_reducible exact H.links _ (by first | assumption | exact H.sm _ (by omega) (by omega)) | with_reducible exact H.fileA _ (by first | assumption | exact H.sm _ (by omega) (by omega)))) ?_; rintro v ⟨_, _⟩) | with_reducible refine KS.bind (ks_set (by first | assumption | (with_reducible refine H.nam _ ?_; assumption) | with_reducible exact H.links _ (by first | assumption | exact H.sm _ (by omega) (by omega)) | with_reducible exact H.fileA _ (by first | assumption | exact H.sm _ (by omega) (by omega)))) (fun _ _ => ?_) | with_reducible refine KS.bind (ks_lay (by first | assumption | (with_reducible refine H.nam _ ?_; assumption) | with_reducible exact H.links _ (by first | assumption | exact H.sm _ (by omega) (by omega)) | with_reducible exact H.fileA _ (by first | assumption | exact H.sm _ (by omega) (by omega)))) (fun _ _ => ?_) | (with_reducible refine KS.bind (ks_fileOf H (by assumption)) ?_; rintro v ⟨_, _⟩) | with_reducible refine KS.bind (ks_wipe (by first | assumption | (with_reducible refine H.nam _ ?_; assumption) | with_reducible exact H.links _ (by first | assumption | exact H.sm _ (by omega) (by omega)) | with_reducible exact H.fileA _ (by first | assumption | exact H.sm _ (by omega) (by omega)))) (fun _ _ => ?_) | with_reducible exact (ks_wipe (by first | assumption | (with_reducible refine H.nam _ ?_; assumption) | with_reducible exact H.links _ (by first | assumption | exact H.sm _ (by omega) (by omega)) | with_reducible exact H.fileA _ (by first | assumption | exact H.sm _ (by omega) (by omega)))) | with_reducible refine KS.ite (fun _ => ?_) (fun _ => ?_)
theorem ks_rename (H : Vok V I N) {a b : ByteArray} (ha : N a) (hb : N b) : KS V (fun _ => True) (renameP a b) := by
 unfold renameP
 repeat' first | (with_reducible refine KS.pure _ ?_; first | exact True.intro | (constructor <;> omega) | (constructor <;> (dsimp only; omega))) | with_reducible refine KS.bind (ks_set (by first | assumption | (with_reducible refine H.nam _ ?_; assumption))) (fun _ _ => ?_) | with_reducible refine KS.bind (ks_lay (by first | assumption | (with_reducible refine H.nam _ ?_; assumption))) (fun _ _ => ?_) | (with_reducible refine KS.bind (ks_fileOf H (by assumption)) ?_; rintro v ⟨_, _⟩) | with_reducible refine KS.bind (ks_unlink H (by assumption)) (fun _ _ => ?_) | with_reducible refine KS.ite (fun _ => ?_) (fun _ => ?_)
theorem ks_names (H : Vok V I N) : KS V (fun _ => True) namesP := ⟨H.nA, fun _ _ => trivial⟩
theorem ks_block (H : Vok V I N) {i j : Int} (hi : I i) (h0 : 0 ≤ j) (h1 : j ≤ 1000) : KS V (fun _ => True) (blockP i j) := ⟨H.block i j hi h0 h1, fun _ => trivial⟩
theorem ks_readL (H : Vok V I N) {i : Int} (hi : I i) (a e : Int) (he : e ≤ 2000) : ∀ (n : Nat) (p : Int) (s : ByteArray), 0 ≤ p → KS V (fun _ => True) (readL i a e n p s)
 | 0, _, _, _ => trivial
 | n + 1, p, s, hp => by
  unfold readL;refine KS.ite (fun _ => ?_) (fun _ => KS.pure _ trivial);exact KS.bind (ks_block H hi (by omega) (by omega)) (fun _ _ => ks_readL H hi a e he n _ _ (by omega))
theorem ks_read (H : Vok V I N) {i : Int} (hi : I i) (a n : Int) : KS V (fun _ => True) (readP i a n) := by
 unfold readP;refine KS.bind (ks_num (H.size _ hi)) ?_;rintro v ⟨h1, h2⟩;refine KS.ite (fun _ => KS.pure _ trivial) (fun hq => ?_);exact ks_readL H hi _ _ (by omega) _ _ _ (by omega)
theorem ks_writeL (H : Vok V I N) {i : Int} (hi : I i) (a e : Int) (t : ByteArray) (he : e ≤ 2000) : ∀ (n : Nat) (p : Int), 0 ≤ p → KS V (fun _ => True) (writeL i a e t n p)
 | 0, _, _ => trivial
 | n + 1, p, hp => by
  unfold writeL;refine KS.ite (fun _ => ?_) (fun _ => KS.pure _ trivial);exact KS.bind (ks_block H hi (by omega) (by omega)) (fun _ _ => KS.bind (ks_lay (H.block _ _ hi (by omega) (by omega))) (fun _ _ => ks_writeL H hi a e t he n _ (by omega)))
theorem ks_write (H : Vok V I N) {i : Int} (hi : I i) (a : Int) (t : ByteArray) : KS V (fun _ => True) (writeP i a t) := by
 unfold writeP;refine KS.bind (ks_num (H.size _ hi)) ?_;rintro v ⟨h1, h2⟩;refine KS.ite (fun hq => ?_) (fun _ => KS.pure _ trivial);rw [Bool.and_eq_true] at hq;have hb := inB_iff.1 hq.1;refine KS.ite (fun _ => KS.pure _ trivial) (fun hq2 => ?_);refine KS.bind (ks_writeL H hi _ _ _ (by omega) _ _ (by omega)) (fun _ _ => ?_);exact KS.ite (fun _ => KS.bind (ks_set (H.size _ hi)) (fun _ _ => KS.pure _ trivial)) (fun _ => KS.pure _ trivial)
theorem ks_cutL (H : Vok V I N) {i : Int} (hi : I i) (e : Int) (he : e ≤ 2000) : ∀ (n : Nat) (p : Int), 0 ≤ p → KS V (fun _ => True) (cutL i e n p)
 | 0, _, _ => trivial
 | n + 1, p, hp => by
  unfold cutL;refine KS.ite (fun _ => ?_) (fun _ => KS.pure _ trivial);exact ⟨H.block _ _ hi (by omega) (by omega), ks_cutL H hi e he n _ (by omega)⟩
theorem ks_cut (H : Vok V I N) {i : Int} (hi : I i) (n : Int) : KS V (fun _ => True) (cutP i n) := by
 unfold cutP;refine KS.bind (ks_num (H.size _ hi)) ?_;rintro v ⟨h1, h2⟩;refine KS.ite (fun hq => ?_) (fun _ => KS.pure _ trivial);have hb := inB_iff.1 hq;refine KS.ite (fun _ => ?_) (fun _ => ?_)
 ·exact KS.bind (ks_block H hi (by omega) (by omega)) (fun _ _ => KS.bind (ks_lay (H.block _ _ hi (by omega) (by omega))) (fun _ _ => KS.bind (ks_cutL H hi _ (by omega) _ _ (by omega)) (fun _ _ => KS.bind (ks_set (H.size _ hi)) (fun _ _ => KS.pure _ trivial))))
 ·exact KS.bind (ks_cutL H hi _ (by omega) _ _ (by omega)) (fun _ _ => KS.bind (ks_set (H.size _ hi)) (fun _ _ => KS.pure _ trivial))
theorem ks_mkPipe (H : Vok V I N)  : KS V (fun _ => True) (mkPipeP) := by
 unfold mkPipeP
 repeat' first | (with_reducible refine KS.pure _ ?_; first | exact True.intro | (constructor <;> omega) | (constructor <;> (dsimp only; omega))) | (with_reducible refine KS.bind (ks_num (by first | assumption | with_reducible exact H.cpipe | with_reducible exact H.pipeO _ (by first | assumption | exact H.sm _ (by omega) (by omega)))) ?_; rintro v ⟨_, _⟩) | with_reducible refine KS.bind (ks_set (by first | assumption | with_reducible exact H.cpipe | with_reducible exact H.pipeO _ (by first | assumption | exact H.sm _ (by omega) (by omega)))) (fun _ _ => ?_) | (with_reducible refine KS.bind (ks_bump (by first | assumption | with_reducible exact H.cpipe | with_reducible exact H.pipeO _ (by first | assumption | exact H.sm _ (by omega) (by omega)))) ?_; rintro v ⟨_, _⟩) | with_reducible refine KS.ite (fun _ => ?_) (fun _ => ?_)
theorem ks_isPipe (H : Vok V I N) {i : Int} (hi : I i) : KS V (fun _ => True) (isPipeP i) := KS.bind (ks_num (H.pipeO _ hi)) (fun _ _ => KS.pure _ trivial)
theorem ks_putPipe (H : Vok V I N) {i : Int} (hi : I i) (t : ByteArray) : KS V (fun _ => True) (putPipeP i t) := by
 unfold putPipeP
 repeat' first | (with_reducible refine KS.pure _ ?_; first | exact True.intro | (constructor <;> omega) | (constructor <;> (dsimp only; omega))) | (with_reducible refine KS.bind (ks_num (by first | assumption | with_reducible exact H.pipeT _ (by first | assumption | exact H.sm _ (by omega) (by omega)) | with_reducible exact H.pipeH _ (by first | assumption | exact H.sm _ (by omega) (by omega)) | with_reducible exact H.pipeQ _ _ (by first | assumption | exact H.sm _ (by omega) (by omega)) (by omega) (by omega))) ?_; rintro v ⟨_, _⟩) | with_reducible refine KS.bind (ks_set (by first | assumption | with_reducible exact H.pipeT _ (by first | assumption | exact H.sm _ (by omega) (by omega)) | with_reducible exact H.pipeH _ (by first | assumption | exact H.sm _ (by omega) (by omega)) | with_reducible exact H.pipeQ _ _ (by first | assumption | exact H.sm _ (by omega) (by omega)) (by omega) (by omega))) (fun _ _ => ?_) | with_reducible refine KS.bind (ks_lay (by first | assumption | with_reducible exact H.pipeT _ (by first | assumption | exact H.sm _ (by omega) (by omega)) | with_reducible exact H.pipeH _ (by first | assumption | exact H.sm _ (by omega) (by omega)) | with_reducible exact H.pipeQ _ _ (by first | assumption | exact H.sm _ (by omega) (by omega)) (by omega) (by omega))) (fun _ _ => ?_) | with_reducible refine KS.bind (ks_isPipe H (by first | assumption | exact H.sm _ (by omega) (by omega))) (fun _ _ => ?_) | with_reducible refine KS.ite (fun _ => ?_) (fun _ => ?_)
theorem ks_takePipe (H : Vok V I N) {i : Int} (hi : I i) : KS V (fun _ => True) (takePipeP i) := by
 unfold takePipeP
 repeat' first | (with_reducible refine KS.pure _ ?_; first | exact True.intro | (constructor <;> omega) | (constructor <;> (dsimp only; omega))) | (with_reducible refine KS.bind (ks_num (by first | assumption | with_reducible exact H.pipeT _ (by first | assumption | exact H.sm _ (by omega) (by omega)) | with_reducible exact H.pipeH _ (by first | assumption | exact H.sm _ (by omega) (by omega)) | with_reducible exact H.pipeQ _ _ (by first | assumption | exact H.sm _ (by omega) (by omega)) (by omega) (by omega))) ?_; rintro v ⟨_, _⟩) | with_reducible refine KS.bind (ks_set (by first | assumption | with_reducible exact H.pipeT _ (by first | assumption | exact H.sm _ (by omega) (by omega)) | with_reducible exact H.pipeH _ (by first | assumption | exact H.sm _ (by omega) (by omega)) | with_reducible exact H.pipeQ _ _ (by first | assumption | exact H.sm _ (by omega) (by omega)) (by omega) (by omega))) (fun _ _ => ?_) | with_reducible refine KS.bind (ks_lay (by first | assumption | with_reducible exact H.pipeT _ (by first | assumption | exact H.sm _ (by omega) (by omega)) | with_reducible exact H.pipeH _ (by first | assumption | exact H.sm _ (by omega) (by omega)) | with_reducible exact H.pipeQ _ _ (by first | assumption | exact H.sm _ (by omega) (by omega)) (by omega) (by omega))) (fun _ _ => ?_) | with_reducible refine KS.bind (ks_msg (by first | assumption | with_reducible exact H.pipeT _ (by first | assumption | exact H.sm _ (by omega) (by omega)) | with_reducible exact H.pipeH _ (by first | assumption | exact H.sm _ (by omega) (by omega)) | with_reducible exact H.pipeQ _ _ (by first | assumption | exact H.sm _ (by omega) (by omega)) (by omega) (by omega))) (fun _ _ => ?_) | with_reducible refine KS.bind (ks_isPipe H (by first | assumption | exact H.sm _ (by omega) (by omega))) (fun _ _ => ?_) | with_reducible refine KS.ite (fun _ => ?_) (fun _ => ?_)
theorem ks_spawn (H : Vok V I N) (p : Int) : KS V (fun x => Sm x.1) (spawnP p) := by
 unfold spawnP
 repeat' first | (with_reducible refine KS.pure _ ?_; first | exact True.intro | (constructor <;> omega) | (constructor <;> (dsimp only; omega))) | (with_reducible refine KS.bind (ks_num (by first | assumption | with_reducible exact H.cproc | with_reducible exact H.procS _ (by first | assumption | exact H.sm _ (by omega) (by omega)) | with_reducible exact H.procP _ (by first | assumption | exact H.sm _ (by omega) (by omega)))) ?_; rintro v ⟨_, _⟩) | with_reducible refine KS.bind (ks_set (by first | assumption | with_reducible exact H.cproc | with_reducible exact H.procS _ (by first | assumption | exact H.sm _ (by omega) (by omega)) | with_reducible exact H.procP _ (by first | assumption | exact H.sm _ (by omega) (by omega)))) (fun _ _ => ?_) | (with_reducible refine KS.bind (ks_bump (by first | assumption | with_reducible exact H.cproc | with_reducible exact H.procS _ (by first | assumption | exact H.sm _ (by omega) (by omega)) | with_reducible exact H.procP _ (by first | assumption | exact H.sm _ (by omega) (by omega)))) ?_; rintro v ⟨_, _⟩) | with_reducible refine KS.ite (fun _ => ?_) (fun _ => ?_)
theorem ks_end (H : Vok V I N) {i : Int} (hi : I i) (n : Int) : KS V (fun _ => True) (endP i n) := by
 unfold endP stateP
 repeat' first | (with_reducible refine KS.pure _ ?_; first | exact True.intro | (constructor <;> omega) | (constructor <;> (dsimp only; omega))) | (with_reducible refine KS.bind (ks_num (by first | assumption | with_reducible exact H.procS _ (by first | assumption | exact H.sm _ (by omega) (by omega)) | with_reducible exact H.procX _ (by first | assumption | exact H.sm _ (by omega) (by omega)))) ?_; rintro v ⟨_, _⟩) | with_reducible refine KS.bind (ks_set (by first | assumption | with_reducible exact H.procS _ (by first | assumption | exact H.sm _ (by omega) (by omega)) | with_reducible exact H.procX _ (by first | assumption | exact H.sm _ (by omega) (by omega)))) (fun _ _ => ?_) | with_reducible refine KS.ite (fun _ => ?_) (fun _ => ?_)
theorem ks_reap (H : Vok V I N) {i : Int} (hi : I i) (p : Int) : KS V (fun _ => True) (reapP p i) := by
 unfold reapP stateP
 repeat' first | (with_reducible refine KS.pure _ ?_; first | exact True.intro | (constructor <;> omega) | (constructor <;> (dsimp only; omega))) | (with_reducible refine KS.bind (ks_num (by first | assumption | with_reducible exact H.procP _ (by first | assumption | exact H.sm _ (by omega) (by omega)) | with_reducible exact H.procS _ (by first | assumption | exact H.sm _ (by omega) (by omega)) | with_reducible exact H.procX _ (by first | assumption | exact H.sm _ (by omega) (by omega)) | with_reducible exact H.procA _ (by first | assumption | exact H.sm _ (by omega) (by omega)))) ?_; rintro v ⟨_, _⟩) | with_reducible refine KS.bind (ks_wipe (by first | assumption | with_reducible exact H.procP _ (by first | assumption | exact H.sm _ (by omega) (by omega)) | with_reducible exact H.procS _ (by first | assumption | exact H.sm _ (by omega) (by omega)) | with_reducible exact H.procX _ (by first | assumption | exact H.sm _ (by omega) (by omega)) | with_reducible exact H.procA _ (by first | assumption | exact H.sm _ (by omega) (by omega)))) (fun _ _ => ?_) | with_reducible exact (ks_wipe (by first | assumption | with_reducible exact H.procP _ (by first | assumption | exact H.sm _ (by omega) (by omega)) | with_reducible exact H.procS _ (by first | assumption | exact H.sm _ (by omega) (by omega)) | with_reducible exact H.procX _ (by first | assumption | exact H.sm _ (by omega) (by omega)) | with_reducible exact H.procA _ (by first | assumption | exact H.sm _ (by omega) (by omega)))) | with_reducible refine KS.ite (fun _ => ?_) (fun _ => ?_)
theorem ks_kidsL (p : Int) : ∀ (ks : List ByteArray) (out : List Int), (∀ k ∈ ks, V k) → KS V (fun _ => True) (kidsL p ks out)
 | [], _, _ => trivial
 | k :: ks, out, h => by
  unfold kidsL;exact KS.ite (fun _ => KS.bind (ks_num (h k List.mem_cons_self)) (fun _ _ => ks_kidsL p ks _ (fun x hx => h x (List.mem_cons_of_mem _ hx)))) (fun _ => ks_kidsL p ks _ (fun x hx => h x (List.mem_cons_of_mem _ hx)))
theorem ks_kids (H : Vok V I N) (p : Int) : KS V (fun _ => True) (kidsP p) := ⟨H.rA, fun ks h => ks_kidsL p ks [] (fun k hk => (h k hk).1)⟩
theorem ks_send (H : Vok V I N) {i : Int} (hi : I i) (n : Int) : KS V (fun _ => True) (sendP i n) := by
 unfold sendP stateP
 repeat' first | (with_reducible refine KS.pure _ ?_; first | exact True.intro | (constructor <;> omega) | (constructor <;> (dsimp only; omega))) | (with_reducible refine KS.bind (ks_num (by first | assumption | with_reducible exact H.procS _ (by first | assumption | exact H.sm _ (by omega) (by omega)) | with_reducible exact H.sigT _ (by first | assumption | exact H.sm _ (by omega) (by omega)) | with_reducible exact H.sigH _ (by first | assumption | exact H.sm _ (by omega) (by omega)) | with_reducible exact H.sigQ _ _ (by first | assumption | exact H.sm _ (by omega) (by omega)) (by omega) (by omega))) ?_; rintro v ⟨_, _⟩) | with_reducible refine KS.bind (ks_set (by first | assumption | with_reducible exact H.procS _ (by first | assumption | exact H.sm _ (by omega) (by omega)) | with_reducible exact H.sigT _ (by first | assumption | exact H.sm _ (by omega) (by omega)) | with_reducible exact H.sigH _ (by first | assumption | exact H.sm _ (by omega) (by omega)) | with_reducible exact H.sigQ _ _ (by first | assumption | exact H.sm _ (by omega) (by omega)) (by omega) (by omega))) (fun _ _ => ?_) | with_reducible refine KS.ite (fun _ => ?_) (fun _ => ?_)
theorem ks_takeSig (H : Vok V I N) {i : Int} (hi : I i) : KS V (fun _ => True) (takeSigP i) := by
 unfold takeSigP
 repeat' first | (with_reducible refine KS.pure _ ?_; first | exact True.intro | (constructor <;> omega) | (constructor <;> (dsimp only; omega))) | (with_reducible refine KS.bind (ks_num (by first | assumption | with_reducible exact H.sigH _ (by first | assumption | exact H.sm _ (by omega) (by omega)) | with_reducible exact H.sigT _ (by first | assumption | exact H.sm _ (by omega) (by omega)) | with_reducible exact H.sigQ _ _ (by first | assumption | exact H.sm _ (by omega) (by omega)) (by omega) (by omega))) ?_; rintro v ⟨_, _⟩) | with_reducible refine KS.bind (ks_set (by first | assumption | with_reducible exact H.sigH _ (by first | assumption | exact H.sm _ (by omega) (by omega)) | with_reducible exact H.sigT _ (by first | assumption | exact H.sm _ (by omega) (by omega)) | with_reducible exact H.sigQ _ _ (by first | assumption | exact H.sm _ (by omega) (by omega)) (by omega) (by omega))) (fun _ _ => ?_) | with_reducible refine KS.bind (ks_lay (by first | assumption | with_reducible exact H.sigH _ (by first | assumption | exact H.sm _ (by omega) (by omega)) | with_reducible exact H.sigT _ (by first | assumption | exact H.sm _ (by omega) (by omega)) | with_reducible exact H.sigQ _ _ (by first | assumption | exact H.sm _ (by omega) (by omega)) (by omega) (by omega))) (fun _ _ => ?_) | with_reducible refine KS.ite (fun _ => ?_) (fun _ => ?_)
theorem ks_timer (H : Vok V I N) {i : Int} (hi : I i) (a : Int) : KS V (fun _ => True) (timerP i a) := by
 unfold timerP
 repeat' first | (with_reducible refine KS.pure _ ?_; first | exact True.intro | (constructor <;> omega) | (constructor <;> (dsimp only; omega))) | with_reducible refine KS.bind (ks_set (by first | assumption | with_reducible exact H.timer _ (by first | assumption | exact H.sm _ (by omega) (by omega)))) (fun _ _ => ?_) | with_reducible refine KS.ite (fun _ => ?_) (fun _ => ?_)
theorem ks_tickL (H : Vok V I N) (c : Int) : ∀ (ks : List ByteArray) (n : Int), (∀ k ∈ ks, V k) → KS V (fun _ => True) (tickL c ks n)
 | [], _, _ => trivial
 | k :: ks, n, h => by
  unfold tickL;have hk := h k List.mem_cons_self;have hb := numOf_bounds (drop2 k);refine KS.bind (ks_num hk) (fun _ _ => KS.ite (fun _ => ks_tickL H c ks _ (fun x hx => h x (List.mem_cons_of_mem _ hx))) (fun _ => ?_));exact KS.bind (ks_lay hk) (fun _ _ => KS.bind (ks_send H (H.sm _ hb.1 hb.2) 14) (fun _ _ => ks_tickL H c ks _ (fun x hx => h x (List.mem_cons_of_mem _ hx))))
theorem ks_tick (H : Vok V I N) (n : Int) : KS V (fun _ => True) (tickP n) := by
 unfold tickP;refine KS.ite (fun _ => KS.pure _ trivial) (fun _ => KS.bind (ks_num H.cclock) (fun _ _ => KS.ite (fun _ => KS.pure _ trivial) (fun _ => KS.bind (ks_set H.cclock) (fun _ _ => ?_))));refine KS.bind (Q := fun ks => ∀ k ∈ ks, V k) ⟨H.tA, fun ks h k hk => (h k hk).1⟩ (fun ks h => ?_);exact KS.bind (ks_tickL H _ ks _ h) (fun _ _ => KS.pure _ trivial)
theorem ks_store (H : Vok V I N) {i : Int} (hi : I i) (a : Int) (t : ByteArray) : KS V (fun _ => True) (storeP i a t) := by
 unfold storeP;refine KS.ite (fun hq => ?_) (fun _ => KS.pure _ trivial);rw [Bool.and_eq_true] at hq;have hb := inB_iff.1 hq.1;exact KS.bind (ks_lay (H.page _ _ hi (by omega) (by omega))) (fun _ _ => KS.pure _ trivial)
theorem ks_load (H : Vok V I N) {i : Int} (hi : I i) (a : Int) : KS V (fun _ => True) (loadP i a) := by
 unfold loadP;refine KS.ite (fun hq => ?_) (fun _ => KS.pure _ trivial);have hb := inB_iff.1 hq;exact KS.bind (ks_msg (H.page _ _ hi (by omega) (by omega))) (fun _ _ => KS.pure _ trivial)
theorem ks_forkL (H : Vok V I N) (a b : Int) (h0 : 0 ≤ b) (h1 : b ≤ 999) : ∀ ks : List ByteArray, (∀ k ∈ ks, V k ∧ beginsB k (pagesK a) = true) → KS V (fun _ => True) (forkL (pagesK a) (pagesK b) ks)
 | [], _ => trivial
 | k :: ks, h => by
  have hk := h k List.mem_cons_self;exact ⟨hk.1, fun v => ⟨H.fork a b k h0 h1 hk.1 hk.2, ks_forkL H a b h0 h1 ks (fun x hx => h x (List.mem_cons_of_mem _ hx))⟩⟩
theorem ks_fork (H : Vok V I N) {a b : Int} (ha : I a) (h0 : 0 ≤ b) (h1 : b ≤ 999) : KS V (fun _ => True) (forkP a b) := ⟨H.pagesA _ ha, fun ks h => ks_forkL H a b h0 h1 ks h⟩
theorem ks_putOut (H : Vok V I N) (t : ByteArray) : KS V (fun _ => True) (putOutP t) := by
 unfold putOutP
 repeat' first | (with_reducible refine KS.pure _ ?_; first | exact True.intro | (constructor <;> omega) | (constructor <;> (dsimp only; omega))) | (with_reducible refine KS.bind (ks_num (by first | assumption | with_reducible exact H.dn | with_reducible exact H.out _ (by omega) (by omega))) ?_; rintro v ⟨_, _⟩) | with_reducible refine KS.bind (ks_set (by first | assumption | with_reducible exact H.dn | with_reducible exact H.out _ (by omega) (by omega))) (fun _ _ => ?_) | with_reducible refine KS.bind (ks_lay (by first | assumption | with_reducible exact H.dn | with_reducible exact H.out _ (by omega) (by omega))) (fun _ _ => ?_) | with_reducible refine KS.ite (fun _ => ?_) (fun _ => ?_)
theorem ks_file (H : Vok V I N) (c : Cal) (hn : N c.name) : KS V (fun _ => True) (fileP c) := by
 unfold fileP;refine KS.bind (ks_fileOf H hn) ?_;rintro v ⟨h1, h2⟩;have hi := H.sm v h1 h2;refine KS.ite (fun _ => KS.pure _ trivial) (fun _ => KS.ite (fun _ => KS.bind (ks_read H hi _ _) (fun _ _ => KS.pure _ trivial)) (fun _ => KS.ite (fun _ => KS.bind (ks_write H hi _ _) (fun _ _ => KS.pure _ trivial)) (fun _ => KS.bind (ks_cut H hi _) (fun _ _ => KS.pure _ trivial))))
theorem ks_spawnAll (H : Vok V I N) {p : Int} (hp : I p) : KS V (fun _ => True) (spawnAllP p) := by
 unfold spawnAllP;refine KS.bind (ks_spawn H p) (fun x hx => KS.ite (fun _ => KS.bind (ks_fork H hp hx.1 hx.2) (fun _ _ => KS.pure _ trivial)) (fun _ => KS.pure _ trivial))
theorem ks_endAll (H : Vok V I N) {p : Int} (hp : I p) (n : Int) : KS V (fun _ => True) (endAllP p n) := by
 unfold endAllP dropPagesP;exact KS.bind (ks_end H hp n) (fun x hx => KS.ite (fun _ => KS.bind (ks_wipe (H.pagesA _ hp)) (fun _ _ => KS.pure _ trivial)) (fun _ => KS.pure _ trivial))
theorem ks_kind (H : Vok V I N) {p : Int} (c : Cal) (hp : I p) (ha : I c.a) (hn : N c.name) (hd : N c.dest) : KS V (fun _ => True) (kindP p c) := by
 unfold kindP;have Z : ∀ {β : Type} {x : Pg β} {g : β → Ans} {Q : β → Prop}, KS V Q x → KS V (fun _ => True) (x >>= fun v => pure (g v)) := fun h => KS.bind h (fun _ _ => KS.pure _ trivial);refine KS.ite (fun _ => Z (ks_make H hn)) (fun _ => ?_);refine KS.ite (fun _ => Z (ks_link H hn hd)) (fun _ => ?_);refine KS.ite (fun _ => Z (ks_unlink H hn)) (fun _ => ?_);refine KS.ite (fun _ => Z (ks_rename H hn hd)) (fun _ => ?_);refine KS.ite (fun _ => Z (ks_names H)) (fun _ => ?_);refine KS.ite (fun _ => ks_file H c hn) (fun _ => ?_);refine KS.ite (fun _ => Z (ks_mkPipe H)) (fun _ => ?_);refine KS.ite (fun _ => Z (ks_putPipe H ha _)) (fun _ => ?_);refine KS.ite (fun _ => Z (ks_takePipe H ha)) (fun _ => ?_);refine KS.ite (fun _ => ks_spawnAll H hp) (fun _ => ?_);refine KS.ite (fun _ => ks_endAll H hp _) (fun _ => ?_);refine KS.ite (fun _ => Z (ks_reap H ha _)) (fun _ => ?_);refine KS.ite (fun _ => Z (ks_kids H _)) (fun _ => ?_);refine KS.ite (fun _ => Z (ks_send H ha _)) (fun _ => ?_);refine KS.ite (fun _ => Z (ks_takeSig H hp)) (fun _ => ?_);refine KS.ite (fun _ => Z (ks_timer H hp _)) (fun _ => ?_);refine KS.ite (fun _ => Z (ks_tick H _)) (fun _ => ?_);refine KS.ite (fun _ => Z (ks_store H hp _ _)) (fun _ => ?_);refine KS.ite (fun _ => Z (ks_load H hp _)) (fun _ => ?_);exact Z (ks_putOut H _)
theorem ks_call (H : Vok V I N) {p : Int} (c : Cal) (hp : I p) (ha : I c.a) (hn : N c.name) (hd : N c.dest) : KS V (fun _ => True) (callP p c) := by
 unfold callP stateP;exact KS.bind (ks_num (H.procS _ hp)) (fun _ _ => KS.ite (fun _ => KS.ite (fun _ => ks_kind H c hp ha hn hd) (fun _ => KS.pure _ trivial)) (fun _ => KS.pure _ trivial))
end Go.Proofs.YtihghflppegnmaaGreatDoor
namespace Go.Proofs.YtihghflppegnmaaGreatDoor
open Go.ChangeShapes Go.WideShapes Go.ChangeAt Go.RowKit
attribute [local go_sem ↓] Go.wp_at_zero Go.wp_at_succ
def OwnG (base n : Nat) (v : Value) (W : World) : Prop :=
 ∃ xs : Sto, W.ownsRow base 99 2 v xs.length (xs.flatMap encC) ∧ Grown n xs ∧ ∀ x ∈ xs, x.1.size ≤ 1048576 ∧ x.2.size ≤ 1048576
theorem Grown.mono {n k : Nat} {s : Sto} (h : Grown n s) (hk : n ≤ k) : Grown k s := ⟨h.1, by have := h.2.1; omega, Nat.le_trans h.2.2.1 hk, h.2.2.2⟩
theorem OwnG.mono {base n k : Nat} {v : Value} {W : World} (h : OwnG base n v W) (hk : n ≤ k) : OwnG base k v W := by
 obtain ⟨xs, o, g, s⟩ := h;exact ⟨xs, o, g.mono hk, s⟩
theorem grown_mok {n : Nat} {xs : Sto} (h : Grown n xs) (hn : n ≤ 12) (hs : ∀ x ∈ xs, x.1.size ≤ 1048576 ∧ x.2.size ≤ 1048576) : MOk 600 ⟨xs, [], []⟩ :=
 ⟨by have := h.2.1; show xs.length ≤ 600; omega, Nat.zero_le _, Nat.zero_le _, hs⟩
def OwnS (base n : Nat) (v : Value) (W : World) : Prop :=
 ∃ xs : Sto, W.ownsRow base 99 2 v xs.length (xs.flatMap encC) ∧ xs.length ≤ n ∧ ∀ x ∈ xs, x.1.size ≤ 1048576 ∧ x.2.size ≤ 1048576
theorem OwnS.mono {base n k : Nat} {v : Value} {W : World} (h : OwnS base n v W) (hk : n ≤ k) : OwnS base k v W := by
 obtain ⟨xs, o, l, s⟩ := h;exact ⟨xs, o, Nat.le_trans l hk, s⟩
theorem OwnG.s {base n : Nat} {v : Value} {W : World} (h : OwnG base n v W) (hn : n ≤ 12) : OwnS base 600 v W := by
 obtain ⟨xs, o, g, s⟩ := h;exact ⟨xs, o, (grown_mok g hn s).l1, s⟩
def StpOk (s : Stp) : Prop := I64 s.proc ∧ COk s.call
def OwnSteps (base n : Nat) (v : Value) (W : World) : Prop :=
 ∃ xs : List Stp, W.ownsRow base 45 7 v xs.length (xs.flatMap encStp) ∧ xs.length ≤ n ∧ ∀ x ∈ xs, StpOk x
theorem OwnSteps.mono {base n k : Nat} {v : Value} {W : World} (h : OwnSteps base n v W) (hk : n ≤ k) : OwnSteps base k v W := by
 obtain ⟨xs, o, l, s⟩ := h;exact ⟨xs, o, Nat.le_trans l hk, s⟩
end Go.Proofs.YtihghflppegnmaaGreatDoor
namespace Go.Proofs.YtihghflppegnmaaGreatDoor
theorem MOk.up {n n' : Nat} {m : Mch} (h : MOk n m) (hn : n ≤ n') : MOk n' m := ⟨Nat.le_trans h.l1 hn, Nat.le_trans h.l2 hn, Nat.le_trans h.l3 hn, h.sz⟩
end Go.Proofs.YtihghflppegnmaaGreatDoor
namespace Go.Proofs.YtihghflppegnmaaGreatDoor
open Go.RowKit
open Pg
structure Kin (V : ByteArray → Prop) (c0 : Nat) (m : Mch) : Prop where
 k : ∀ c ∈ m.st, V c.1
 r : ∀ k ∈ m.rs, V k
 w : ∀ k ∈ m.ws, V k
 rr : RisingK m.rs
 rw : RisingK m.ws
 n : ∃ P : ByteArray → Bool, (m.st.filter (fun c => !P c.1)).length ≤ c0 ∧ ((m.st.filter (fun c => P c.1)).map (·.1)).Nodup
 sz : ∀ x ∈ m.st, x.1.size ≤ 1048576 ∧ x.2.size ≤ 1048576
variable {V : ByteArray → Prop} {c0 : Nat}
theorem Kin.look {m : Mch} (h : Kin V c0 m) {k : ByteArray} (hk : V k) : Kin V c0 (lookM m k) :=
 ⟨h.k, fun x hx => by
  rcases mem_addS.1 hx with rfl | hx
  ·exact hk
  ·exact h.r x hx, h.w, rising_addS h.rr, h.rw, h.n, h.sz⟩
theorem insK_perm (c : ByteArray × ByteArray) (xs : Sto) : (insK c xs).Perm (c :: xs) := by
 have e : insK c xs = xs.take (xs.findIdx (gtP c.1)) ++ c :: xs.drop (xs.findIdx (gtP c.1)) := insK_is c xs;rw [e];refine List.perm_middle.trans ?_;rw [List.take_append_drop]
theorem del_filter {s : Sto} {k : ByteArray} {P : ByteArray → Bool} : (delK s k).filter (fun c => eqB c.1 k || P c.1) = (delK s k).filter (fun c => P c.1) := by
 refine List.filter_congr (fun x hx => ?_);unfold delK at hx;have := (List.mem_filter.1 hx).2;have e : eqB x.1 k = false := by simpa using this
 rw [e, Bool.false_or]
theorem put_count {s : Sto} {k v : ByteArray} {P : ByteArray → Bool} (h1 : (s.filter (fun c => !P c.1)).length ≤ c0) (h2 : ((s.filter (fun c => P c.1)).map (·.1)).Nodup) :
 ∃ P' : ByteArray → Bool, ((putKeyS s k v).filter (fun c => !P' c.1)).length ≤ c0 ∧ (((putKeyS s k v).filter (fun c => P' c.1)).map (·.1)).Nodup := by
 unfold putKeyS;split
 ·exact ⟨P, h1, h2⟩
 have d1 : ((delK s k).filter (fun c => !(eqB c.1 k || P c.1))).length ≤ c0 := by
  refine Nat.le_trans ?_ h1;refine Nat.le_trans (del_count (fun c => !(eqB c.1 k || P c.1)) s k) ?_;rw [← List.countP_eq_length_filter, ← List.countP_eq_length_filter];refine List.countP_mono_left (fun c _ hc => ?_);simp only [Bool.not_or, Bool.and_eq_true] at hc;exact hc.2
 have d2 : (((delK s k).filter (fun c => P c.1)).map (·.1)).Nodup := by
  refine List.Nodup.sublist ?_ h2;unfold delK;exact (List.Sublist.filter _ List.filter_sublist).map _
 have d3 : ∀ x ∈ ((delK s k).filter (fun c => P c.1)).map (·.1), x ≠ k := fun x hx e => by
  obtain ⟨y, hy, rfl⟩ := List.mem_map.1 hx;have hy2 := (List.mem_filter.1 hy).1;unfold delK at hy2;have := (List.mem_filter.1 hy2).2;rw [e, eqB_self] at this;cases this
 refine ⟨fun y => eqB y k || P y, ?_, ?_⟩
 ·unfold putV;split
  ·exact d1
  ·rw [ins_count];simp only [eqB_self, Bool.true_or, Bool.not_true, Bool.false_eq_true, ↓reduceIte];exact d1
 ·unfold putV;split
  ·rw [del_filter];exact d2
  ·have hp := ((insK_perm (k, v) (delK s k)).filter (fun c => eqB c.1 k || P c.1)).map (·.1);rw [hp.nodup_iff, List.filter_cons_of_pos (by simp [eqB_self]), List.map_cons, del_filter, List.nodup_cons];exact ⟨fun h => d3 _ h rfl, d2⟩
theorem Kin.lay {m : Mch} (h : Kin V c0 m) {k : ByteArray} (v : ByteArray) (hk : V k) : Kin V c0 (layM m k v) :=
 ⟨fun c hc => by
  rcases putKeyS_mem2 hc with ⟨rfl, _⟩ | hc
  ·exact hk
  ·exact h.k c hc, h.r, fun x hx => by
  rcases mem_addS.1 hx with rfl | hx
  ·exact hk
  ·exact h.w x hx, h.rr, rising_addS h.rw, by
  obtain ⟨P, h1, h2⟩ := h.n;exact put_count h1 h2, fun x hx => by
  rcases putKeyS_mem2 hx with ⟨rfl, h1, h2⟩ | hx
  ·exact ⟨Nat.le_trans (keyOkB_size h1) (by decide), Nat.le_trans h2 (by decide)⟩
  ·exact h.sz x hx⟩
theorem keysU_mem {xs : Sto} {p k : ByteArray} (h : k ∈ keysU xs p) : (∃ c ∈ xs, c.1 = k) ∧ beginsB k p = true := by
 unfold keysU at h;obtain ⟨y, hy, rfl⟩ := List.mem_map.1 h;exact ⟨⟨y, (List.mem_filter.1 hy).1, rfl⟩, (List.mem_filter.1 hy).2⟩
theorem KS.kin {α : Type} {Q : α → Prop} {x : Pg α} : ∀ {m : Mch}, KS V Q x → Kin V c0 m → Kin V c0 (x.run m).1 := by
 induction x with
 | ret a => intro m _ h; exact h
 | look k f ih => intro m hk h; exact ih _ (hk.2 _) (h.look hk.1)
 | lay k v f ih => intro m hk h; exact ih hk.2 (h.lay v hk.1)
 | under p f ih =>
  intro m hk h;refine ih _ (hk.2 _ (fun k hx => ?_)) (h.look hk.1);obtain ⟨⟨c, hc, rfl⟩, hb⟩ := keysU_mem hx;exact ⟨h.k c hc, hb⟩
theorem kin_run {I : Int → Prop} {N : ByteArray → Prop} (H : Vok V I N) : ∀ (ys : List Stp) (p : Mch × List Ans), (∀ x ∈ ys, I x.proc ∧ I x.call.a ∧ N x.call.name ∧ N x.call.dest) → Kin V c0 p.1 → Kin V c0 (ys.foldl stepI p).1
 | [], _, _, h => h
 | x :: ys, p, hy, h => by
  obtain ⟨h1, h2, h3, h4⟩ := hy x List.mem_cons_self;exact kin_run H ys (stepI p x) (fun z hz => hy z (List.mem_cons_of_mem _ hz)) (KS.kin (ks_call H x.call h1 h2 h3 h4) h)
theorem filter_len {α : Type} (P : α → Bool) : ∀ xs : List α, xs.length = (xs.filter P).length + (xs.filter (fun x => !P x)).length
 | [] => rfl
 | x :: xs => by
  have := filter_len P xs;cases h : P x <;> simp [h] <;> omega
theorem risingK_nodup {s : List ByteArray} (h : RisingK s) : s.Nodup := by
 rw [List.nodup_iff_pairwise_ne];exact List.Pairwise.imp (fun {a b} hab e => by rw [e, ltB_irr] at hab; cases hab) h
theorem Kin.ok {U : List ByteArray} {m : Mch} (h : Kin (· ∈ U) c0 m) : MOk (c0 + U.length) m := by
 obtain ⟨P, h1, h2⟩ := h.n;refine ⟨?_, ?_, ?_, h.sz⟩
 ·have e := filter_len (fun c : ByteArray × ByteArray => P c.1) m.st;have := nodup_le h2 (ys := U) (fun x hx => by
   obtain ⟨y, hy, rfl⟩ := List.mem_map.1 hx;exact h.k y (List.mem_filter.1 hy).1)
  rw [List.length_map] at this;omega
 ·have := nodup_le (risingK_nodup h.rr) h.r;omega
 ·have := nodup_le (risingK_nodup h.rw) h.w;omega
def sufS (xs : Sto) : List ByteArray := xs.flatMap (fun c => (List.range (c.1.size + 1)).map (fun i => c.1.extract i c.1.size))
def pageS (xs : Sto) : List ByteArray := (List.range 1000).flatMap (fun q : Nat => (sufS xs).map (fun s => pagesK (q : Int) ++ s))
def intsS (ss : List Stp) : List Int := (List.range 1000).map (fun i : Nat => (i : Int)) ++ (ss.map (·.proc) ++ ss.map (·.call.a))
def namesS (ss : List Stp) : List ByteArray := ss.map (·.call.name) ++ ss.map (·.call.dest)
def famS (i j : Int) : List ByteArray := [procK i tS, procK i tP, procK i tX, starK (procK i tSl), sigK i tT, sigK i tH, pipeK i tO, pipeK i tT, pipeK i tH, timerK i, starK (pagesK i), linksK i, sizeK i, starK (fileK i), sigQ i j, pipeQ i j, pageK i j, blockK i j, outK1 j]
def fixS : List ByteArray := [cFile, cPipe, cProc, cClock, dnK, starK nHead, starK tHead, starK rHead]
def famsS (I : List Int) : List ByteArray := I.flatMap (fun i => (List.range 1001).flatMap (fun j : Nat => famS i (j : Int)))
def allS (xs : Sto) (ss : List Stp) : List ByteArray := xs.map (·.1) ++ (pageS xs ++ (fixS ++ ((namesS ss).map nK ++ famsS (intsS ss))))
theorem flat_len {α β : Type} (f : α → List β) (n : Nat) : ∀ xs : List α, (∀ x ∈ xs, (f x).length = n) → (xs.flatMap f).length = xs.length * n
 | [], _ => by simp
 | x :: xs, h => by
  rw [List.flatMap_cons, List.length_append, h x List.mem_cons_self, flat_len f n xs (fun y hy => h y (List.mem_cons_of_mem _ hy)), List.length_cons, Nat.succ_mul];omega
theorem suf_len : ∀ xs : Sto, (sufS xs).length ≤ bulkL bulkC xs
 | [] => by simp [sufS, bulkL]
 | c :: xs => by
  have := suf_len xs;unfold sufS bulkL at *;rw [List.flatMap_cons, List.length_append, List.length_map, List.length_range, List.length_cons, List.map_cons, List.sum_cons];unfold bulkC at *;omega
theorem all_len {xs : Sto} {ss : List Stp} (h1 : bulkL bulkC xs ≤ 1048576) (h2 : ss.length ≤ 1048576) : xs.length + (allS xs ss).length ≤ 100000000000 := by
 have hx : xs.length ≤ 1048576 := by unfold bulkL at h1; omega
 have hs := Nat.le_trans (suf_len xs) h1;unfold allS;rw [List.length_append, List.length_append, List.length_append, List.length_append, List.length_map, List.length_map];have e1 : (pageS xs).length = 1000 * (sufS xs).length := by
  unfold pageS;rw [flat_len _ (sufS xs).length _ (fun x _ => List.length_map _), List.length_range]
 have e2 : (famsS (intsS ss)).length = (intsS ss).length * (1001 * 19) := by
  unfold famsS;refine flat_len _ _ _ (fun i _ => ?_);rw [flat_len _ 19 _ (fun j _ => rfl), List.length_range]
 have e3 : (intsS ss).length = 1000 + 2 * ss.length := by
  unfold intsS;rw [List.length_append, List.length_append, List.length_map, List.length_map, List.length_map, List.length_range];omega
 have e4 : (namesS ss).length = 2 * ss.length := by
  unfold namesS;rw [List.length_append, List.length_map, List.length_map];omega
 have e5 : fixS.length = 8 := rfl;rw [e1, e2, e3, e4, e5];omega
theorem mem_fam {xs : Sto} {ss : List Stp} {i j : Int} {k : ByteArray} (hi : i ∈ intsS ss) (h0 : 0 ≤ j) (h1 : j ≤ 1000) (hk : k ∈ famS i j) : k ∈ allS xs ss := by
 unfold allS;refine List.mem_append_right _ (List.mem_append_right _ (List.mem_append_right _ (List.mem_append_right _ ?_)));unfold famsS;refine List.mem_flatMap.2 ⟨i, hi, List.mem_flatMap.2 ⟨j.toNat, List.mem_range.2 (by omega), ?_⟩⟩;rw [show ((j.toNat : Nat) : Int) = j by omega];exact hk
theorem mem_fam1 {xs : Sto} {ss : List Stp} {i : Int} {k : ByteArray} (hi : i ∈ intsS ss) (hk : k ∈ famS i 0) : k ∈ allS xs ss := mem_fam hi (Int.le_refl 0) (by decide) hk
theorem mem_fix {xs : Sto} {ss : List Stp} {k : ByteArray} (hk : k ∈ fixS) : k ∈ allS xs ss := by
 unfold allS;exact List.mem_append_right _ (List.mem_append_right _ (List.mem_append_left _ hk))
theorem mem_nam {xs : Sto} {ss : List Stp} {s : ByteArray} (hk : s ∈ namesS ss) : nK s ∈ allS xs ss := by
 unfold allS;exact List.mem_append_right _ (List.mem_append_right _ (List.mem_append_right _ (List.mem_append_left _ (List.mem_map_of_mem hk))))
theorem mem_int {ss : List Stp} {i : Int} (h0 : 0 ≤ i) (h1 : i ≤ 999) : i ∈ intsS ss := by
 unfold intsS;exact List.mem_append_left _ (List.mem_map.2 ⟨i.toNat, List.mem_range.2 (by omega), by omega⟩)
theorem mem_pages {xs : Sto} {ss : List Stp} {b : Int} {s : ByteArray} (h0 : 0 ≤ b) (h1 : b ≤ 999) (hs : s ∈ sufS xs) : pagesK b ++ s ∈ allS xs ss := by
 unfold allS pageS;refine List.mem_append_right _ (List.mem_append_left _ (List.mem_flatMap.2 ⟨b.toNat, List.mem_range.2 (by omega), List.mem_map.2 ⟨s, hs, ?_⟩⟩));rw [show ((b.toNat : Nat) : Int) = b by omega]
theorem ex_app (a s : ByteArray) : (a ++ s).extract a.size (a ++ s).size = s := by
 apply ByteArray.ext;apply Array.toList_inj.1;simp [ByteArray.data_extract, ByteArray.data_append];rw [List.drop_eq_nil_of_le (show a.data.toList.length ≤ a.size from Nat.le_of_eq Array.length_toList), List.take_nil, List.nil_append, List.take_of_length_le (show s.data.toList.length ≤ s.size from Nat.le_of_eq Array.length_toList)]
theorem pages_eq {i a : Int} {s : ByteArray} (h : beginsB (pagesK i ++ s) (pagesK a) = true) : pagesK i = pagesK a := by
 obtain ⟨t, e⟩ := begins_iff h;have e0 : (pagesK i ++ s).data.toList = 109 :: 47 :: ((decS i).data.toList ++ 47 :: s.data.toList) := by
  have := pages_list i;simp [ByteArray.data_append, this]
 rw [e0, pages_list] at e;have e2 : (decS a).data.toList ++ 47 :: t = (decS i).data.toList ++ 47 :: s.data.toList := by simpa using e
 have e3 := cut_eq (dec_no a) (dec_no i) e2;have e4 : decS i = decS a := (ByteArray.ext (Array.toList_inj.1 e3)).symm;unfold pagesK keyNumS;rw [e4]
theorem pages_next {i a b : Int} {s : ByteArray} (h : beginsB (pagesK i ++ s) (pagesK a) = true) : pagesK b ++ (pagesK i ++ s).extract (pagesK a).size (pagesK i ++ s).size = pagesK b ++ s := by
 rw [← pages_eq h, ex_app]
theorem page_app (i j : Int) : pageK i j = pagesK i ++ decS j := by
 unfold pageK;rw [show keyNumS (pagesK i) j ⟨#[]⟩ = pagesK i ++ decS j ++ ⟨#[]⟩ from rfl];exact ByteArray.append_empty
theorem no_page {k : ByteArray} {a : Int} {c : UInt8} (h : beginsB k (pagesK a) = true) (hk : hd k = some c) (hc : c ≠ 109) : False := by
 have := hd_begins h (hd_pages a);rw [hk] at this;exact hc (Option.some.inj this)
theorem fork_in {xs : Sto} {ss : List Stp} (a b : Int) (k : ByteArray) (h0 : 0 ≤ b) (h1 : b ≤ 999) (hk : k ∈ allS xs ss) (hb : beginsB k (pagesK a) = true) : pagesK b ++ k.extract (pagesK a).size k.size ∈ allS xs ss := by
 have hk2 := hk;unfold allS at hk2;rcases List.mem_append.1 hk2 with h | h
 ·obtain ⟨c, hc, rfl⟩ := List.mem_map.1 h;refine mem_pages h0 h1 (List.mem_flatMap.2 ⟨c, hc, List.mem_map.2 ⟨(pagesK a).size, List.mem_range.2 ?_, rfl⟩⟩);obtain ⟨t, e⟩ := begins_iff hb;have q := congrArg List.length e;rw [List.length_append] at q;have e1 : (pagesK a).data.toList.length = (pagesK a).size := Array.length_toList;have e2 : c.1.data.toList.length = c.1.size := Array.length_toList;omega
 rcases List.mem_append.1 h with h | h
 ·unfold pageS at h;obtain ⟨q, _, hq⟩ := List.mem_flatMap.1 h;obtain ⟨s, hs, rfl⟩ := List.mem_map.1 hq;rw [pages_next hb];exact mem_pages h0 h1 hs
 rcases List.mem_append.1 h with h | h
 ·exfalso;simp only [fixS, List.mem_cons, List.not_mem_nil, or_false] at h;rcases h with rfl | rfl | rfl | rfl | rfl | rfl | rfl | rfl
  all_goals exact no_page hb rfl (by decide)
 rcases List.mem_append.1 h with h | h
 ·obtain ⟨s, _, rfl⟩ := List.mem_map.1 h;exact (no_page hb (hd_n s) (by decide)).elim
 ·unfold famsS at h;obtain ⟨i, hi, h⟩ := List.mem_flatMap.1 h;obtain ⟨j, hj, h⟩ := List.mem_flatMap.1 h;have hj2 := List.mem_range.1 hj;have hbi : b ∈ intsS ss := mem_int h0 h1;simp only [famS, List.mem_cons, List.not_mem_nil, or_false] at h;rcases h with rfl | rfl | rfl | rfl | rfl | rfl | rfl | rfl | rfl | rfl | rfl | rfl | rfl | rfl | rfl | rfl | rfl | rfl | rfl
  ·exact (no_page hb (hd_proc _ _) (by decide)).elim
  ·exact (no_page hb (hd_proc _ _) (by decide)).elim
  ·exact (no_page hb (hd_proc _ _) (by decide)).elim
  ·exact (no_page hb (hd_app (hd_proc _ _)) (by decide)).elim
  ·exact (no_page hb (hd_sig _ _) (by decide)).elim
  ·exact (no_page hb (hd_sig _ _) (by decide)).elim
  ·exact (no_page hb (hd_pipe _ _) (by decide)).elim
  ·exact (no_page hb (hd_pipe _ _) (by decide)).elim
  ·exact (no_page hb (hd_pipe _ _) (by decide)).elim
  ·exact (no_page hb (hd_timer _) (by decide)).elim
  ·rw [show starK (pagesK i) = pagesK i ++ ⟨#[42]⟩ from rfl] at hb ⊢;rw [pages_next hb];exact mem_fam1 hbi (by simp [famS, starK])
  ·exact (no_page hb (hd_links _) (by decide)).elim
  ·exact (no_page hb (hd_size _) (by decide)).elim
  ·exact (no_page hb (hd_app (hd_file _)) (by decide)).elim
  ·exact (no_page hb (hd_sigQ _ _) (by decide)).elim
  ·exact (no_page hb (hd_pipeQ _ _) (by decide)).elim
  ·rw [page_app] at hb ⊢;rw [pages_next hb, ← page_app];exact mem_fam hbi (j := (j : Int)) (by omega) (by omega) (by simp [famS])
  ·exact (no_page hb (hd_block _ _) (by decide)).elim
  ·exact (no_page hb (hd_out _) (by decide)).elim
theorem vok_all (xs : Sto) (ss : List Stp) : Vok (· ∈ allS xs ss) (· ∈ intsS ss) (· ∈ namesS ss) where
 sm := fun i h0 h1 => mem_int h0 h1
 procS := fun i h => mem_fam1 h (by simp [famS])
 procP := fun i h => mem_fam1 h (by simp [famS])
 procX := fun i h => mem_fam1 h (by simp [famS])
 procA := fun i h => mem_fam1 h (by simp [famS])
 sigT := fun i h => mem_fam1 h (by simp [famS])
 sigH := fun i h => mem_fam1 h (by simp [famS])
 pipeO := fun i h => mem_fam1 h (by simp [famS])
 pipeT := fun i h => mem_fam1 h (by simp [famS])
 pipeH := fun i h => mem_fam1 h (by simp [famS])
 timer := fun i h => mem_fam1 h (by simp [famS])
 pagesA := fun i h => mem_fam1 h (by simp [famS])
 links := fun i h => mem_fam1 h (by simp [famS])
 size := fun i h => mem_fam1 h (by simp [famS])
 fileA := fun i h => mem_fam1 h (by simp [famS])
 sigQ := fun i j h h0 h1 => mem_fam h h0 h1 (by simp [famS])
 pipeQ := fun i j h h0 h1 => mem_fam h h0 h1 (by simp [famS])
 page := fun i j h h0 h1 => mem_fam h h0 h1 (by simp [famS])
 block := fun i j h h0 h1 => mem_fam h h0 h1 (by simp [famS])
 out := fun j h0 h1 => mem_fam (mem_int (i := 0) (by decide) (by decide)) h0 h1 (by simp [famS])
 nam := fun s h => mem_nam h
 cfile := mem_fix (by simp [fixS])
 cpipe := mem_fix (by simp [fixS])
 cproc := mem_fix (by simp [fixS])
 cclock := mem_fix (by simp [fixS])
 dn := mem_fix (by simp [fixS])
 nA := mem_fix (by simp [fixS])
 tA := mem_fix (by simp [fixS])
 rA := mem_fix (by simp [fixS])
 fork := fun a b k h0 h1 hk hb => fork_in a b k h0 h1 hk hb
theorem sum_one {c : ByteArray × ByteArray} : ∀ {xs : Sto}, c ∈ xs → c.1.size + c.2.size ≤ bulkL bulkC xs
 | x :: xs, h => by
  unfold bulkL;rw [List.map_cons, List.sum_cons, List.length_cons];rcases List.mem_cons.1 h with rfl | h
  ·unfold bulkC;omega
  ·have := sum_one h;unfold bulkL at this;omega
theorem runOk_any {xs : Sto} {ss : List Stp} (h1 : bulkL bulkC xs ≤ 1048576) (h2 : ss.length ≤ 1048576) (hs : StpsOk ss) : RunOk ss xs :=
 ⟨by unfold bulkL at h1; omega, h2, hs, fun k hk => by
  have hi : Kin (· ∈ allS xs ss) xs.length ⟨xs, [], []⟩ := ⟨fun c hc => List.mem_append_left _ (List.mem_map_of_mem hc), fun k hk => (by cases hk), fun k hk => (by cases hk), List.Pairwise.nil, List.Pairwise.nil, ⟨fun _ => false, List.length_filter_le _ _, by
   rw [show xs.filter (fun _ => false) = [] from List.filter_eq_nil_iff.2 (fun _ _ h => by cases h)];exact List.Pairwise.nil⟩, fun x hx => by
   have q : x.1.size + x.2.size ≤ bulkL bulkC xs := sum_one hx;exact ⟨by omega, by omega⟩⟩
  have h := kin_run (vok_all xs ss) (ss.take k) (⟨xs, [], []⟩, []) (fun x hx => by
   have hx2 := List.mem_of_mem_take hx;unfold intsS namesS;exact ⟨List.mem_append_right _ (List.mem_append_left _ (List.mem_map_of_mem hx2)), List.mem_append_right _ (List.mem_append_right _ (List.mem_map.2 ⟨x, hx2, rfl⟩)), List.mem_append_left _ (List.mem_map.2 ⟨x, hx2, rfl⟩), List.mem_append_right _ (List.mem_map.2 ⟨x, hx2, rfl⟩)⟩) hi
  exact (Kin.ok h).up (all_len h1 h2)⟩
end Go.Proofs.YtihghflppegnmaaGreatDoor
namespace Go.Proofs.YtihghflppegnmaaGreatDoor.fnExactAgrees
open Go.ChangeShapes Go.WideShapes Go.ChangeAt Go.RowKit
open Go.ChangeMaps (open_string shut_string)
attribute [local go_sem ↓] Go.wp_at_zero Go.wp_at_succ
theorem dec_of_laid {w : World} (h : laidMetH Tryz.prog Rows.fnExactAgreesRow.laid w) : DecTab w := by
 rw [MakeChecks.laidMetH_plain _ _ _ (by kernel_rfl)] at h;obtain ⟨g, t, cs, fuel, p, hg, ht, hv, hd⟩ := Lib.laidMet.reads h (n := "internal/strconv.uint64pow10") (d := Rows.laid_internal_strconv_uint64pow10) (by repeat (first | exact List.Mem.head _ | apply List.Mem.tail));obtain rfl := Option.some.inj ((show (Tryz.prog.globals[0]?).map (·.type) = some 239 by kernel_rfl).symm.trans (by rw [← ht]; congr 2; exact Option.some.inj ((show Tryz.prog.globalNamed "internal/strconv.uint64pow10" = some 0 by kernel_rfl).symm.trans hg)));have e : Rows.laid_internal_strconv_uint64pow10 = (Lib.tabData .u64 Lib.pow10Tab : DataW Unit) := by kernel_rfl
 rw [e] at hd;unfold DecTab Lib.TabIs;rw [hv, ← Lib.cells_of_tab Tryz.underlying239 Tryz.underlying226 (by kernel_rfl) (by kernel_rfl) hd]
theorem syn_of_laid {w : World} (h : laidMetH Tryz.prog Rows.fnExactAgreesRow.laid w) : ∃ tp p, w.var? Tryz.prog "strconv.ErrSyntax" = some #[.iface tp p] := by
 rw [MakeChecks.laidMetH_plain _ _ _ (by kernel_rfl)] at h;obtain ⟨g, t, cs, fuel, p, hg, ht, hv, hd⟩ := Lib.laidMet.reads h (n := "strconv.ErrSyntax") (d := Rows.laid_strconv_ErrSyntax) (by repeat (first | exact List.Mem.head _ | apply List.Mem.tail));obtain rfl := Option.some.inj ((show (Tryz.prog.globals[2]?).map (·.type) = some 215 by kernel_rfl).symm.trans (by rw [← ht]; congr 2; exact Option.some.inj ((show Tryz.prog.globalNamed "strconv.ErrSyntax" = some 2 by kernel_rfl).symm.trans hg)));obtain ⟨_, u, v, e, _, _⟩ := iface_of_trod Tryz.underlying215 hd;have e2 : cs = #[.iface u v] := by
  apply Array.toList_inj.1;simpa using e
 rw [e2] at hv;exact ⟨u, v, hv⟩
theorem ran_of_laid {w : World} (h : laidMetH Tryz.prog Rows.fnExactAgreesRow.laid w) : ∃ tp p, w.var? Tryz.prog "strconv.ErrRange" = some #[.iface tp p] := by
 rw [MakeChecks.laidMetH_plain _ _ _ (by kernel_rfl)] at h;obtain ⟨g, t, cs, fuel, p, hg, ht, hv, hd⟩ := Lib.laidMet.reads h (n := "strconv.ErrRange") (d := Rows.laid_strconv_ErrRange) (by repeat (first | exact List.Mem.head _ | apply List.Mem.tail));obtain rfl := Option.some.inj ((show (Tryz.prog.globals[3]?).map (·.type) = some 215 by kernel_rfl).symm.trans (by rw [← ht]; congr 2; exact Option.some.inj ((show Tryz.prog.globalNamed "strconv.ErrRange" = some 3 by kernel_rfl).symm.trans hg)));obtain ⟨_, u, v, e, _, _⟩ := iface_of_trod Tryz.underlying215 hd;have e2 : cs = #[.iface u v] := by
  apply Array.toList_inj.1;simpa using e
 rw [e2] at hv;exact ⟨u, v, hv⟩
theorem odd_of_laid {w : World} (h : laidMetH Tryz.prog Rows.fnExactAgreesRow.laid w) : OddErr w := by
 rw [MakeChecks.laidMetH_plain _ _ _ (by kernel_rfl)] at h;obtain ⟨g, t, cs, fuel, p, hg, ht, hv, hd⟩ := Lib.laidMet.reads h (n := "encoding/hex.ErrLength") (d := Rows.laid_encoding_hex_ErrLength) (by repeat (first | exact List.Mem.head _ | apply List.Mem.tail));obtain rfl := Option.some.inj ((show Tryz.prog.globalNamed "encoding/hex.ErrLength" = some 1 by kernel_rfl).symm.trans hg);obtain rfl := Option.some.inj ((show (Tryz.prog.globals[1]?).map (·.type) = some 215 by kernel_rfl).symm.trans ht);obtain ⟨_, u, v, e, _, _⟩ := iface_of_trod Tryz.underlying215 hd;have hc := World.var?_cell hg hv 0;have e2 : cs[0]? = some (.iface u v) := by
  have := congrArg (·[0]?) e;simpa using this
 rw [e2] at hc;exact ⟨u, v, hc⟩
theorem i64_wf {n : Int} (h : (Lit.int .i64 n).wf = true) : I64 n := by
 simp only [Lit.wf, Bool.and_eq_true, decide_eq_true_eq] at h;have e1 : IntKind.i64.min = -9223372036854775808 := by decide
 have e2 : IntKind.i64.max = 9223372036854775807 := by decide
 rw [e1, e2] at h;exact ⟨by omega, by omega⟩
theorem stps_ok {ss : List Stp} (h : ∀ x ∈ ss, okStp x) : StpsOk ss := fun x hx => by
 have q := h x hx;exact ⟨i64_wf q.1, ⟨i64_wf q.2.2.1, i64_wf q.2.2.2.1, q.2.2.2.2.1, q.2.2.2.2.2.1, q.2.2.2.2.2.2⟩⟩
set_option maxRecDepth 100000 in
set_option maxHeartbeats 40000000 in
theorem walk (a0 : Option Addr) (cap0 : Nat) (xs0 : List (ByteArray × ByteArray)) (a1 : Option Addr) (cap1 : Nat) (xs1 : List Stp) (a2 : Option Addr) (cap2 : Nat) (xs2 : List Ans) (w : World) (l0 : xs0.length ≤ maxLen) (r0 : Reads w a0 2 encC xs0) (w0 : ∀ x ∈ xs0, okC x) (l1 : xs1.length ≤ maxLen) (r1 : Reads w a1 7 encStp xs1) (w1 : ∀ x ∈ xs1, okStp x) (l2 : xs2.length ≤ maxLen) (r2 : Reads w a2 3 encA xs2) (w2 : ∀ x ∈ xs2, okA x) (hL : laidMetH Tryz.prog Rows.fnExactAgreesRow.laid w) :
 Calls Tryz.prog 9 #[.slice a0 xs0.length cap0, .slice a1 xs1.length cap1, .slice a2 xs2.length cap2] w fun e w' => e = .returned (.bool true) ∧ Below w.heap.size w w' := by
 have HT := Lib.hid (fun (W : World) (hW : Below w.heap.size w W) => (Tabs.below ⟨dec_of_laid hL, ⟨syn_of_laid hL, ran_of_laid hL⟩, odd_of_laid hL⟩ hW : Tabs W));have R0 := Lib.hid (fun (W : World) (hW : Below w.heap.size w W) => (r0.below hW : Reads W a0 2 encC xs0));have HO0 := Lib.hid w0;have R1 := Lib.hid (fun (W : World) (hW : Below w.heap.size w W) => (r1.below hW : Reads W a1 7 encStp xs1));have HO1 := Lib.hid w1;have R2 := Lib.hid (fun (W : World) (hW : Below w.heap.size w W) => (r2.below hW : Reads W a2 3 encA xs2));have HO2 := Lib.hid w2;have SOK := Lib.hid (stps_ok w1);clear hL r0 w0 r1 w1 r2 w2;have BX := Lib.hid (Below.refl w.heap.size w);go_enter Tryz.func9, Tryz.ntmps9;go_wp2_with fail;refine (szCellS_c a0 cap0 xs0 1048576 (by omega) (by omega) _ l0 (R0.out w BX.out) HO0.out).mono ?_;rintro e wz0 ⟨rfl, hb⟩;have BX := Lib.hid (BX.out.trans (hb.mono BX.out.size));clear hb;by_cases q0 : (1048576 : Int) < (bulkL bulkC xs0 : Nat)
 ·rw [szSub_no q0];go_wp2;go_ret;exact ⟨rfl, BX.out⟩
 rw [szSub_yes (left := 1048576) (n := bulkL bulkC xs0) (by omega)];have p0 : bulkL bulkC xs0 ≤ 1048576 := by omega
 obtain ⟨lf0, hlf0⟩ : ∃ lf : Int, 1048576 - ((bulkL bulkC xs0 : Nat) : Int) = lf := ⟨_, rfl⟩;have k0 : 0 ≤ lf0 := by omega
 have j0 : lf0 ≤ 1048576 := by omega
 have n0 : ¬ lf0 < 0 := by omega
 rw [hlf0];clear hlf0 q0;have P0 := Lib.hid p0;have M0 := Lib.hid (show xs0.length ≤ 1048576 from by have := bulkL_ge bulkC xs0; omega);clear p0;go_wp2_with fail;refine (szStepS_c a1 cap1 xs1 lf0 (by omega) (by omega) _ l1 (R1.out wz0 BX.out) HO1.out).mono ?_;rintro e wz1 ⟨rfl, hb⟩;have BX := Lib.hid (BX.out.trans (hb.mono BX.out.size));clear hb;by_cases q1 : (lf0 : Int) < (bulkL bulkP xs1 : Nat)
 ·rw [szSub_no q1];go_wp2;go_ret;exact ⟨rfl, BX.out⟩
 rw [szSub_yes (left := lf0) (n := bulkL bulkP xs1) (by omega)];have p1 : bulkL bulkP xs1 ≤ 1048576 := by omega
 obtain ⟨lf1, hlf1⟩ : ∃ lf : Int, lf0 - ((bulkL bulkP xs1 : Nat) : Int) = lf := ⟨_, rfl⟩;have k1 : 0 ≤ lf1 := by omega
 have j1 : lf1 ≤ 1048576 := by omega
 have n1 : ¬ lf1 < 0 := by omega
 rw [hlf1];clear hlf1 q1;have P1 := Lib.hid p1;have M1 := Lib.hid (show xs1.length ≤ 1048576 from by have := bulkL_ge bulkP xs1; omega);clear p1;go_wp2_with fail;refine (szAnswerS_c a2 cap2 xs2 lf1 (by omega) (by omega) _ l2 (R2.out wz1 BX.out) HO2.out).mono ?_;rintro e wz2 ⟨rfl, hb⟩;have BX := Lib.hid (BX.out.trans (hb.mono BX.out.size));clear hb;by_cases q2 : (lf1 : Int) < (bulkL bulkA xs2 : Nat)
 ·rw [szSub_no q2];go_wp2;go_ret;exact ⟨rfl, BX.out⟩
 rw [szSub_yes (left := lf1) (n := bulkL bulkA xs2) (by omega)];have p2 : bulkL bulkA xs2 ≤ 1048576 := by omega
 obtain ⟨lf2, hlf2⟩ : ∃ lf : Int, lf1 - ((bulkL bulkA xs2 : Nat) : Int) = lf := ⟨_, rfl⟩;have k2 : 0 ≤ lf2 := by omega
 have j2 : lf2 ≤ 1048576 := by omega
 have n2 : ¬ lf2 < 0 := by omega
 rw [hlf2];clear hlf2 q2;have P2 := Lib.hid p2;have M2 := Lib.hid (show xs2.length ≤ 1048576 from by have := bulkL_ge bulkA xs2; omega);clear p2;clear k0 j0 k1 j1 k2 j2;have RO := Lib.hid (runOk_any P0.out M1.out SOK.out);clear P0 SOK;have T0 := Lib.hid (fun (W : World) (hW : Below w.heap.size w W) => toCellS_c a0 cap0 xs0 W M0.out (R0.out W hW));have T1 := Lib.hid (fun (W : World) (hW : Below w.heap.size w W) => toStepS_c a1 cap1 xs1 W M1.out (R1.out W hW));have T2 := Lib.hid (fun (W : World) (hW : Below w.heap.size w W) => toAnswerS_c a2 cap2 xs2 W M2.out (R2.out W hW));have Q0 := Lib.hid (fun (X : World) (a a' : Option Addr) (c c' : Nat) (h1 : Reads X a 2 encC xs0) (h2 : Reads X a' 2 encC xs0) => show Calls Tryz.prog 29 #[.slice a xs0.length c, .slice a' xs0.length c'] X (fun e w' => e = .returned (.bool true) ∧ Below X.heap.size X w') from by have h := eqCellS_c a a' c c' xs0 xs0 X (by have := M0.out; unfold maxLen; omega) h1 h2; rw [same_self] at h; exact h);have Q1 := Lib.hid (fun (X : World) (a a' : Option Addr) (c c' : Nat) (h1 : Reads X a 7 encStp xs1) (h2 : Reads X a' 7 encStp xs1) => show Calls Tryz.prog 54 #[.slice a xs1.length c, .slice a' xs1.length c'] X (fun e w' => e = .returned (.bool true) ∧ Below X.heap.size X w') from by have h := eqStepS_c a a' c c' xs1 xs1 X (by have := M1.out; unfold maxLen; omega) h1 h2; rw [same_self] at h; exact h);have Q2 := Lib.hid (fun (X : World) (a a' : Option Addr) (c c' : Nat) (h1 : Reads X a 3 encA xs2) (h2 : Reads X a' 3 encA xs2) => show Calls Tryz.prog 55 #[.slice a xs2.length c, .slice a' xs2.length c'] X (fun e w' => e = .returned (.bool true) ∧ Below X.heap.size X w') from by have h := eqAnswerS_c a a' c c' xs2 xs2 X (by have := M2.out; unfold maxLen; omega) h1 h2; rw [same_self] at h; exact h);obtain ⟨r, hr⟩ : ∃ r : Bool, same (runT xs1 ⟨xs0, [], []⟩).2 xs2 = r := ⟨_, rfl⟩;have KS := Lib.hid (fun (W : World) (a a' a'' : Option Addr) (c c' c'' : Nat) (h : Reads W a 2 encC xs0) (h' : Reads W a' 7 encStp xs1) (h'' : Reads W a'' 3 encA xs2) => show Calls Tryz.prog 46 #[.slice a xs0.length c, .slice a' xs1.length c', .slice a'' xs2.length c''] W (fun e w' => e = .returned (.bool r) ∧ Below W.heap.size W w') from by rw [← hr]; exact agreesS_c a a' a'' c c' c'' xs0 xs1 xs2 W h h' h'' RO.out);have KI := Lib.hid (fun (W : World) (hW : Below w.heap.size w W) (a a' a'' : Option Addr) (c c' c'' : Nat) (h : Reads W a 2 encC xs0) (h' : Reads W a' 7 encStp xs1) (h'' : Reads W a'' 3 encA xs2) => show Calls Tryz.prog 45 #[.slice a xs0.length c, .slice a' xs1.length c', .slice a'' xs2.length c''] W (fun e w' => e = .returned (.bool r) ∧ Below W.heap.size W w') from by rw [← hr]; exact agreesI_c a a' a'' c c' c'' xs0 xs1 xs2 W h h' h'' RO.out (fun X hX => HT.out X (hW.trans (hX.mono hW.size))));clear hr HO0 HO1 HO2;go_wp2_with fail;refine (T0.out _ BX.out).mono ?_;rintro e w3 ⟨v, rfl, op, hb⟩;obtain ⟨ap, cp, hv, -⟩ := reads_of_owns encC_len op;subst hv;have Op := Lib.hid op;clear op;have BX := Lib.hid (BX.out.trans (hb.mono BX.out.size));clear hb;go_wp2_with fail;refine (T1.out _ BX.out).mono ?_;rintro e w4 ⟨v, rfl, oq, hb⟩;obtain ⟨aq, cq, hv, -⟩ := reads_of_owns encStp_len oq;subst hv;have Oq := Lib.hid oq;clear oq;have BX := Lib.hid (BX.out.trans (hb.mono BX.out.size));have Op := Lib.hid (ownsRow_below Op.out hb);clear hb;go_wp2_with fail;refine (T2.out _ BX.out).mono ?_;rintro e w5 ⟨v, rfl, on, hb⟩;obtain ⟨an, cn, hv, -⟩ := reads_of_owns encA_len on;subst hv;have On := Lib.hid on;clear on;have BX := Lib.hid (BX.out.trans (hb.mono BX.out.size));have Op := Lib.hid (ownsRow_below Op.out hb);have Oq := Lib.hid (ownsRow_below Oq.out hb);clear hb;go_wp2_with fail;refine (KS.out _ _ _ _ _ _ _ (reads_owns2 encC_len Op.out) (reads_owns2 encStp_len Oq.out) (reads_owns2 encA_len On.out)).mono ?_;rintro e w6 ⟨rfl, hb⟩;clear Op Oq On;have BX := Lib.hid (BX.out.trans (hb.mono BX.out.size));clear hb;go_wp2_with fail;refine (T0.out _ BX.out).mono ?_;rintro e w7 ⟨v, rfl, ox, hb⟩
 obtain ⟨ax, cx, hv, -⟩ := reads_of_owns encC_len ox;subst hv;have Ox := Lib.hid ox;clear ox;have BX := Lib.hid (BX.out.trans (hb.mono BX.out.size));clear hb;go_wp2_with fail;refine (T1.out _ BX.out).mono ?_;rintro e w8 ⟨v, rfl, oy, hb⟩;obtain ⟨ay, cy, hv, -⟩ := reads_of_owns encStp_len oy;subst hv;have Oy := Lib.hid oy;clear oy;have BX := Lib.hid (BX.out.trans (hb.mono BX.out.size));have Ox := Lib.hid (ownsRow_below Ox.out hb);clear hb;go_wp2_with fail;refine (T2.out _ BX.out).mono ?_;rintro e w9 ⟨v, rfl, oz, hb⟩;obtain ⟨az, cz, hv, -⟩ := reads_of_owns encA_len oz;subst hv;have Oz := Lib.hid oz;clear oz;have BX := Lib.hid (BX.out.trans (hb.mono BX.out.size));have Ox := Lib.hid (ownsRow_below Ox.out hb);have Oy := Lib.hid (ownsRow_below Oy.out hb);clear hb;go_wp2_with fail;refine (KI.out _ BX.out _ _ _ _ _ _ (reads_owns2 encC_len Ox.out) (reads_owns2 encStp_len Oy.out) (reads_owns2 encA_len Oz.out)).mono ?_;rintro e w10 ⟨rfl, hb⟩;have BX := Lib.hid (BX.out.trans (hb.mono BX.out.size));have Ox := Lib.hid (ownsRow_below Ox.out hb);have Oy := Lib.hid (ownsRow_below Oy.out hb);have Oz := Lib.hid (ownsRow_below Oz.out hb);clear hb;cases r
 ·go_wp2_with fail;refine (T0.out _ BX.out).mono ?_;rintro e wc0 ⟨v, rfl, ot0, hb⟩;obtain ⟨at0, ct0, hv, -⟩ := reads_of_owns encC_len ot0;subst hv;have Ot0 := Lib.hid ot0;clear ot0;have BX := Lib.hid (BX.out.trans (hb.mono BX.out.size));have Ox := Lib.hid (ownsRow_below Ox.out hb);have Oy := Lib.hid (ownsRow_below Oy.out hb);have Oz := Lib.hid (ownsRow_below Oz.out hb);clear hb;go_wp2_with fail;refine (Q0.out _ _ _ _ _ (reads_owns2 encC_len Ox.out) (reads_owns2 encC_len Ot0.out)).mono ?_;rintro e we0 ⟨rfl, hb⟩;clear Ot0;have BX := Lib.hid (BX.out.trans (hb.mono BX.out.size));have Ox := Lib.hid (ownsRow_below Ox.out hb);have Oy := Lib.hid (ownsRow_below Oy.out hb);have Oz := Lib.hid (ownsRow_below Oz.out hb);clear hb;go_wp2_with fail;refine (T1.out _ BX.out).mono ?_;rintro e wc1 ⟨v, rfl, ot1, hb⟩;obtain ⟨at1, ct1, hv, -⟩ := reads_of_owns encStp_len ot1;subst hv;have Ot1 := Lib.hid ot1;clear ot1;have BX := Lib.hid (BX.out.trans (hb.mono BX.out.size));have Ox := Lib.hid (ownsRow_below Ox.out hb);have Oy := Lib.hid (ownsRow_below Oy.out hb);have Oz := Lib.hid (ownsRow_below Oz.out hb);clear hb;go_wp2_with fail;refine (Q1.out _ _ _ _ _ (reads_owns2 encStp_len Oy.out) (reads_owns2 encStp_len Ot1.out)).mono ?_;rintro e we1 ⟨rfl, hb⟩;clear Ot1;have BX := Lib.hid (BX.out.trans (hb.mono BX.out.size));have Ox := Lib.hid (ownsRow_below Ox.out hb);have Oy := Lib.hid (ownsRow_below Oy.out hb);have Oz := Lib.hid (ownsRow_below Oz.out hb);clear hb;go_wp2_with fail;refine (T2.out _ BX.out).mono ?_;rintro e wc2 ⟨v, rfl, ot2, hb⟩;obtain ⟨at2, ct2, hv, -⟩ := reads_of_owns encA_len ot2;subst hv;have Ot2 := Lib.hid ot2;clear ot2;have BX := Lib.hid (BX.out.trans (hb.mono BX.out.size));have Ox := Lib.hid (ownsRow_below Ox.out hb);have Oy := Lib.hid (ownsRow_below Oy.out hb);have Oz := Lib.hid (ownsRow_below Oz.out hb);clear hb;go_wp2_with fail;refine (Q2.out _ _ _ _ _ (reads_owns2 encA_len Oz.out) (reads_owns2 encA_len Ot2.out)).mono ?_;rintro e we2 ⟨rfl, hb⟩;clear Ot2;have BX := Lib.hid (BX.out.trans (hb.mono BX.out.size));have Ox := Lib.hid (ownsRow_below Ox.out hb);have Oy := Lib.hid (ownsRow_below Oy.out hb);have Oz := Lib.hid (ownsRow_below Oz.out hb);clear hb;go_wp2;go_ret;exact ⟨rfl, BX.out⟩
 ·go_wp2_with fail;refine (T0.out _ BX.out).mono ?_;rintro e wc0 ⟨v, rfl, ot0, hb⟩;obtain ⟨at0, ct0, hv, -⟩ := reads_of_owns encC_len ot0;subst hv;have Ot0 := Lib.hid ot0;clear ot0;have BX := Lib.hid (BX.out.trans (hb.mono BX.out.size));have Ox := Lib.hid (ownsRow_below Ox.out hb);have Oy := Lib.hid (ownsRow_below Oy.out hb);have Oz := Lib.hid (ownsRow_below Oz.out hb);clear hb;go_wp2_with fail;refine (Q0.out _ _ _ _ _ (reads_owns2 encC_len Ox.out) (reads_owns2 encC_len Ot0.out)).mono ?_;rintro e we0 ⟨rfl, hb⟩;clear Ot0;have BX := Lib.hid (BX.out.trans (hb.mono BX.out.size));have Ox := Lib.hid (ownsRow_below Ox.out hb);have Oy := Lib.hid (ownsRow_below Oy.out hb);have Oz := Lib.hid (ownsRow_below Oz.out hb);clear hb;go_wp2_with fail;refine (T1.out _ BX.out).mono ?_;rintro e wc1 ⟨v, rfl, ot1, hb⟩;obtain ⟨at1, ct1, hv, -⟩ := reads_of_owns encStp_len ot1;subst hv;have Ot1 := Lib.hid ot1;clear ot1;have BX := Lib.hid (BX.out.trans (hb.mono BX.out.size));have Ox := Lib.hid (ownsRow_below Ox.out hb);have Oy := Lib.hid (ownsRow_below Oy.out hb);have Oz := Lib.hid (ownsRow_below Oz.out hb);clear hb;go_wp2_with fail;refine (Q1.out _ _ _ _ _ (reads_owns2 encStp_len Oy.out) (reads_owns2 encStp_len Ot1.out)).mono ?_;rintro e we1 ⟨rfl, hb⟩;clear Ot1;have BX := Lib.hid (BX.out.trans (hb.mono BX.out.size));have Ox := Lib.hid (ownsRow_below Ox.out hb);have Oy := Lib.hid (ownsRow_below Oy.out hb);have Oz := Lib.hid (ownsRow_below Oz.out hb);clear hb;go_wp2_with fail;refine (T2.out _ BX.out).mono ?_;rintro e wc2 ⟨v, rfl, ot2, hb⟩;obtain ⟨at2, ct2, hv, -⟩ := reads_of_owns encA_len ot2;subst hv;have Ot2 := Lib.hid ot2;clear ot2;have BX := Lib.hid (BX.out.trans (hb.mono BX.out.size));have Ox := Lib.hid (ownsRow_below Ox.out hb);have Oy := Lib.hid (ownsRow_below Oy.out hb);have Oz := Lib.hid (ownsRow_below Oz.out hb);clear hb;go_wp2_with fail;refine (Q2.out _ _ _ _ _ (reads_owns2 encA_len Oz.out) (reads_owns2 encA_len Ot2.out)).mono ?_;rintro e we2 ⟨rfl, hb⟩;clear Ot2;have BX := Lib.hid (BX.out.trans (hb.mono BX.out.size));have Ox := Lib.hid (ownsRow_below Ox.out hb);have Oy := Lib.hid (ownsRow_below Oy.out hb);have Oz := Lib.hid (ownsRow_below Oz.out hb);clear hb;go_wp2;go_ret;exact ⟨rfl, BX.out⟩
end Go.Proofs.YtihghflppegnmaaGreatDoor.fnExactAgrees
