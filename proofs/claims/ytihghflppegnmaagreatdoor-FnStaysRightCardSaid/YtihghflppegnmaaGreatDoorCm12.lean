/- Lemmas and contracts that the last text leans on, joined: Told, DrawZ, DrawC, Grow, NumFacts, KidFacts, Big. Conditions: as each theorem says. -/
import Derived.Test.YtihghflppegnmaaGreatDoorProg
import Derived.WalkKit
import Derived.WalkSpells
import Derived.WalkLawsBesides
import Derived.Test.YtihghflppegnmaaGreatDoorCm1
import Derived.Lib.Hide
import Derived.Test.YtihghflppegnmaaGreatDoorCm6
import Derived.Test.YtihghflppegnmaaGreatDoorCm2
import Derived.Test.YtihghflppegnmaaGreatDoorCm8
import Derived.Test.YtihghflppegnmaaGreatDoorCm3
set_option linter.unusedSimpArgs false
set_option linter.unusedVariables false
namespace Go.Proofs.YtihghflppegnmaaGreatDoor
open Go.RowKit
def useN (k : Int) : Bool := k == 1 || k == 2 || k == 3 || k == 4 || k == 6 || k == 7 || k == 8
def useT (k : Int) : Bool := k == 2 || k == 4
def useA (k : Int) : Bool := k == 6 || k == 16 || k == 8 || k == 11 || k == 13 || k == 14 || k == 18 || k == 19 || k == 21 || k == 7 || k == 10 || k == 20
def useB (k : Int) : Bool := k == 6 || k == 16
def useX (k : Int) : Bool := k == 7 || k == 10 || k == 20 || k == 22
def strIf (b : Bool) (s : ByteArray) : ByteArray := if b then s else ⟨#[]⟩
def intIf (b : Bool) (n : Int) : Int := if b then n else 0
def toldOf (x : Cal) : Cal := ⟨x.kind, strIf (useN x.kind) x.name, strIf (useT x.kind) x.dest, intIf (useA x.kind) x.a, intIf (useB x.kind) x.b, strIf (useX x.kind) x.text⟩
theorem kinds_or (k : Int) : (k = 1 ∨ k = 2 ∨ k = 3 ∨ k = 4 ∨ k = 5 ∨ k = 6 ∨ k = 7 ∨ k = 8 ∨ k = 9 ∨ k = 10 ∨ k = 11 ∨ k = 12 ∨ k = 13 ∨ k = 14 ∨ k = 15 ∨ k = 16 ∨ k = 17 ∨ k = 18 ∨ k = 19 ∨ k = 20 ∨ k = 21 ∨ k = 22) ∨ (k < 1 ∨ 22 < k) := by omega
theorem told_other {x : Cal} (h : x.kind < 1 ∨ 22 < x.kind) : toldOf x = ⟨x.kind, ⟨#[]⟩, ⟨#[]⟩, 0, 0, ⟨#[]⟩⟩ := by
 have e : ∀ i : Int, 1 ≤ i → i ≤ 22 → (x.kind == i) = false := fun i h1 h2 => by simp; omega
 unfold toldOf;have eN : useN x.kind = false := by unfold useN; simp [e]
 have eT : useT x.kind = false := by unfold useT; simp [e]
 have eA : useA x.kind = false := by unfold useA; simp [e]
 have eB : useB x.kind = false := by unfold useB; simp [e]
 have eX : useX x.kind = false := by unfold useX; simp [e]
 rw [eN, eT, eA, eB, eX];rfl
set_option maxHeartbeats 8000000 in
theorem specTold_c (x : Cal) (w : World) : Calls Tryz.prog 20 #[.agg #[.int .i64 x.kind, .string x.name, .string x.dest, .int .i64 x.a, .int .i64 x.b, .string x.text]] w fun e w' => e = .returned (.agg #[.int .i64 (toldOf x).kind, .string (toldOf x).name, .string (toldOf x).dest, .int .i64 (toldOf x).a, .int .i64 (toldOf x).b, .string (toldOf x).text]) ∧ Below w.heap.size w w' := by
 rcases kinds_or x.kind with h | h
 ·obtain ⟨k, n, d, a, b, t⟩ := x;dsimp only at h;rcases h with rfl | rfl | rfl | rfl | rfl | rfl | rfl | rfl | rfl | rfl | rfl | rfl | rfl | rfl | rfl | rfl | rfl | rfl | rfl | rfl | rfl | rfl
  ·go_enter Tryz.func20, Tryz.ntmps20;go_wp2;exact bodyPost_ret (v := .agg #[.int .i64 1, .string n, .string ⟨#[]⟩, .int .i64 0, .int .i64 0, .string ⟨#[]⟩]) (by simp [results, Tryz.results20, go_sem]) rfl ⟨rfl, (by repeat (first | exact Below.refl _ _ | refine Below.drew ?_ | refine below_drewN ?_ _ | refine Below.allocC ?_ _ | refine Below.setCell ?_ (by first | (simp; done) | (simp; omega)) _ | refine Below.chain ?_ (by assumption)))⟩
  ·go_enter Tryz.func20, Tryz.ntmps20;go_wp2;exact bodyPost_ret (v := .agg #[.int .i64 2, .string n, .string d, .int .i64 0, .int .i64 0, .string ⟨#[]⟩]) (by simp [results, Tryz.results20, go_sem]) rfl ⟨rfl, (by repeat (first | exact Below.refl _ _ | refine Below.drew ?_ | refine below_drewN ?_ _ | refine Below.allocC ?_ _ | refine Below.setCell ?_ (by first | (simp; done) | (simp; omega)) _ | refine Below.chain ?_ (by assumption)))⟩
  ·go_enter Tryz.func20, Tryz.ntmps20;go_wp2;exact bodyPost_ret (v := .agg #[.int .i64 3, .string n, .string ⟨#[]⟩, .int .i64 0, .int .i64 0, .string ⟨#[]⟩]) (by simp [results, Tryz.results20, go_sem]) rfl ⟨rfl, (by repeat (first | exact Below.refl _ _ | refine Below.drew ?_ | refine below_drewN ?_ _ | refine Below.allocC ?_ _ | refine Below.setCell ?_ (by first | (simp; done) | (simp; omega)) _ | refine Below.chain ?_ (by assumption)))⟩
  ·go_enter Tryz.func20, Tryz.ntmps20;go_wp2;exact bodyPost_ret (v := .agg #[.int .i64 4, .string n, .string d, .int .i64 0, .int .i64 0, .string ⟨#[]⟩]) (by simp [results, Tryz.results20, go_sem]) rfl ⟨rfl, (by repeat (first | exact Below.refl _ _ | refine Below.drew ?_ | refine below_drewN ?_ _ | refine Below.allocC ?_ _ | refine Below.setCell ?_ (by first | (simp; done) | (simp; omega)) _ | refine Below.chain ?_ (by assumption)))⟩
  ·go_enter Tryz.func20, Tryz.ntmps20;go_wp2;exact bodyPost_ret (v := .agg #[.int .i64 5, .string ⟨#[]⟩, .string ⟨#[]⟩, .int .i64 0, .int .i64 0, .string ⟨#[]⟩]) (by simp [results, Tryz.results20, go_sem]) rfl ⟨rfl, (by repeat (first | exact Below.refl _ _ | refine Below.drew ?_ | refine below_drewN ?_ _ | refine Below.allocC ?_ _ | refine Below.setCell ?_ (by first | (simp; done) | (simp; omega)) _ | refine Below.chain ?_ (by assumption)))⟩
  ·go_enter Tryz.func20, Tryz.ntmps20;go_wp2;exact bodyPost_ret (v := .agg #[.int .i64 6, .string n, .string ⟨#[]⟩, .int .i64 a, .int .i64 b, .string ⟨#[]⟩]) (by simp [results, Tryz.results20, go_sem]) rfl ⟨rfl, (by repeat (first | exact Below.refl _ _ | refine Below.drew ?_ | refine below_drewN ?_ _ | refine Below.allocC ?_ _ | refine Below.setCell ?_ (by first | (simp; done) | (simp; omega)) _ | refine Below.chain ?_ (by assumption)))⟩
  ·go_enter Tryz.func20, Tryz.ntmps20;go_wp2;exact bodyPost_ret (v := .agg #[.int .i64 7, .string n, .string ⟨#[]⟩, .int .i64 a, .int .i64 0, .string t]) (by simp [results, Tryz.results20, go_sem]) rfl ⟨rfl, (by repeat (first | exact Below.refl _ _ | refine Below.drew ?_ | refine below_drewN ?_ _ | refine Below.allocC ?_ _ | refine Below.setCell ?_ (by first | (simp; done) | (simp; omega)) _ | refine Below.chain ?_ (by assumption)))⟩
  ·go_enter Tryz.func20, Tryz.ntmps20;go_wp2;exact bodyPost_ret (v := .agg #[.int .i64 8, .string n, .string ⟨#[]⟩, .int .i64 a, .int .i64 0, .string ⟨#[]⟩]) (by simp [results, Tryz.results20, go_sem]) rfl ⟨rfl, (by repeat (first | exact Below.refl _ _ | refine Below.drew ?_ | refine below_drewN ?_ _ | refine Below.allocC ?_ _ | refine Below.setCell ?_ (by first | (simp; done) | (simp; omega)) _ | refine Below.chain ?_ (by assumption)))⟩
  ·go_enter Tryz.func20, Tryz.ntmps20;go_wp2;exact bodyPost_ret (v := .agg #[.int .i64 9, .string ⟨#[]⟩, .string ⟨#[]⟩, .int .i64 0, .int .i64 0, .string ⟨#[]⟩]) (by simp [results, Tryz.results20, go_sem]) rfl ⟨rfl, (by repeat (first | exact Below.refl _ _ | refine Below.drew ?_ | refine below_drewN ?_ _ | refine Below.allocC ?_ _ | refine Below.setCell ?_ (by first | (simp; done) | (simp; omega)) _ | refine Below.chain ?_ (by assumption)))⟩
  ·go_enter Tryz.func20, Tryz.ntmps20;go_wp2;exact bodyPost_ret (v := .agg #[.int .i64 10, .string ⟨#[]⟩, .string ⟨#[]⟩, .int .i64 a, .int .i64 0, .string t]) (by simp [results, Tryz.results20, go_sem]) rfl ⟨rfl, (by repeat (first | exact Below.refl _ _ | refine Below.drew ?_ | refine below_drewN ?_ _ | refine Below.allocC ?_ _ | refine Below.setCell ?_ (by first | (simp; done) | (simp; omega)) _ | refine Below.chain ?_ (by assumption)))⟩
  ·go_enter Tryz.func20, Tryz.ntmps20;go_wp2;exact bodyPost_ret (v := .agg #[.int .i64 11, .string ⟨#[]⟩, .string ⟨#[]⟩, .int .i64 a, .int .i64 0, .string ⟨#[]⟩]) (by simp [results, Tryz.results20, go_sem]) rfl ⟨rfl, (by repeat (first | exact Below.refl _ _ | refine Below.drew ?_ | refine below_drewN ?_ _ | refine Below.allocC ?_ _ | refine Below.setCell ?_ (by first | (simp; done) | (simp; omega)) _ | refine Below.chain ?_ (by assumption)))⟩
  ·go_enter Tryz.func20, Tryz.ntmps20;go_wp2;exact bodyPost_ret (v := .agg #[.int .i64 12, .string ⟨#[]⟩, .string ⟨#[]⟩, .int .i64 0, .int .i64 0, .string ⟨#[]⟩]) (by simp [results, Tryz.results20, go_sem]) rfl ⟨rfl, (by repeat (first | exact Below.refl _ _ | refine Below.drew ?_ | refine below_drewN ?_ _ | refine Below.allocC ?_ _ | refine Below.setCell ?_ (by first | (simp; done) | (simp; omega)) _ | refine Below.chain ?_ (by assumption)))⟩
  ·go_enter Tryz.func20, Tryz.ntmps20;go_wp2;exact bodyPost_ret (v := .agg #[.int .i64 13, .string ⟨#[]⟩, .string ⟨#[]⟩, .int .i64 a, .int .i64 0, .string ⟨#[]⟩]) (by simp [results, Tryz.results20, go_sem]) rfl ⟨rfl, (by repeat (first | exact Below.refl _ _ | refine Below.drew ?_ | refine below_drewN ?_ _ | refine Below.allocC ?_ _ | refine Below.setCell ?_ (by first | (simp; done) | (simp; omega)) _ | refine Below.chain ?_ (by assumption)))⟩
  ·go_enter Tryz.func20, Tryz.ntmps20;go_wp2;exact bodyPost_ret (v := .agg #[.int .i64 14, .string ⟨#[]⟩, .string ⟨#[]⟩, .int .i64 a, .int .i64 0, .string ⟨#[]⟩]) (by simp [results, Tryz.results20, go_sem]) rfl ⟨rfl, (by repeat (first | exact Below.refl _ _ | refine Below.drew ?_ | refine below_drewN ?_ _ | refine Below.allocC ?_ _ | refine Below.setCell ?_ (by first | (simp; done) | (simp; omega)) _ | refine Below.chain ?_ (by assumption)))⟩
  ·go_enter Tryz.func20, Tryz.ntmps20;go_wp2;exact bodyPost_ret (v := .agg #[.int .i64 15, .string ⟨#[]⟩, .string ⟨#[]⟩, .int .i64 0, .int .i64 0, .string ⟨#[]⟩]) (by simp [results, Tryz.results20, go_sem]) rfl ⟨rfl, (by repeat (first | exact Below.refl _ _ | refine Below.drew ?_ | refine below_drewN ?_ _ | refine Below.allocC ?_ _ | refine Below.setCell ?_ (by first | (simp; done) | (simp; omega)) _ | refine Below.chain ?_ (by assumption)))⟩
  ·go_enter Tryz.func20, Tryz.ntmps20;go_wp2;exact bodyPost_ret (v := .agg #[.int .i64 16, .string ⟨#[]⟩, .string ⟨#[]⟩, .int .i64 a, .int .i64 b, .string ⟨#[]⟩]) (by simp [results, Tryz.results20, go_sem]) rfl ⟨rfl, (by repeat (first | exact Below.refl _ _ | refine Below.drew ?_ | refine below_drewN ?_ _ | refine Below.allocC ?_ _ | refine Below.setCell ?_ (by first | (simp; done) | (simp; omega)) _ | refine Below.chain ?_ (by assumption)))⟩
  ·go_enter Tryz.func20, Tryz.ntmps20;go_wp2;exact bodyPost_ret (v := .agg #[.int .i64 17, .string ⟨#[]⟩, .string ⟨#[]⟩, .int .i64 0, .int .i64 0, .string ⟨#[]⟩]) (by simp [results, Tryz.results20, go_sem]) rfl ⟨rfl, (by repeat (first | exact Below.refl _ _ | refine Below.drew ?_ | refine below_drewN ?_ _ | refine Below.allocC ?_ _ | refine Below.setCell ?_ (by first | (simp; done) | (simp; omega)) _ | refine Below.chain ?_ (by assumption)))⟩
  ·go_enter Tryz.func20, Tryz.ntmps20;go_wp2;exact bodyPost_ret (v := .agg #[.int .i64 18, .string ⟨#[]⟩, .string ⟨#[]⟩, .int .i64 a, .int .i64 0, .string ⟨#[]⟩]) (by simp [results, Tryz.results20, go_sem]) rfl ⟨rfl, (by repeat (first | exact Below.refl _ _ | refine Below.drew ?_ | refine below_drewN ?_ _ | refine Below.allocC ?_ _ | refine Below.setCell ?_ (by first | (simp; done) | (simp; omega)) _ | refine Below.chain ?_ (by assumption)))⟩
  ·go_enter Tryz.func20, Tryz.ntmps20;go_wp2;exact bodyPost_ret (v := .agg #[.int .i64 19, .string ⟨#[]⟩, .string ⟨#[]⟩, .int .i64 a, .int .i64 0, .string ⟨#[]⟩]) (by simp [results, Tryz.results20, go_sem]) rfl ⟨rfl, (by repeat (first | exact Below.refl _ _ | refine Below.drew ?_ | refine below_drewN ?_ _ | refine Below.allocC ?_ _ | refine Below.setCell ?_ (by first | (simp; done) | (simp; omega)) _ | refine Below.chain ?_ (by assumption)))⟩
  ·go_enter Tryz.func20, Tryz.ntmps20;go_wp2;exact bodyPost_ret (v := .agg #[.int .i64 20, .string ⟨#[]⟩, .string ⟨#[]⟩, .int .i64 a, .int .i64 0, .string t]) (by simp [results, Tryz.results20, go_sem]) rfl ⟨rfl, (by repeat (first | exact Below.refl _ _ | refine Below.drew ?_ | refine below_drewN ?_ _ | refine Below.allocC ?_ _ | refine Below.setCell ?_ (by first | (simp; done) | (simp; omega)) _ | refine Below.chain ?_ (by assumption)))⟩
  ·go_enter Tryz.func20, Tryz.ntmps20;go_wp2;exact bodyPost_ret (v := .agg #[.int .i64 21, .string ⟨#[]⟩, .string ⟨#[]⟩, .int .i64 a, .int .i64 0, .string ⟨#[]⟩]) (by simp [results, Tryz.results20, go_sem]) rfl ⟨rfl, (by repeat (first | exact Below.refl _ _ | refine Below.drew ?_ | refine below_drewN ?_ _ | refine Below.allocC ?_ _ | refine Below.setCell ?_ (by first | (simp; done) | (simp; omega)) _ | refine Below.chain ?_ (by assumption)))⟩
  ·go_enter Tryz.func20, Tryz.ntmps20;go_wp2;exact bodyPost_ret (v := .agg #[.int .i64 22, .string ⟨#[]⟩, .string ⟨#[]⟩, .int .i64 0, .int .i64 0, .string t]) (by simp [results, Tryz.results20, go_sem]) rfl ⟨rfl, (by repeat (first | exact Below.refl _ _ | refine Below.drew ?_ | refine below_drewN ?_ _ | refine Below.allocC ?_ _ | refine Below.setCell ?_ (by first | (simp; done) | (simp; omega)) _ | refine Below.chain ?_ (by assumption)))⟩
 ·have E := Lib.hid (told_other h);obtain ⟨k, n, d, a, b, t⟩ := x;dsimp only at h;have e1 : (k == 1) = false := by simp; omega
  have e2 : (k == 2) = false := by simp; omega
  have e3 : (k == 3) = false := by simp; omega
  have e4 : (k == 4) = false := by simp; omega
  have e5 : (k == 5) = false := by simp; omega
  have e6 : (k == 6) = false := by simp; omega
  have e7 : (k == 7) = false := by simp; omega
  have e8 : (k == 8) = false := by simp; omega
  have e9 : (k == 9) = false := by simp; omega
  have e10 : (k == 10) = false := by simp; omega
  have e11 : (k == 11) = false := by simp; omega
  have e12 : (k == 12) = false := by simp; omega
  have e13 : (k == 13) = false := by simp; omega
  have e14 : (k == 14) = false := by simp; omega
  have e15 : (k == 15) = false := by simp; omega
  have e16 : (k == 16) = false := by simp; omega
  have e17 : (k == 17) = false := by simp; omega
  have e18 : (k == 18) = false := by simp; omega
  have e19 : (k == 19) = false := by simp; omega
  have e20 : (k == 20) = false := by simp; omega
  have e21 : (k == 21) = false := by simp; omega
  have e22 : (k == 22) = false := by simp; omega
  clear h;go_enter Tryz.func20, Tryz.ntmps20;go_wp2;exact bodyPost_ret (v := .agg #[.int .i64 k, .string ⟨#[]⟩, .string ⟨#[]⟩, .int .i64 0, .int .i64 0, .string ⟨#[]⟩]) (by simp [results, Tryz.results20, go_sem]) rfl ⟨by rw [E.out], (by repeat (first | exact Below.refl _ _ | refine Below.drew ?_ | refine below_drewN ?_ _ | refine Below.allocC ?_ _ | refine Below.setCell ?_ (by first | (simp; done) | (simp; omega)) _ | refine Below.chain ?_ (by assumption)))⟩
end Go.Proofs.YtihghflppegnmaaGreatDoor
namespace Go.Proofs.YtihghflppegnmaaGreatDoor
open Go.ChangeShapes Go.WideShapes Go.ChangeAt Go.RowKit
attribute [local go_sem ↓] Go.wp_at_zero Go.wp_at_succ
theorem Cur.grown {w0 w w' : World} {c b : Nat} (h : Cur w0 w c) (hg : w.grownBy w' (some b)) (hne : b ≠ c) (hb : w0.heap.size ≤ b) : Cur w0 w' c := by
 have hlt := h.lt;obtain ⟨a, len, cap, z, i, x, h1, h2, h3, h4, h5⟩ := h;exact ⟨a, len, cap, z, i, x, h1, h2, ⟨hg.os.trans h3.os, hg.tape.trans h3.tape, hg.output.trans h3.output, Nat.le_trans h3.size hg.size, fun k hk => (hg.block k (Nat.lt_of_lt_of_le hk h3.size) (fun e => by cases e; omega)).trans (h3.block k hk)⟩, h4, (hg.block c hlt (fun e => by cases e; exact hne rfl)).trans h5⟩
theorem grown_above {w W w' : World} {c b : Nat} (h1 : w.grownBy W (some c)) (h2 : W.grownBy w' (some b)) (hb : w.heap.size ≤ b) : w.grownBy w' (some c) :=
 ⟨h2.os.trans h1.os, h2.tape.trans h1.tape, h2.output.trans h1.output, Nat.le_trans h1.size h2.size, fun k hk hne => (h2.block k (Nat.lt_of_lt_of_le hk h1.size) (fun e => by cases e; omega)).trans (h1.block k hk hne)⟩
theorem grown_setCell (w : World) (b i : Nat) (v : Value) : w.grownBy (w.setCell ⟨b, i, none⟩ v) (some b) := grownBy_setCell w b i v
theorem Box.grown {w w' : World} {b c : Nat} {xs : List Value} (h : Box w b xs) (hg : w.grownBy w' (some c)) (hne : b ≠ c) : Box w' b xs :=
 ⟨Nat.lt_of_lt_of_le h.1 hg.size, h.2.elim fun T hT => ⟨T, (hg.block b h.1 (fun e => by cases e; exact hne rfl)).trans hT⟩⟩
def fieldsV (k : Int) (n d : ByteArray) (a b : Int) (t : ByteArray) : List Value := [.int .i64 k, .string n, .string d, .int .i64 a, .int .i64 b, .string t]
abbrev zeroV : List Value := fieldsV 0 ⟨#[]⟩ ⟨#[]⟩ 0 0 ⟨#[]⟩
def okI (x : Int) : Prop := -9223372036854775808 ≤ x ∧ x ≤ 9223372036854775807
def IsCal (v : Value) (_ : World) : Prop := ∃ (k : Int) (n d : ByteArray) (a b : Int) (t : ByteArray), v = .agg #[.int .i64 k, .string n, .string d, .int .i64 a, .int .i64 b, .string t] ∧ n.size ≤ 100 ∧ d.size ≤ 100 ∧ t.size ≤ 100 ∧ okI a ∧ okI b
structure St (w0 w : World) (c r bx : Nat) (xs : List Value) (W : World) : Prop where
 cur : Cur w0 W c
 gr : w.grownBy W (some c)
 rb : Box W r zeroV
 xb : Box W bx xs
 hr : w.heap.size ≤ r
 hx : w.heap.size ≤ bx
 ne : r ≠ bx
 hc : c < w.heap.size
 hw : w0.heap.size ≤ w.heap.size
theorem St.draw {w0 w W W2 : World} {c r bx : Nat} {xs : List Value} (h : St w0 w c r bx xs W) (hc2 : Cur w0 W2 c) (hg2 : W.grownBy W2 (some c)) : St w0 w c r bx xs W2 :=
 ⟨hc2, grownBy_trans h.gr hg2, h.rb.grown hg2 (by have := h.hr; have := h.hc; omega), h.xb.grown hg2 (by have := h.hx; have := h.hc; omega), h.hr, h.hx, h.ne, h.hc, h.hw⟩
theorem St.below {w0 w W W2 : World} {c r bx : Nat} {xs : List Value} (h : St w0 w c r bx xs W) (hb : Below W.heap.size W W2) : St w0 w c r bx xs W2 :=
 ⟨h.cur.below hb, grownBy_below2 h.gr hb, h.rb.below hb, h.xb.below hb, h.hr, h.hx, h.ne, h.hc, h.hw⟩
theorem St.set {w0 w W : World} {c r bx : Nat} {xs : List Value} (h : St w0 w c r bx xs W) (i : Nat) (v : Value) {ys : List Value} (hy : xs.set i v = ys) : St w0 w c r bx ys (W.setCell ⟨bx, i, none⟩ v) := by
 subst hy;have h1 := h.hx; have h2 := h.hc; have h3 := h.hw;exact ⟨h.cur.grown (grown_setCell W bx i v) (by omega) (by omega), grown_above h.gr (grown_setCell W bx i v) h.hx, box_far2 h.rb h.ne i v, box_put h.xb i v, h.hr, h.hx, h.ne, h.hc, h.hw⟩
theorem St.last {w0 w W : World} {c r bx : Nat} {xs : List Value} (h : St w0 w c r bx xs W) (vs : List Value) : Cur w0 (sets W r 0 vs) c ∧ w.grownBy (sets W r 0 vs) (some c) := by
 have h1 := h.hr; have h2 := h.hc; have h3 := h.hw;exact ⟨h.cur.grown (sets_grown vs W r 0) (by omega) (by omega), grown_above h.gr (sets_grown vs W r 0) h.hr⟩
theorem strIf_size (b : Bool) (s : ByteArray) : (strIf b s).size ≤ s.size := by
 cases b
 ·exact Nat.zero_le _
 ·exact Nat.le_refl _
theorem told_n (x : Cal) : (toldOf x).name.size ≤ x.name.size := strIf_size (useN x.kind) x.name
theorem told_d (x : Cal) : (toldOf x).dest.size ≤ x.dest.size := strIf_size (useT x.kind) x.dest
theorem intIf_ok (b : Bool) {x : Int} (h : okI x) : okI (intIf b x) := by
 cases b
 ·exact ⟨(by decide : (-9223372036854775808 : Int) ≤ 0), (by decide : (0 : Int) ≤ 9223372036854775807)⟩
 ·exact h
theorem told_a (x : Cal) (h : okI x.a) : okI (toldOf x).a := intIf_ok (useA x.kind) h
theorem told_b (x : Cal) (h : okI x.b) : okI (toldOf x).b := intIf_ok (useB x.kind) h
theorem told_t (x : Cal) : (toldOf x).text.size ≤ x.text.size := strIf_size (useX x.kind) x.text
def IsOneInt (xs : List Int) (v : Value) (_ : World) : Prop := ∃ n, v = .int .i64 n ∧ n ∈ xs
theorem pickInt_c (w0 w : World) (c : Nat) (a : Option Addr) (cap : Nat) (xs : List Int) (hc : Cur w0 w c) (hlen : 0 < xs.length) (hl2 : xs.length ≤ maxLen) (hr : Reads w a 1 encI xs) (hne : ∀ b off, a = some ⟨b, off, none⟩ → b ≠ c) :
 Calls Tryz.prog 125 #[.pointer (some ⟨c, 0, none⟩), .slice a xs.length cap] w (Drawn w0 c (IsOneInt xs) w) := by
 unfold maxLen at hl2;have K := Lib.hid (below_c w0 w c (xs.length : Int) hc (by omega));have HR := Lib.hid hr;have HN := Lib.hid hne;clear hc hr hne;go_enter Tryz.func125, Tryz.ntmps125;go_wp2_with fail;refine K.out.mono ?_;rintro e w1 ⟨v, rfl, ⟨x, rfl, x0, x1, _⟩, hc1, hg1⟩;have hx1 := x1 (by omega);obtain ⟨k, rfl⟩ : ∃ k : Nat, x = (k : Int) := ⟨x.toNat, by omega⟩;obtain ⟨y, hy⟩ := some_of_lt (xs := xs) (k := k) (by omega);obtain ⟨b, off, hab, c0⟩ := readFI HR.out (Below.refl _ _) hy;have hbn := HN.out b off hab;have c1 : w1.cell? ⟨b, off + k, none⟩ = some (.int .i64 y) := (World.cell?_of_block (hg1.block b (World.block_lt_of_cell? w _ c0) (fun e => hbn (by cases e; rfl)))).trans c0;subst hab;have HEND := Lib.hid (show Drawn w0 c (IsOneInt xs) w (.returned (.int .i64 y)) w1 from ⟨_, rfl, ⟨y, rfl, List.mem_of_getElem? hy⟩, hc1, hg1⟩);clear hc1 hg1 hy c0 x1;go_wp2;go_ret;exact HEND.out
theorem readsI_new (w : World) (xs : List Int) (T : TypeId) : Reads (w.alloc (.cells (xs.flatMap encI).toArray T)) (some ⟨w.heap.size, 0, none⟩) 1 encI xs :=
 .inr ⟨w.heap.size, 0, rfl, by simp, fun i x hx j v hv => by
  have hj : j = 0 := by
   have := (List.getElem?_eq_some_iff.1 hv).1;simp [encI] at this; omega
  subst hj;have h := getElem_flatMap encI_len xs i 0 x hx (by decide);rw [Nat.zero_add];exact (Box.new w (xs.flatMap encI) T).cell _ v (h.trans hv)⟩
theorem pickIntN_c (w0 w : World) (c : Nat) (xs : List Int) (T : TypeId) (n N : Nat) (hn : n = xs.length) (hN : N = w.heap.size) (hc : Cur w0 w c) (hlen : 0 < xs.length) (hl2 : xs.length ≤ maxLen) :
 Calls Tryz.prog 125 #[.pointer (some ⟨c, 0, none⟩), .slice (some ⟨N, 0, none⟩) n n] (w.alloc (.cells (xs.flatMap encI).toArray T)) (Drawn w0 c (IsOneInt xs) w) := by
 subst hn hN;refine (pickInt_c w0 _ c _ _ xs (hc.below ((Below.refl _ _).alloc (Nat.le_refl _) _)) hlen hl2 (readsI_new w xs T) (fun b off e => ?_)).mono fun e w' h => Drawn.from (grownBy_of_below ((Below.refl _ _).alloc (Nat.le_refl _) _) _) h;cases e;have := hc.lt;omega
theorem pickN_c (w0 w : World) (c : Nat) (xs : List ByteArray) (T : TypeId) (n N : Nat) (hn : n = xs.length) (hN : N = w.heap.size) (hc : Cur w0 w c) (hlen : 0 < xs.length) (hl2 : xs.length ≤ maxLen) :
 Calls Tryz.prog 65 #[.pointer (some ⟨c, 0, none⟩), .slice (some ⟨N, 0, none⟩) n n] (w.alloc (.cells (xs.flatMap encS).toArray T)) (Drawn w0 c (IsOneOf xs) w) := by
 subst hN;exact pickNew_c w0 w c xs T n hn hc hlen hl2
def kindList : List Int := [1, 1, 2, 3, 4, 5, 6, 6, 7, 7, 8, 9, 10, 10, 11, 11, 12, 13, 14, 15, 16, 17, 18, 19, 20, 21, 22, 22]
def nameList : List ByteArray := [⟨#[120]⟩, ⟨#[121]⟩, ⟨#[108, 111, 103]⟩]
def destList : List ByteArray := [⟨#[120]⟩, ⟨#[121]⟩, ⟨#[122]⟩]
theorem oddName_size : ∀ s ∈ [(⟨#[]⟩ : ByteArray), ⟨#[65]⟩, longK 21 97], s.size ≤ 100 := by decide
theorem nameList_size : ∀ s ∈ nameList, s.size ≤ 100 := by decide
theorem destList_size : ∀ s ∈ destList, s.size ≤ 100 := by decide
set_option maxRecDepth 100000 in
set_option maxHeartbeats 4000000 in
theorem call_c (w0 w : World) (c : Nat) (hc : Cur w0 w c) : Calls Tryz.prog 124 #[.pointer (some ⟨c, 0, none⟩)] w (Drawn w0 c IsCal w) := by
 have hcl := hc.lt;have hw := hc.base.size;have K1 := Lib.hid (pickIntN_c w0 (w.alloc (.cells zeroV.toArray 36)) c kindList 3 28 (w.heap.size + 1) rfl (by simp) (hc.below (by repeat (first | exact Below.refl _ _ | refine Below.drew ?_ | refine below_drewN ?_ _ | refine Below.allocC ?_ _ | refine Below.setCell ?_ (by first | (simp; done) | (simp; omega)) _ | refine Below.chain ?_ (by assumption)))) (by decide) (by decide));have HR0 := Lib.hid (Box.new w zeroV 36);have KN := Lib.hid (fun W N (hN : N = W.heap.size) (h : Cur w0 W c) => pickN_c w0 W c nameList 9 3 N rfl hN h (by decide) (by decide));have KT := Lib.hid (fun W N (hN : N = W.heap.size) (h : Cur w0 W c) => pickN_c w0 W c destList 9 3 N rfl hN h (by decide) (by decide));have K4 := Lib.hid (fun W (h : Cur w0 W c) => below_c w0 W c 4 h (by decide));have K12 := Lib.hid (fun W (h : Cur w0 W c) => below_c w0 W c 12 h (by decide));have KX := Lib.hid (fun W n (h : Cur w0 W c) (hn : n ≤ 5000) => text_c w0 W c n h hn);clear hc;go_enter Tryz.func124, Tryz.ntmps124;go_wp2_with fail;refine K1.out.mono ?_;rintro e w2 ⟨v, rfl, ⟨k, rfl, _⟩, hc2, hg2⟩;have hs2 : w.heap.size + 1 ≤ w2.heap.size := by have := hg2.size; simpa using this
 have S2 := Lib.hid (show St w0 w c w.heap.size w2.heap.size (fieldsV k ⟨#[]⟩ ⟨#[]⟩ 0 0 ⟨#[]⟩) (w2.alloc (.cells (fieldsV k ⟨#[]⟩ ⟨#[]⟩ 0 0 ⟨#[]⟩).toArray 36)) from
  ⟨hc2.below (by repeat (first | exact Below.refl _ _ | refine Below.drew ?_ | refine below_drewN ?_ _ | refine Below.allocC ?_ _ | refine Below.setCell ?_ (by first | (simp; done) | (simp; omega)) _ | refine Below.chain ?_ (by assumption))), grownBy_below2 (grownBy_trans (grownBy_of_below (show Below w.heap.size w (w.alloc (.cells zeroV.toArray 36)) from (by repeat (first | exact Below.refl _ _ | refine Below.drew ?_ | refine below_drewN ?_ _ | refine Below.allocC ?_ _ | refine Below.setCell ?_ (by first | (simp; done) | (simp; omega)) _ | refine Below.chain ?_ (by assumption)))) _) hg2) (by repeat (first | exact Below.refl _ _ | refine Below.drew ?_ | refine below_drewN ?_ _ | refine Below.allocC ?_ _ | refine Below.setCell ?_ (by first | (simp; done) | (simp; omega)) _ | refine Below.chain ?_ (by assumption))), (HR0.out.grown hg2 (by omega)).alloc _, Box.new _ _ _, Nat.le_refl _, by omega, by omega, hcl, hw⟩)
 have hb2 := Lib.hid (show w2.heap.size + 1 = (w2.alloc (.cells (fieldsV k ⟨#[]⟩ ⟨#[]⟩ 0 0 ⟨#[]⟩).toArray 36)).heap.size by simp);clear hc2 hg2 K1 HR0;go_wp2_with fail;refine (KN.out _ _ hb2.out S2.out.cur).mono ?_;rintro e w3 ⟨v, rfl, ⟨s1, rfl, hs1⟩, hc3, hg3⟩;have S3 := Lib.hid (S2.out.draw hc3 hg3);have T1 := Lib.hid (nameList_size s1 hs1);clear hc3 hg3 S2 hb2 hs1;have f1 := S3.out.xb.cell 1 _ rfl;have z1 := S3.out.xb.free 1;have S4 := Lib.hid (S3.out.set 1 (.string s1) (ys := fieldsV k s1 ⟨#[]⟩ 0 0 ⟨#[]⟩) rfl);have hb4 := Lib.hid (show w3.heap.size = (w3.setCell ⟨w2.heap.size, 1, none⟩ (.string s1)).heap.size by simp);clear S3;go_wp2_with fail;refine (KT.out _ _ hb4.out S4.out.cur).mono ?_;rintro e w5 ⟨v, rfl, ⟨s2, rfl, hs2'⟩, hc5, hg5⟩;have S5 := Lib.hid (S4.out.draw hc5 hg5);have T2 := Lib.hid (destList_size s2 hs2');clear hc5 hg5 S4 hb4 hs2' f1 z1;have f2 := S5.out.xb.cell 2 _ rfl;have z2 := S5.out.xb.free 2;have S6 := Lib.hid (S5.out.set 2 (.string s2) (ys := fieldsV k s1 s2 0 0 ⟨#[]⟩) rfl);clear S5;go_wp2_with fail;refine (K4.out _ S6.out.cur).mono ?_;rintro e w7 ⟨v, rfl, ⟨x3, rfl, x30, x31, _⟩, hc7, hg7⟩;have A3 := Lib.hid (show okI x3 from by have := x31 (by decide); unfold okI; omega);clear x30 x31;have S7 := Lib.hid (S6.out.draw hc7 hg7);clear hc7 hg7 S6 f2 z2;have f3 := S7.out.xb.cell 3 _ rfl;have z3 := S7.out.xb.free 3;have S8 := Lib.hid (S7.out.set 3 (.int .i64 x3) (ys := fieldsV k s1 s2 x3 0 ⟨#[]⟩) rfl);clear S7;go_wp2_with fail;refine (K12.out _ S8.out.cur).mono ?_;rintro e w9 ⟨v, rfl, ⟨x4, rfl, x40, x41, _⟩, hc9, hg9⟩;have x42 := x41 (by decide);have S9 := Lib.hid (S8.out.draw hc9 hg9);clear hc9 hg9 S8 f3 z3 x41;have hwx : IntKind.i64.wrap (1 + x4) = 1 + x4 := by rw [IntKind.wrap_i64]; omega
 have A4 := Lib.hid (show okI (1 + x4) from by unfold okI; omega);have f4 := S9.out.xb.cell 4 _ rfl;have z4 := S9.out.xb.free 4;have S10 := Lib.hid (S9.out.set 4 (.int .i64 (1 + x4)) (ys := fieldsV k s1 s2 x3 (1 + x4) ⟨#[]⟩) rfl);clear S9;go_wp2_with fail;refine (K12.out _ S10.out.cur).mono ?_;rintro e w11 ⟨v, rfl, ⟨x5, rfl, x50, x51, _⟩, hc11, hg11⟩;have x52 := x51 (by decide);have S11 := Lib.hid (S10.out.draw hc11 hg11);clear hc11 hg11 S10 f4 z4 hwx x51;go_wp2_with fail;refine (KX.out _ x5 S11.out.cur (by omega)).mono ?_;rintro e w12 ⟨v, rfl, ⟨t, rfl, ht⟩, hc12, hg12⟩;have S12 := Lib.hid (S11.out.draw hc12 hg12);have T3 := Lib.hid (show t.size ≤ 100 by omega);clear hc12 hg12 S11 ht;have f5 := S12.out.xb.cell 5 _ rfl;have z5 := S12.out.xb.free 5;have S13 := Lib.hid (S12.out.set 5 (.string t) (ys := fieldsV k s1 s2 x3 (1 + x4) t) rfl);have f0 : w12.cell? ⟨w2.heap.size, 0, none⟩ = some (.int .i64 k) := S12.out.xb.cell 0 _ rfl;by_cases h6 : k = 6
 ·subst h6;go_wp2_with fail;refine (K12.out _ S13.out.cur).mono ?_;rintro e w14 ⟨v, rfl, ⟨x6, rfl, x60, x61, _⟩, hc14, hg14⟩;replace A3 := Lib.hid (show okI x6 from by have := x61 (by decide); unfold okI; omega);clear x60 x61;have S14 := Lib.hid (S13.out.draw hc14 hg14);clear hc14 hg14 S13 S12 f0 f5 z5;have f0 := S14.out.xb.cell 0 _ rfl;have f1 := S14.out.xb.cell 1 _ rfl;have f2 := S14.out.xb.cell 2 _ rfl;have f3 := S14.out.xb.cell 3 _ rfl;have f4 := S14.out.xb.cell 4 _ rfl;have f5 := S14.out.xb.cell 5 _ rfl;have z3 := S14.out.xb.free 3;have S15 := Lib.hid (S14.out.set 3 (.int .i64 x6) (ys := fieldsV 6 s1 s2 x6 (1 + x4) t) rfl);clear S14;obtain ⟨y, hy⟩ : ∃ y, toldOf ⟨6, s1, s2, x6, 1 + x4, t⟩ = y := ⟨_, rfl⟩;have KT2 := Lib.hid (fun W => specTold_c ⟨6, s1, s2, x6, 1 + x4, t⟩ W);have HN := Lib.hid (show y.name.size ≤ 100 from by rw [← hy]; exact Nat.le_trans (told_n _) T1.out);have HD := Lib.hid (show y.dest.size ≤ 100 from by rw [← hy]; exact Nat.le_trans (told_d _) T2.out);have HX := Lib.hid (show y.text.size ≤ 100 from by rw [← hy]; exact Nat.le_trans (told_t _) T3.out);have HA := Lib.hid (show okI y.a from by rw [← hy]; exact told_a _ A3.out);have HB := Lib.hid (show okI y.b from by rw [← hy]; exact told_b _ A4.out);rw [hy] at KT2;clear hy;obtain ⟨yk, yn, yd, ya, yb, yt⟩ := y;dsimp only at KT2 HN HD HX HA HB;go_wp2_with fail;refine (KT2.out _).mono ?_;rintro e w16 ⟨rfl, hb16⟩;have S16 := Lib.hid (S15.out.below hb16);have HEND := Lib.hid (show Drawn w0 c IsCal w (.returned (.agg #[.int .i64 yk, .string yn, .string yd, .int .i64 ya, .int .i64 yb, .string yt])) (sets w16 w.heap.size 0 (fieldsV yk yn yd ya yb yt)) from ⟨_, rfl, ⟨yk, yn, yd, ya, yb, yt, rfl, HN.out, HD.out, HX.out, HA.out, HB.out⟩, (S16.out.last _).1, (S16.out.last _).2⟩);clear hb16 f0 f1 f2 f3 f4 f5 z3;have r0 : w16.cell? ⟨w.heap.size, 0, none⟩ = some (.int .i64 0) := S16.out.rb.cell 0 _ rfl;have y0 := S16.out.rb.free 0;have r1 : w16.cell? ⟨w.heap.size, 1, none⟩ = some (.string ⟨#[]⟩) := S16.out.rb.cell 1 _ rfl;have y1 := S16.out.rb.free 1;have r2 : w16.cell? ⟨w.heap.size, 2, none⟩ = some (.string ⟨#[]⟩) := S16.out.rb.cell 2 _ rfl;have y2 := S16.out.rb.free 2;have r3 : w16.cell? ⟨w.heap.size, 3, none⟩ = some (.int .i64 0) := S16.out.rb.cell 3 _ rfl;have y3 := S16.out.rb.free 3;have r4 : w16.cell? ⟨w.heap.size, 4, none⟩ = some (.int .i64 0) := S16.out.rb.cell 4 _ rfl;have y4 := S16.out.rb.free 4;have r5 : w16.cell? ⟨w.heap.size, 5, none⟩ = some (.string ⟨#[]⟩) := S16.out.rb.cell 5 _ rfl;have y5 := S16.out.rb.free 5;go_wp2;exact bodyPost_ret (v := .agg #[.int .i64 yk, .string yn, .string yd, .int .i64 ya, .int .i64 yb, .string yt]) (by simp [results, Tryz.results124, go_sem, *]) rfl HEND.out
 ·have hk6 : (k == 6) = false := by rw [beq_eq_false_iff_ne]; exact h6
  have f1 := S12.out.xb.cell 1 _ rfl;have f2 := S12.out.xb.cell 2 _ rfl;have f3 := S12.out.xb.cell 3 _ rfl;have f4 := S12.out.xb.cell 4 _ rfl;clear S12;obtain ⟨y, hy⟩ : ∃ y, toldOf ⟨k, s1, s2, x3, 1 + x4, t⟩ = y := ⟨_, rfl⟩;have KT2 := Lib.hid (fun W => specTold_c ⟨k, s1, s2, x3, 1 + x4, t⟩ W);have HN := Lib.hid (show y.name.size ≤ 100 from by rw [← hy]; exact Nat.le_trans (told_n _) T1.out);have HD := Lib.hid (show y.dest.size ≤ 100 from by rw [← hy]; exact Nat.le_trans (told_d _) T2.out);have HX := Lib.hid (show y.text.size ≤ 100 from by rw [← hy]; exact Nat.le_trans (told_t _) T3.out);have HA := Lib.hid (show okI y.a from by rw [← hy]; exact told_a _ A3.out);have HB := Lib.hid (show okI y.b from by rw [← hy]; exact told_b _ A4.out);rw [hy] at KT2;clear hy;obtain ⟨yk, yn, yd, ya, yb, yt⟩ := y;dsimp only at KT2 HN HD HX HA HB;go_wp2_with fail;refine (KT2.out _).mono ?_;rintro e w16 ⟨rfl, hb16⟩;have S16 := Lib.hid (S13.out.below hb16);have HEND := Lib.hid (show Drawn w0 c IsCal w (.returned (.agg #[.int .i64 yk, .string yn, .string yd, .int .i64 ya, .int .i64 yb, .string yt])) (sets w16 w.heap.size 0 (fieldsV yk yn yd ya yb yt)) from ⟨_, rfl, ⟨yk, yn, yd, ya, yb, yt, rfl, HN.out, HD.out, HX.out, HA.out, HB.out⟩, (S16.out.last _).1, (S16.out.last _).2⟩);clear hb16 f0 f1 f2 f3 f4 f5 z5;have r0 : w16.cell? ⟨w.heap.size, 0, none⟩ = some (.int .i64 0) := S16.out.rb.cell 0 _ rfl;have y0 := S16.out.rb.free 0;have r1 : w16.cell? ⟨w.heap.size, 1, none⟩ = some (.string ⟨#[]⟩) := S16.out.rb.cell 1 _ rfl;have y1 := S16.out.rb.free 1;have r2 : w16.cell? ⟨w.heap.size, 2, none⟩ = some (.string ⟨#[]⟩) := S16.out.rb.cell 2 _ rfl;have y2 := S16.out.rb.free 2;have r3 : w16.cell? ⟨w.heap.size, 3, none⟩ = some (.int .i64 0) := S16.out.rb.cell 3 _ rfl;have y3 := S16.out.rb.free 3;have r4 : w16.cell? ⟨w.heap.size, 4, none⟩ = some (.int .i64 0) := S16.out.rb.cell 4 _ rfl;have y4 := S16.out.rb.free 4;have r5 : w16.cell? ⟨w.heap.size, 5, none⟩ = some (.string ⟨#[]⟩) := S16.out.rb.cell 5 _ rfl;have y5 := S16.out.rb.free 5;go_wp2;exact bodyPost_ret (v := .agg #[.int .i64 yk, .string yn, .string yd, .int .i64 ya, .int .i64 yb, .string yt]) (by simp [results, Tryz.results124, go_sem, *]) rfl HEND.out
set_option maxRecDepth 100000 in
set_option maxHeartbeats 4000000 in
theorem anyCall_c (w0 w : World) (c : Nat) (hc : Cur w0 w c) : Calls Tryz.prog 67 #[.pointer (some ⟨c, 0, none⟩)] w (Drawn w0 c IsCal w) := by
 have hcl := hc.lt;have hw := hc.base.size;have K1 := Lib.hid (call_c w0 (w.alloc (.cells zeroV.toArray 36)) c (hc.below (by repeat (first | exact Below.refl _ _ | refine Below.drew ?_ | refine below_drewN ?_ _ | refine Below.allocC ?_ _ | refine Below.setCell ?_ (by first | (simp; done) | (simp; omega)) _ | refine Below.chain ?_ (by assumption)))));have HR0 := Lib.hid (Box.new w zeroV 36);have K12 := Lib.hid (fun W (h : Cur w0 W c) => below_c w0 W c 12 h (by decide));have K46 := Lib.hid (fun W (h : Cur w0 W c) => below_c w0 W c 46 h (by decide));have KP0 := Lib.hid (fun W N (hN : N = W.heap.size) (h : Cur w0 W c) => pickIntN_c w0 W c [0, 23, -1, 5] 3 4 N rfl hN h (by decide) (by decide));have KP2 := Lib.hid (fun W N (hN : N = W.heap.size) (h : Cur w0 W c) => pickIntN_c w0 W c [-1, 99, 9223372036854775807, -9223372036854775808] 3 4 N rfl hN h (by decide) (by decide));have KP4 := Lib.hid (fun W N (hN : N = W.heap.size) (h : Cur w0 W c) => pickIntN_c w0 W c [0, -1, 9223372036854775807] 3 3 N rfl hN h (by decide) (by decide));have KP1 := Lib.hid (fun W N (hN : N = W.heap.size) (h : Cur w0 W c) => pickN_c w0 W c [⟨#[]⟩, ⟨#[65]⟩, longK 21 97] 9 3 N rfl hN h (by decide) (by decide));have KL1 := Lib.hid (fun W => (show Calls Tryz.prog 126 #[.int .i64 21, .int .u8 97] W fun e w' => e = .returned (.string (longK 21 97)) ∧ Below W.heap.size W w' from long_c 21 97 W (by decide)));clear hc;go_enter Tryz.func67, Tryz.ntmps67;go_wp2_with fail;refine K1.out.mono ?_;rintro e w1 ⟨v, rfl, ⟨k, n, d, a, b, t, rfl, hn, hd, ht, ha4, hb4⟩, hc1, hg1⟩;have T4 := Lib.hid ha4;have T5 := Lib.hid hb4;clear ha4 hb4;have T1 := Lib.hid hn;have T2 := Lib.hid hd;have T3 := Lib.hid ht;have hs1 : w.heap.size + 1 ≤ w1.heap.size := by have := hg1.size; simpa using this
 have S1 := Lib.hid (show St w0 w c w.heap.size w1.heap.size (fieldsV k n d a b t) (w1.alloc (.cells (fieldsV k n d a b t).toArray 36)) from
  ⟨hc1.below (by repeat (first | exact Below.refl _ _ | refine Below.drew ?_ | refine below_drewN ?_ _ | refine Below.allocC ?_ _ | refine Below.setCell ?_ (by first | (simp; done) | (simp; omega)) _ | refine Below.chain ?_ (by assumption))), grownBy_below2 (grownBy_trans (grownBy_of_below (show Below w.heap.size w (w.alloc (.cells zeroV.toArray 36)) from (by repeat (first | exact Below.refl _ _ | refine Below.drew ?_ | refine below_drewN ?_ _ | refine Below.allocC ?_ _ | refine Below.setCell ?_ (by first | (simp; done) | (simp; omega)) _ | refine Below.chain ?_ (by assumption)))) _) hg1) (by repeat (first | exact Below.refl _ _ | refine Below.drew ?_ | refine below_drewN ?_ _ | refine Below.allocC ?_ _ | refine Below.setCell ?_ (by first | (simp; done) | (simp; omega)) _ | refine Below.chain ?_ (by assumption))), (HR0.out.grown hg1 (by omega)).alloc _, Box.new _ _ _, Nat.le_refl _, by omega, by omega, hcl, hw⟩)
 clear hc1 hg1 K1 HR0 hn hd ht;go_wp2_with fail;refine (K12.out _ S1.out.cur).mono ?_;rintro e w2 ⟨v, rfl, ⟨m, rfl, m0, _, _⟩, hc2, hg2⟩;have S2 := Lib.hid (S1.out.draw hc2 hg2);clear hc2 hg2 S1;rcases (show m = 0 ∨ m = 1 ∨ m = 2 ∨ m = 3 ∨ m = 4 ∨ 4 < m by omega) with rfl | rfl | rfl | rfl | rfl | hm
 ·go_wp2_with fail;refine (KP0.out _ _ rfl S2.out.cur).mono ?_;rintro e w3 ⟨v, rfl, ⟨q, rfl, hq⟩, hc3, hg3⟩;have S3 := Lib.hid (S2.out.draw hc3 hg3);clear hc3 hg3 S2 hq;have f0 := S3.out.xb.cell 0 _ rfl;have f1 := S3.out.xb.cell 1 _ rfl;have f2 := S3.out.xb.cell 2 _ rfl;have f3 := S3.out.xb.cell 3 _ rfl;have f4 := S3.out.xb.cell 4 _ rfl;have f5 := S3.out.xb.cell 5 _ rfl;have z0 := S3.out.xb.free 0;have S4 := Lib.hid (S3.out.set 0 (.int .i64 q) (ys := fieldsV q n d a b t) rfl);have r0 : w3.cell? ⟨w.heap.size, 0, none⟩ = some (.int .i64 0) := S3.out.rb.cell 0 _ rfl;have y0 := S3.out.rb.free 0;have r1 : w3.cell? ⟨w.heap.size, 1, none⟩ = some (.string ⟨#[]⟩) := S3.out.rb.cell 1 _ rfl;have y1 := S3.out.rb.free 1;have r2 : w3.cell? ⟨w.heap.size, 2, none⟩ = some (.string ⟨#[]⟩) := S3.out.rb.cell 2 _ rfl;have y2 := S3.out.rb.free 2;have r3 : w3.cell? ⟨w.heap.size, 3, none⟩ = some (.int .i64 0) := S3.out.rb.cell 3 _ rfl;have y3 := S3.out.rb.free 3;have r4 : w3.cell? ⟨w.heap.size, 4, none⟩ = some (.int .i64 0) := S3.out.rb.cell 4 _ rfl;have y4 := S3.out.rb.free 4;have r5 : w3.cell? ⟨w.heap.size, 5, none⟩ = some (.string ⟨#[]⟩) := S3.out.rb.cell 5 _ rfl;have y5 := S3.out.rb.free 5;have HEND := Lib.hid (fun W (h : St w0 w c w.heap.size w1.heap.size (fieldsV (q) (n) (d) (a) (b) (t)) W) => (show Drawn w0 c IsCal w (.returned (.agg #[.int .i64 q, .string n, .string d, .int .i64 a, .int .i64 b, .string t])) (sets W w.heap.size 0 (fieldsV (q) (n) (d) (a) (b) (t))) from ⟨_, rfl, ⟨q, n, d, a, b, t, rfl, T1.out, T2.out, T3.out, T4.out, T5.out⟩, (h.last _).1, (h.last _).2⟩));go_wp2;exact bodyPost_ret (v := .agg #[.int .i64 q, .string n, .string d, .int .i64 a, .int .i64 b, .string t]) (by simp [results, Tryz.results67, go_sem, *]) rfl (HEND.out _ S4.out)
 ·go_wp2_with fail;refine (KL1.out _).mono ?_;rintro e w9 ⟨rfl, hb9⟩;replace S2 := Lib.hid (S2.out.below hb9);clear hb9;go_wp2_with fail;refine (KP1.out _ _ rfl S2.out.cur).mono ?_;rintro e w3 ⟨v, rfl, ⟨q, rfl, hq⟩, hc3, hg3⟩;have S3 := Lib.hid (S2.out.draw hc3 hg3);have TQ := Lib.hid (show q.size ≤ 100 from oddName_size q hq);clear hc3 hg3 S2 hq;have f0 := S3.out.xb.cell 0 _ rfl;have f1 := S3.out.xb.cell 1 _ rfl;have f2 := S3.out.xb.cell 2 _ rfl;have f3 := S3.out.xb.cell 3 _ rfl;have f4 := S3.out.xb.cell 4 _ rfl;have f5 := S3.out.xb.cell 5 _ rfl;have z1 := S3.out.xb.free 1;have S4 := Lib.hid (S3.out.set 1 (.string q) (ys := fieldsV k q d a b t) rfl);have r0 : w3.cell? ⟨w.heap.size, 0, none⟩ = some (.int .i64 0) := S3.out.rb.cell 0 _ rfl;have y0 := S3.out.rb.free 0;have r1 : w3.cell? ⟨w.heap.size, 1, none⟩ = some (.string ⟨#[]⟩) := S3.out.rb.cell 1 _ rfl;have y1 := S3.out.rb.free 1;have r2 : w3.cell? ⟨w.heap.size, 2, none⟩ = some (.string ⟨#[]⟩) := S3.out.rb.cell 2 _ rfl;have y2 := S3.out.rb.free 2;have r3 : w3.cell? ⟨w.heap.size, 3, none⟩ = some (.int .i64 0) := S3.out.rb.cell 3 _ rfl;have y3 := S3.out.rb.free 3;have r4 : w3.cell? ⟨w.heap.size, 4, none⟩ = some (.int .i64 0) := S3.out.rb.cell 4 _ rfl;have y4 := S3.out.rb.free 4;have r5 : w3.cell? ⟨w.heap.size, 5, none⟩ = some (.string ⟨#[]⟩) := S3.out.rb.cell 5 _ rfl;have y5 := S3.out.rb.free 5;have HEND := Lib.hid (fun W (h : St w0 w c w.heap.size w1.heap.size (fieldsV (k) (q) (d) (a) (b) (t)) W) => (show Drawn w0 c IsCal w (.returned (.agg #[.int .i64 k, .string q, .string d, .int .i64 a, .int .i64 b, .string t])) (sets W w.heap.size 0 (fieldsV (k) (q) (d) (a) (b) (t))) from ⟨_, rfl, ⟨k, q, d, a, b, t, rfl, TQ.out, T2.out, T3.out, T4.out, T5.out⟩, (h.last _).1, (h.last _).2⟩));go_wp2;exact bodyPost_ret (v := .agg #[.int .i64 k, .string q, .string d, .int .i64 a, .int .i64 b, .string t]) (by simp [results, Tryz.results67, go_sem, *]) rfl (HEND.out _ S4.out)
 ·go_wp2_with fail;refine (KP2.out _ _ rfl S2.out.cur).mono ?_;rintro e w3 ⟨v, rfl, ⟨q, rfl, hq⟩, hc3, hg3⟩;have S3 := Lib.hid (S2.out.draw hc3 hg3);have TQ := Lib.hid (show okI q from by simp at hq; unfold okI; omega);clear hc3 hg3 S2 hq;have f0 := S3.out.xb.cell 0 _ rfl;have f1 := S3.out.xb.cell 1 _ rfl;have f2 := S3.out.xb.cell 2 _ rfl;have f3 := S3.out.xb.cell 3 _ rfl;have f4 := S3.out.xb.cell 4 _ rfl;have f5 := S3.out.xb.cell 5 _ rfl;have z3 := S3.out.xb.free 3;have S4 := Lib.hid (S3.out.set 3 (.int .i64 q) (ys := fieldsV k n d q b t) rfl);have r0 : w3.cell? ⟨w.heap.size, 0, none⟩ = some (.int .i64 0) := S3.out.rb.cell 0 _ rfl;have y0 := S3.out.rb.free 0;have r1 : w3.cell? ⟨w.heap.size, 1, none⟩ = some (.string ⟨#[]⟩) := S3.out.rb.cell 1 _ rfl;have y1 := S3.out.rb.free 1;have r2 : w3.cell? ⟨w.heap.size, 2, none⟩ = some (.string ⟨#[]⟩) := S3.out.rb.cell 2 _ rfl;have y2 := S3.out.rb.free 2;have r3 : w3.cell? ⟨w.heap.size, 3, none⟩ = some (.int .i64 0) := S3.out.rb.cell 3 _ rfl;have y3 := S3.out.rb.free 3;have r4 : w3.cell? ⟨w.heap.size, 4, none⟩ = some (.int .i64 0) := S3.out.rb.cell 4 _ rfl;have y4 := S3.out.rb.free 4;have r5 : w3.cell? ⟨w.heap.size, 5, none⟩ = some (.string ⟨#[]⟩) := S3.out.rb.cell 5 _ rfl;have y5 := S3.out.rb.free 5;have HEND := Lib.hid (fun W (h : St w0 w c w.heap.size w1.heap.size (fieldsV (k) (n) (d) (q) (b) (t)) W) => (show Drawn w0 c IsCal w (.returned (.agg #[.int .i64 k, .string n, .string d, .int .i64 q, .int .i64 b, .string t])) (sets W w.heap.size 0 (fieldsV (k) (n) (d) (q) (b) (t))) from ⟨_, rfl, ⟨k, n, d, q, b, t, rfl, T1.out, T2.out, T3.out, TQ.out, T5.out⟩, (h.last _).1, (h.last _).2⟩));go_wp2;exact bodyPost_ret (v := .agg #[.int .i64 k, .string n, .string d, .int .i64 q, .int .i64 b, .string t]) (by simp [results, Tryz.results67, go_sem, *]) rfl (HEND.out _ S4.out)
 ·go_wp2_with fail;refine (K46.out _ S2.out.cur).mono ?_;rintro e w3 ⟨v, rfl, ⟨q, rfl, q0, q1, _⟩, hc3, hg3⟩;have q2 := q1 (by decide);have S3 := Lib.hid (S2.out.draw hc3 hg3);clear hc3 hg3 S2 q1;have hwq : IntKind.i64.wrap (20 + q) = 20 + q := by rw [IntKind.wrap_i64]; omega
  obtain ⟨j, rfl⟩ : ∃ j : Nat, q = (j : Int) := ⟨q.toNat, by omega⟩;have KL3 := Lib.hid (fun W => (show Calls Tryz.prog 126 #[.int .i64 (20 + (j : Int)), .int .u8 5] W fun e w' => e = .returned (.string (longK (20 + j) 5)) ∧ Below W.heap.size W w' from by
   have := long_c (20 + j) 5 W (by omega)
   rwa [show ((20 + j : Nat) : Int) = 20 + (j : Int) by omega] at this))
  have TQ := Lib.hid (show (longK (20 + j) 5).size ≤ 100 by rw [longK_size]; omega);go_wp2_with fail;refine (KL3.out _).mono ?_;rintro e w4 ⟨rfl, hb4⟩;have S4 := Lib.hid (S3.out.below hb4);clear hb4 S3 KL3;generalize longK (20 + j) 5 = q at *;have f0 := S4.out.xb.cell 0 _ rfl;have f1 := S4.out.xb.cell 1 _ rfl;have f2 := S4.out.xb.cell 2 _ rfl;have f3 := S4.out.xb.cell 3 _ rfl;have f4 := S4.out.xb.cell 4 _ rfl;have f5 := S4.out.xb.cell 5 _ rfl;have z5 := S4.out.xb.free 5;have S5 := Lib.hid (S4.out.set 5 (.string q) (ys := fieldsV k n d a b q) rfl);have r0 : w4.cell? ⟨w.heap.size, 0, none⟩ = some (.int .i64 0) := S4.out.rb.cell 0 _ rfl;have y0 := S4.out.rb.free 0;have r1 : w4.cell? ⟨w.heap.size, 1, none⟩ = some (.string ⟨#[]⟩) := S4.out.rb.cell 1 _ rfl;have y1 := S4.out.rb.free 1;have r2 : w4.cell? ⟨w.heap.size, 2, none⟩ = some (.string ⟨#[]⟩) := S4.out.rb.cell 2 _ rfl;have y2 := S4.out.rb.free 2;have r3 : w4.cell? ⟨w.heap.size, 3, none⟩ = some (.int .i64 0) := S4.out.rb.cell 3 _ rfl;have y3 := S4.out.rb.free 3;have r4 : w4.cell? ⟨w.heap.size, 4, none⟩ = some (.int .i64 0) := S4.out.rb.cell 4 _ rfl;have y4 := S4.out.rb.free 4;have r5 : w4.cell? ⟨w.heap.size, 5, none⟩ = some (.string ⟨#[]⟩) := S4.out.rb.cell 5 _ rfl;have y5 := S4.out.rb.free 5;have HEND := Lib.hid (fun W (h : St w0 w c w.heap.size w1.heap.size (fieldsV (k) (n) (d) (a) (b) (q)) W) => (show Drawn w0 c IsCal w (.returned (.agg #[.int .i64 k, .string n, .string d, .int .i64 a, .int .i64 b, .string q])) (sets W w.heap.size 0 (fieldsV (k) (n) (d) (a) (b) (q))) from ⟨_, rfl, ⟨k, n, d, a, b, q, rfl, T1.out, T2.out, TQ.out, T4.out, T5.out⟩, (h.last _).1, (h.last _).2⟩));go_wp2;exact bodyPost_ret (v := .agg #[.int .i64 k, .string n, .string d, .int .i64 a, .int .i64 b, .string q]) (by simp [results, Tryz.results67, go_sem, *]) rfl (HEND.out _ S5.out)
 ·go_wp2_with fail;refine (KP4.out _ _ rfl S2.out.cur).mono ?_;rintro e w3 ⟨v, rfl, ⟨q, rfl, hq⟩, hc3, hg3⟩;have S3 := Lib.hid (S2.out.draw hc3 hg3);have TQ := Lib.hid (show okI q from by simp at hq; unfold okI; omega);clear hc3 hg3 S2 hq;have f0 := S3.out.xb.cell 0 _ rfl;have f1 := S3.out.xb.cell 1 _ rfl;have f2 := S3.out.xb.cell 2 _ rfl;have f3 := S3.out.xb.cell 3 _ rfl;have f4 := S3.out.xb.cell 4 _ rfl;have f5 := S3.out.xb.cell 5 _ rfl;have z4 := S3.out.xb.free 4;have S4 := Lib.hid (S3.out.set 4 (.int .i64 q) (ys := fieldsV k n d a q t) rfl);have r0 : w3.cell? ⟨w.heap.size, 0, none⟩ = some (.int .i64 0) := S3.out.rb.cell 0 _ rfl;have y0 := S3.out.rb.free 0;have r1 : w3.cell? ⟨w.heap.size, 1, none⟩ = some (.string ⟨#[]⟩) := S3.out.rb.cell 1 _ rfl;have y1 := S3.out.rb.free 1;have r2 : w3.cell? ⟨w.heap.size, 2, none⟩ = some (.string ⟨#[]⟩) := S3.out.rb.cell 2 _ rfl;have y2 := S3.out.rb.free 2;have r3 : w3.cell? ⟨w.heap.size, 3, none⟩ = some (.int .i64 0) := S3.out.rb.cell 3 _ rfl;have y3 := S3.out.rb.free 3;have r4 : w3.cell? ⟨w.heap.size, 4, none⟩ = some (.int .i64 0) := S3.out.rb.cell 4 _ rfl;have y4 := S3.out.rb.free 4;have r5 : w3.cell? ⟨w.heap.size, 5, none⟩ = some (.string ⟨#[]⟩) := S3.out.rb.cell 5 _ rfl;have y5 := S3.out.rb.free 5;have HEND := Lib.hid (fun W (h : St w0 w c w.heap.size w1.heap.size (fieldsV (k) (n) (d) (a) (q) (t)) W) => (show Drawn w0 c IsCal w (.returned (.agg #[.int .i64 k, .string n, .string d, .int .i64 a, .int .i64 q, .string t])) (sets W w.heap.size 0 (fieldsV (k) (n) (d) (a) (q) (t))) from ⟨_, rfl, ⟨k, n, d, a, q, t, rfl, T1.out, T2.out, T3.out, T4.out, TQ.out⟩, (h.last _).1, (h.last _).2⟩));go_wp2;exact bodyPost_ret (v := .agg #[.int .i64 k, .string n, .string d, .int .i64 a, .int .i64 q, .string t]) (by simp [results, Tryz.results67, go_sem, *]) rfl (HEND.out _ S4.out)
 ·have m1 : (m == 0) = false := by rw [beq_eq_false_iff_ne]; omega
  have m2 : (m == 1) = false := by rw [beq_eq_false_iff_ne]; omega
  have m3 : (m == 2) = false := by rw [beq_eq_false_iff_ne]; omega
  have m4 : (m == 3) = false := by rw [beq_eq_false_iff_ne]; omega
  have m5 : (m == 4) = false := by rw [beq_eq_false_iff_ne]; omega
  have f0 := S2.out.xb.cell 0 _ rfl;have f1 := S2.out.xb.cell 1 _ rfl;have f2 := S2.out.xb.cell 2 _ rfl;have f3 := S2.out.xb.cell 3 _ rfl;have f4 := S2.out.xb.cell 4 _ rfl;have f5 := S2.out.xb.cell 5 _ rfl;have r0 : w2.cell? ⟨w.heap.size, 0, none⟩ = some (.int .i64 0) := S2.out.rb.cell 0 _ rfl;have y0 := S2.out.rb.free 0;have r1 : w2.cell? ⟨w.heap.size, 1, none⟩ = some (.string ⟨#[]⟩) := S2.out.rb.cell 1 _ rfl;have y1 := S2.out.rb.free 1;have r2 : w2.cell? ⟨w.heap.size, 2, none⟩ = some (.string ⟨#[]⟩) := S2.out.rb.cell 2 _ rfl;have y2 := S2.out.rb.free 2;have r3 : w2.cell? ⟨w.heap.size, 3, none⟩ = some (.int .i64 0) := S2.out.rb.cell 3 _ rfl;have y3 := S2.out.rb.free 3;have r4 : w2.cell? ⟨w.heap.size, 4, none⟩ = some (.int .i64 0) := S2.out.rb.cell 4 _ rfl;have y4 := S2.out.rb.free 4;have r5 : w2.cell? ⟨w.heap.size, 5, none⟩ = some (.string ⟨#[]⟩) := S2.out.rb.cell 5 _ rfl;have y5 := S2.out.rb.free 5;have HEND := Lib.hid (fun W (h : St w0 w c w.heap.size w1.heap.size (fieldsV (k) (n) (d) (a) (b) (t)) W) => (show Drawn w0 c IsCal w (.returned (.agg #[.int .i64 k, .string n, .string d, .int .i64 a, .int .i64 b, .string t])) (sets W w.heap.size 0 (fieldsV (k) (n) (d) (a) (b) (t))) from ⟨_, rfl, ⟨k, n, d, a, b, t, rfl, T1.out, T2.out, T3.out, T4.out, T5.out⟩, (h.last _).1, (h.last _).2⟩));go_wp2;exact bodyPost_ret (v := .agg #[.int .i64 k, .string n, .string d, .int .i64 a, .int .i64 b, .string t]) (by simp [results, Tryz.results67, go_sem, *]) rfl (HEND.out _ S2.out)
theorem putKeyS_mem {z : ByteArray × ByteArray} {xs : List (ByteArray × ByteArray)} {key val : ByteArray} (h : z ∈ putKeyS xs key val) : z = (key, val) ∨ z ∈ xs := by
 unfold putKeyS at h;split at h
 ·exact .inr h
 ·exact putV_mem h
end Go.Proofs.YtihghflppegnmaaGreatDoor
namespace Go.Proofs.YtihghflppegnmaaGreatDoor
open Go.RowKit
def hd (k : ByteArray) : Option UInt8 := k.data.toList.head?
theorem hd_app {a b : ByteArray} {c : UInt8} (h : hd a = some c) : hd (a ++ b) = some c := by
 unfold hd at *;rw [ByteArray.data_append, Array.toList_append, List.head?_append, h];rfl
theorem hd_num {a t : ByteArray} {n : Int} {c : UInt8} (h : hd a = some c) : hd (keyNumS a n t) = some c := hd_app (hd_app h)
theorem begins_iff {k p : ByteArray} (h : beginsB k p = true) : p.data.toList <+: k.data.toList := by
 unfold beginsB at h;rw [Bool.and_eq_true, decide_eq_true_eq, beq_iff_eq, toList_eq_iff] at h;have e : (k.extract 0 p.size).data.toList = k.data.toList.take p.size := by simp [ByteArray.data_extract]
 rw [h.2] at e;rw [e];exact List.take_prefix _ _
theorem hd_begins {k p : ByteArray} {c : UInt8} (h : beginsB k p = true) (hp : hd p = some c) : hd k = some c := by
 obtain ⟨t, e⟩ := begins_iff h;unfold hd at *;rw [← e, List.head?_append, hp];rfl
theorem hd_ne {k : ByteArray} {c : UInt8} (h : hd k = some c) (hc : c ≠ 99) : k ≠ cProc := fun e => by
 rw [e] at h;have h2 : hd cProc = some 99 := rfl;rw [h2] at h;exact hc (Option.some.inj h).symm
structure Safe (k : ByteArray) : Prop where
 m : hd k ≠ some 109
 t : hd k ≠ some 116
 c : k ≠ cProc
theorem safe_hd {k : ByteArray} {c : UInt8} (h : hd k = some c) (h1 : c ≠ 109) (h2 : c ≠ 116) (h3 : c ≠ 99) : Safe k := ⟨fun e => h1 (Option.some.inj (h.symm.trans e)), fun e => h2 (Option.some.inj (h.symm.trans e)), hd_ne h h3⟩
theorem hd_n (a : ByteArray) : hd (nK a) = some 110 := hd_app rfl
theorem hd_links (a : Int) : hd (linksK a) = some 105 := hd_num rfl
theorem hd_size (a : Int) : hd (sizeK a) = some 105 := hd_num rfl
theorem hd_file (a : Int) : hd (fileK a) = some 105 := hd_num rfl
theorem hd_block (a b : Int) : hd (blockK a b) = some 105 := hd_num (hd_num rfl)
theorem hd_pipe (a : Int) (t : ByteArray) : hd (pipeK a t) = some 112 := hd_num rfl
theorem hd_pipeQ (a b : Int) : hd (pipeQ a b) = some 112 := hd_num (hd_num rfl)
theorem hd_sig (a : Int) (t : ByteArray) : hd (sigK a t) = some 103 := hd_num rfl
theorem hd_sigQ (a b : Int) : hd (sigQ a b) = some 103 := hd_num (hd_num rfl)
theorem hd_timer (a : Int) : hd (timerK a) = some 116 := hd_num rfl
theorem hd_pages (a : Int) : hd (pagesK a) = some 109 := hd_num rfl
theorem hd_page (a b : Int) : hd (pageK a b) = some 109 := hd_num (hd_num rfl)
theorem hd_out (a : Int) : hd (outK1 a) = some 100 := hd_num rfl
theorem hd_proc (a : Int) (t : ByteArray) : hd (procK a t) = some 114 := hd_num rfl
theorem safe_n (a : ByteArray) : Safe (nK a) := safe_hd (hd_n a) (by decide) (by decide) (by decide)
theorem safe_links (a : Int) : Safe (linksK a) := safe_hd (hd_links a) (by decide) (by decide) (by decide)
theorem safe_size (a : Int) : Safe (sizeK a) := safe_hd (hd_size a) (by decide) (by decide) (by decide)
theorem safe_block (a b : Int) : Safe (blockK a b) := safe_hd (hd_block a b) (by decide) (by decide) (by decide)
theorem safe_pipe (a : Int) (t : ByteArray) : Safe (pipeK a t) := safe_hd (hd_pipe a t) (by decide) (by decide) (by decide)
theorem safe_pipeQ (a b : Int) : Safe (pipeQ a b) := safe_hd (hd_pipeQ a b) (by decide) (by decide) (by decide)
theorem safe_sig (a : Int) (t : ByteArray) : Safe (sigK a t) := safe_hd (hd_sig a t) (by decide) (by decide) (by decide)
theorem safe_sigQ (a b : Int) : Safe (sigQ a b) := safe_hd (hd_sigQ a b) (by decide) (by decide) (by decide)
theorem safe_out (a : Int) : Safe (outK1 a) := safe_hd (hd_out a) (by decide) (by decide) (by decide)
theorem safe_dn : Safe dnK := safe_hd (c := 100) rfl (by decide) (by decide) (by decide)
theorem safe_proc (a : Int) (t : ByteArray) : Safe (procK a t) := safe_hd (hd_proc a t) (by decide) (by decide) (by decide)
theorem safe_c {k : ByteArray} (h : hd k = some 99) (hs : k.size ≠ cProc.size) : Safe k := ⟨by rw [h]; decide, by rw [h]; decide, fun e => hs (by rw [e])⟩
theorem hd_cFile : hd cFile = some 99 := rfl
theorem hd_cPipe : hd cPipe = some 99 := rfl
theorem hd_cProc : hd cProc = some 99 := rfl
theorem safe_clock : Safe cClock := safe_c rfl (by decide)
def tPx (c : ByteArray × ByteArray) : Bool := hd c.1 == some 116
def tN (s : Sto) : Nat := (s.filter tPx).length
structure Inv (s : Sto) : Prop where
 r : Rising s
 p : ∀ c ∈ s, hd c.1 = some 109 → ∃ i k : Int, 0 ≤ k ∧ k ≤ 3 ∧ c.1 = pageK i k
 c : ∃ c ∈ s, c.1 = cProc
theorem insK_mem2 {c x : ByteArray × ByteArray} {xs : Sto} (h : x = c ∨ x ∈ xs) : x ∈ insK c xs := by
 induction xs with
 | nil =>
  rcases h with rfl | h
  ·exact List.mem_singleton.2 rfl
  ·cases h
 | cons y ys ih =>
  rw [insK_cons];split
  ·rcases h with rfl | h
   ·exact List.mem_cons_self
   ·exact List.mem_cons_of_mem _ h
  ·rcases h with h | h
   ·exact List.mem_cons_of_mem _ (ih (.inl h))
   ·rcases List.mem_cons.1 h with rfl | h
    ·exact List.mem_cons_self
    ·exact List.mem_cons_of_mem _ (ih (.inr h))
theorem ins_count (q : ByteArray × ByteArray → Bool) (c : ByteArray × ByteArray) : ∀ xs : Sto, ((insK c xs).filter q).length = (xs.filter q).length + if q c = true then 1 else 0
 | [] => by
  show ([c].filter q).length = _;by_cases h : q c = true <;> simp [h]
 | y :: ys => by
  rw [insK_cons];split
  ·by_cases h : q c = true <;> simp [List.filter_cons, h]
  ·have ih := ins_count q c ys;by_cases h : q y = true <;> simp [List.filter_cons, h, ih] <;> omega
theorem del_count (q : ByteArray × ByteArray → Bool) (xs : Sto) (k : ByteArray) : ((delK xs k).filter q).length ≤ (xs.filter q).length := (List.Sublist.filter q List.filter_sublist).length_le
theorem del_mem {xs : Sto} {k : ByteArray} {x : ByteArray × ByteArray} (h : x ∈ delK xs k) : x ∈ xs := (List.mem_filter.1 h).1
theorem del_mem2 {xs : Sto} {k : ByteArray} {x : ByteArray × ByteArray} (h : x ∈ xs) (hn : x.1 ≠ k) : x ∈ delK xs k := List.mem_filter.2 ⟨h, by
 cases e : eqB x.1 k with
 | true => exact absurd (eqB_iff.1 e) hn
 | false => rfl⟩
theorem put_mem {s : Sto} {k v : ByteArray} {x : ByteArray × ByteArray} (h : x ∈ putKeyS s k v) : x ∈ s ∨ (x = (k, v) ∧ v.size ≠ 0) := by
 unfold putKeyS at h;split at h
 ·exact .inl h
 ·unfold putV at h;split at h
  ·exact .inl (del_mem h)
  ·rcases insK_mem h with rfl | h
   ·exact .inr ⟨rfl, by assumption⟩
   ·exact .inl (del_mem h)
theorem put_keep {s : Sto} {k v : ByteArray} {x : ByteArray × ByteArray} (h : x ∈ s) (hn : x.1 ≠ k ∨ v.size ≠ 0) : ∃ y ∈ putKeyS s k v, y.1 = x.1 := by
 unfold putKeyS;split
 ·exact ⟨x, h, rfl⟩
 ·unfold putV;split
  ·exact ⟨x, del_mem2 h (hn.resolve_right (fun h2 => h2 (by assumption))), rfl⟩
  ·by_cases e : x.1 = k
   ·exact ⟨(k, v), insK_mem2 (.inl rfl), e.symm⟩
   ·exact ⟨x, insK_mem2 (.inr (del_mem2 h e)), rfl⟩
theorem put_rising {s : Sto} (h : Rising s) (k v : ByteArray) : Rising (putKeyS s k v) := by
 unfold putKeyS;split
 ·exact h
 ·exact rising_put h _ _
theorem put_len0 {s : Sto} {k v : ByteArray} (h : v.size = 0) : (putKeyS s k v).length ≤ s.length := by
 unfold putKeyS putV;rw [if_pos h];split
 ·exact Nat.le_refl _
 ·exact List.length_filter_le _ _
theorem put_t0 {s : Sto} {k v : ByteArray} (h : v.size = 0 ∨ hd k ≠ some 116) : tN (putKeyS s k v) ≤ tN s := by
 unfold putKeyS putV tN;split
 ·exact Nat.le_refl _
 ·split
  ·exact del_count _ _ _
  ·rw [ins_count, if_neg]
   ·exact del_count _ _ _
   ·unfold tPx;rw [beq_iff_eq];exact h.resolve_left (by assumption)
theorem put_t1 (s : Sto) (k v : ByteArray) : tN (putKeyS s k v) ≤ tN s + 1 := by
 unfold putKeyS putV tN;split
 ·omega
 ·split
  ·exact Nat.le_trans (del_count _ _ _) (by omega)
  ·rw [ins_count];have := del_count tPx s k;split <;> omega
def Gr {α : Type} (x : Pg α) (L n t : Nat) : Prop := ∀ s : Sto, Inv s → tN s ≤ L → Inv (x.sem s).1 ∧ (x.sem s).1.length ≤ s.length + n ∧ tN (x.sem s).1 ≤ tN s + t
section
variable {α β : Type} {L n t c u : Nat}
theorem Gr.mono {x : Pg α} {n' t' : Nat} (h : Gr x L n t) (h1 : n ≤ n') (h2 : t ≤ t') : Gr x L n' t' := fun s hi hl => by
 obtain ⟨a, b, d⟩ := h s hi hl;exact ⟨a, by omega, by omega⟩
theorem Gr.pure (a : α) : Gr (Pure.pure a : Pg α) L n t := fun s hi _ => ⟨hi, by show s.length ≤ _; omega, by show tN s ≤ _; omega⟩
theorem Gr.bind {x : Pg α} {g : α → Pg β} (hx : Gr x L c u) (h1 : c ≤ n) (h2 : u ≤ t) (hg : ∀ v, Gr (g v) (L + u) (n - c) (t - u)) : Gr (x >>= g) L n t := fun s hi hl => by
 rw [Pg.sem_bind];obtain ⟨a, b, d⟩ := hx s hi hl;obtain ⟨a2, b2, d2⟩ := hg (x.sem s).2 _ a (by omega);exact ⟨a2, by omega, by omega⟩
theorem Gr.ite {q : Prop} [Decidable q] {x y : Pg α} (hx : Gr x L n t) (hy : Gr y L n t) : Gr (if q then x else y) L n t := by
 split
 ·exact hx
 ·exact hy
theorem gr_look {k : ByteArray} {f : ByteArray → Pg α} (h : ∀ v, Gr (f v) L n t) : Gr (.look k f) L n t := fun s hi hl => h _ s hi hl
theorem gr_num (k : ByteArray) : Gr (numP k) L 0 0 := fun s hi _ => ⟨hi, Nat.le_refl _, Nat.le_refl _⟩
theorem gr_msg (k : ByteArray) : Gr (msgP k) L 0 0 := fun s hi _ => ⟨hi, Nat.le_refl _, Nat.le_refl _⟩
theorem gr_blockP (a b : Int) : Gr (blockP a b) L 0 0 := fun s hi _ => ⟨hi, Nat.le_refl _, Nat.le_refl _⟩
theorem gr_lay0 {k : ByteArray} (hk : k ≠ cProc) : Gr (layP k noB) L 0 0 := fun s hi _ => by
 show Inv (putKeyS s k noB) ∧ (putKeyS s k noB).length ≤ _ ∧ tN (putKeyS s k noB) ≤ _;refine ⟨⟨put_rising hi.r _ _, fun x hx hm => ?_, ?_⟩, put_len0 rfl, put_t0 (.inl rfl)⟩
 ·rcases put_mem hx with h | ⟨_, h⟩
  ·exact hi.p x h hm
  ·exact absurd rfl h
 ·obtain ⟨x, hx, e⟩ := hi.c;obtain ⟨y, hy, e2⟩ := put_keep (k := k) (v := noB) hx (.inl (by rw [e]; exact hk.symm));exact ⟨y, hy, e2.trans e⟩
theorem inv_put {s : Sto} (hi : Inv s) {k v : ByteArray} (hm : hd k = some 109 → ∃ i j : Int, 0 ≤ j ∧ j ≤ 3 ∧ k = pageK i j) (hc : k ≠ cProc ∨ v.size ≠ 0) : Inv (putKeyS s k v) := by
 refine ⟨put_rising hi.r _ _, fun x hx h => ?_, ?_⟩
 ·rcases put_mem hx with h2 | ⟨h2, _⟩
  ·exact hi.p x h2 h
  ·rw [h2] at h ⊢;exact hm h
 ·obtain ⟨x, hx, e⟩ := hi.c;obtain ⟨y, hy, e2⟩ := put_keep (k := k) (v := v) hx (hc.imp (fun h => by rw [e]; exact h.symm) id);exact ⟨y, hy, e2.trans e⟩
theorem gr_lay {k : ByteArray} (v : ByteArray) (hk : Safe k) : Gr (layP k v) L 1 0 := fun s hi _ => by
 show Inv (putKeyS s k v) ∧ (putKeyS s k v).length ≤ _ ∧ tN (putKeyS s k v) ≤ _;exact ⟨inv_put hi (fun h => absurd h hk.m) (.inl hk.c), putKeyS_len _ _ _, put_t0 (.inr hk.t)⟩
theorem gr_set {k : ByteArray} (v : Int) (hk : Safe k) : Gr (setP k v) L 1 0 := gr_lay (numText v) hk
theorem gr_page (i j : Int) (v : ByteArray) (h0 : 0 ≤ j) (h1 : j ≤ 3) : Gr (layP (pageK i j) v) L 1 0 := fun s hi _ => by
 show Inv (putKeyS s _ v) ∧ (putKeyS s _ v).length ≤ _ ∧ tN (putKeyS s _ v) ≤ _;exact ⟨inv_put hi (fun _ => ⟨i, j, h0, h1, rfl⟩) (.inl (hd_ne (hd_page i j) (by decide))), putKeyS_len _ _ _, put_t0 (.inr (by rw [hd_page]; decide))⟩
theorem gr_timer (i : Int) (v : Int) : Gr (setP (timerK i) v) L 1 1 := fun s hi _ => by
 show Inv (putKeyS s _ _) ∧ (putKeyS s _ _).length ≤ _ ∧ tN (putKeyS s _ _) ≤ _;exact ⟨inv_put hi (fun h => by rw [hd_timer] at h; cases h) (.inl (hd_ne (hd_timer i) (by decide))), putKeyS_len _ _ _, put_t1 _ _ _⟩
theorem dec_pos (n : Int) : (decS n).size ≠ 0 := fun h => by
 have h2 : (Lib.itoa n).length = 0 := by have : (Lib.itoa n).toArray.size = 0 := h; simpa using this
 have h3 := List.eq_nil_of_length_eq_zero h2;unfold Lib.itoa at h3;split at h3
 ·cases h3
 ·rw [Lib.decDigits] at h3;split at h3 <;> simp at h3
theorem gr_bump {k : ByteArray} (h1 : hd k = some 99) : Gr (bumpP k) L 1 0 := fun s hi _ => by
 rw [sem_bump];split
 ·exact ⟨hi, Nat.le_succ _, Nat.le_refl _⟩
 ·have hb := numOf_bounds (getKeyS s k);refine ⟨inv_put hi (fun h => by rw [h1] at h; cases h) (.inr ?_), putKeyS_len _ _ _, put_t0 (.inr (by rw [h1]; decide))⟩;unfold numText;rw [inB_iff.2 ⟨by omega, by omega⟩, if_pos rfl];exact dec_pos _
theorem gr_layAll : ∀ (ks : List ByteArray), (∀ k ∈ ks, k ≠ cProc) → Gr (layAll ks) L 0 0
 | [], _ => fun s hi _ => ⟨hi, Nat.le_refl _, Nat.le_refl _⟩
 | k :: ks, h => by
  have e : layAll (k :: ks) = (layP k noB >>= fun _ => layAll ks) := rfl;rw [e];exact Gr.bind (gr_lay0 (h k List.mem_cons_self)) (Nat.le_refl _) (Nat.le_refl _) (fun _ => gr_layAll ks (fun x hx => h x (List.mem_cons_of_mem _ hx)))
theorem gr_wipe {p : ByteArray} {c : UInt8} (h : hd p = some c) (hc : c ≠ 99) : Gr (wipeP p) L 0 0 := fun s hi hl => by
 show Inv ((layAll (keysU s p)).sem s).1 ∧ _;refine gr_layAll (keysU s p) (fun k hk => ?_) s hi hl;unfold keysU at hk;obtain ⟨y, hy, rfl⟩ := List.mem_map.1 hk;exact hd_ne (hd_begins (List.mem_filter.1 hy).2 h) hc
end
theorem gr_fileOfP {L : Nat} (a : ByteArray) : Gr (fileOfP a) L (0) 0 := by
 unfold fileOfP
 repeat' first | with_reducible exact Gr.pure _ | with_reducible refine Gr.bind (gr_num _) (by omega) (by omega) (fun _ => ?_) | with_reducible exact Gr.mono (gr_num _) (by omega) (by omega) | with_reducible refine Gr.ite ?_ ?_
theorem gr_makeP {L : Nat} (a : ByteArray) : Gr (makeP a) L (3) 0 := by
 unfold makeP
 repeat' first | with_reducible exact Gr.pure _ | with_reducible refine Gr.bind (gr_num _) (by omega) (by omega) (fun _ => ?_) | with_reducible exact Gr.mono (gr_num _) (by omega) (by omega) | with_reducible refine Gr.bind (gr_bump (by first | exact hd_cFile | exact hd_cPipe | exact hd_cProc)) (by omega) (by omega) (fun _ => ?_) | with_reducible exact Gr.mono (gr_bump (by first | exact hd_cFile | exact hd_cPipe | exact hd_cProc)) (by omega) (by omega) | with_reducible refine Gr.bind (gr_set _ (by first | exact safe_n _ | exact safe_links _ | exact safe_size _ | exact safe_block _ _ | exact safe_pipe _ _ | exact safe_pipeQ _ _ | exact safe_sig _ _ | exact safe_sigQ _ _ | exact safe_out _ | exact safe_dn | exact safe_proc _ _ | exact safe_clock)) (by omega) (by omega) (fun _ => ?_) | with_reducible exact Gr.mono (gr_set _ (by first | exact safe_n _ | exact safe_links _ | exact safe_size _ | exact safe_block _ _ | exact safe_pipe _ _ | exact safe_pipeQ _ _ | exact safe_sig _ _ | exact safe_sigQ _ _ | exact safe_out _ | exact safe_dn | exact safe_proc _ _ | exact safe_clock)) (by omega) (by omega) | with_reducible refine Gr.bind (gr_fileOfP _) (by omega) (by omega) (fun _ => ?_) | with_reducible exact Gr.mono (gr_fileOfP _) (by omega) (by omega) | with_reducible refine Gr.ite ?_ ?_
theorem gr_linkP {L : Nat} (a b : ByteArray) : Gr (linkP a b) L (2) 0 := by
 unfold linkP
 repeat' first | with_reducible exact Gr.pure _ | with_reducible refine Gr.bind (gr_num _) (by omega) (by omega) (fun _ => ?_) | with_reducible exact Gr.mono (gr_num _) (by omega) (by omega) | with_reducible refine Gr.bind (gr_set _ (by first | exact safe_n _ | exact safe_links _ | exact safe_size _ | exact safe_block _ _ | exact safe_pipe _ _ | exact safe_pipeQ _ _ | exact safe_sig _ _ | exact safe_sigQ _ _ | exact safe_out _ | exact safe_dn | exact safe_proc _ _ | exact safe_clock)) (by omega) (by omega) (fun _ => ?_) | with_reducible exact Gr.mono (gr_set _ (by first | exact safe_n _ | exact safe_links _ | exact safe_size _ | exact safe_block _ _ | exact safe_pipe _ _ | exact safe_pipeQ _ _ | exact safe_sig _ _ | exact safe_sigQ _ _ | exact safe_out _ | exact safe_dn | exact safe_proc _ _ | exact safe_clock)) (by omega) (by omega) | with_reducible refine Gr.bind (gr_fileOfP _) (by omega) (by omega) (fun _ => ?_) | with_reducible exact Gr.mono (gr_fileOfP _) (by omega) (by omega) | with_reducible refine Gr.ite ?_ ?_
theorem gr_unlinkP {L : Nat} (a : ByteArray) : Gr (unlinkP a) L (1) 0 := by
 unfold unlinkP
 repeat' first | with_reducible exact Gr.pure _ | with_reducible refine Gr.bind (gr_lay0 (Safe.c (by first | exact safe_n _ | exact safe_links _ | exact safe_size _ | exact safe_block _ _ | exact safe_pipe _ _ | exact safe_pipeQ _ _ | exact safe_sig _ _ | exact safe_sigQ _ _ | exact safe_out _ | exact safe_dn | exact safe_proc _ _ | exact safe_clock))) (by omega) (by omega) (fun _ => ?_) | with_reducible exact Gr.mono (gr_lay0 (Safe.c (by first | exact safe_n _ | exact safe_links _ | exact safe_size _ | exact safe_block _ _ | exact safe_pipe _ _ | exact safe_pipeQ _ _ | exact safe_sig _ _ | exact safe_sigQ _ _ | exact safe_out _ | exact safe_dn | exact safe_proc _ _ | exact safe_clock))) (by omega) (by omega) | with_reducible refine Gr.bind (gr_lay _ (by first | exact safe_n _ | exact safe_links _ | exact safe_size _ | exact safe_block _ _ | exact safe_pipe _ _ | exact safe_pipeQ _ _ | exact safe_sig _ _ | exact safe_sigQ _ _ | exact safe_out _ | exact safe_dn | exact safe_proc _ _ | exact safe_clock)) (by omega) (by omega) (fun _ => ?_) | with_reducible exact Gr.mono (gr_lay _ (by first | exact safe_n _ | exact safe_links _ | exact safe_size _ | exact safe_block _ _ | exact safe_pipe _ _ | exact safe_pipeQ _ _ | exact safe_sig _ _ | exact safe_sigQ _ _ | exact safe_out _ | exact safe_dn | exact safe_proc _ _ | exact safe_clock)) (by omega) (by omega) | with_reducible refine Gr.bind (gr_num _) (by omega) (by omega) (fun _ => ?_) | with_reducible exact Gr.mono (gr_num _) (by omega) (by omega) | with_reducible refine Gr.bind (gr_wipe (by first | exact hd_file _ | exact hd_proc _ _ | exact hd_pages _) (by decide)) (by omega) (by omega) (fun _ => ?_) | with_reducible exact Gr.mono (gr_wipe (by first | exact hd_file _ | exact hd_proc _ _ | exact hd_pages _) (by decide)) (by omega) (by omega) | with_reducible refine Gr.bind (gr_set _ (by first | exact safe_n _ | exact safe_links _ | exact safe_size _ | exact safe_block _ _ | exact safe_pipe _ _ | exact safe_pipeQ _ _ | exact safe_sig _ _ | exact safe_sigQ _ _ | exact safe_out _ | exact safe_dn | exact safe_proc _ _ | exact safe_clock)) (by omega) (by omega) (fun _ => ?_) | with_reducible exact Gr.mono (gr_set _ (by first | exact safe_n _ | exact safe_links _ | exact safe_size _ | exact safe_block _ _ | exact safe_pipe _ _ | exact safe_pipeQ _ _ | exact safe_sig _ _ | exact safe_sigQ _ _ | exact safe_out _ | exact safe_dn | exact safe_proc _ _ | exact safe_clock)) (by omega) (by omega) | with_reducible refine Gr.bind (gr_fileOfP _) (by omega) (by omega) (fun _ => ?_) | with_reducible exact Gr.mono (gr_fileOfP _) (by omega) (by omega) | with_reducible refine Gr.ite ?_ ?_
theorem gr_renameP {L : Nat} (a b : ByteArray) : Gr (renameP a b) L (2) 0 := by
 unfold renameP
 repeat' first | with_reducible exact Gr.pure _ | with_reducible refine Gr.bind (gr_lay0 (Safe.c (by first | exact safe_n _ | exact safe_links _ | exact safe_size _ | exact safe_block _ _ | exact safe_pipe _ _ | exact safe_pipeQ _ _ | exact safe_sig _ _ | exact safe_sigQ _ _ | exact safe_out _ | exact safe_dn | exact safe_proc _ _ | exact safe_clock))) (by omega) (by omega) (fun _ => ?_) | with_reducible exact Gr.mono (gr_lay0 (Safe.c (by first | exact safe_n _ | exact safe_links _ | exact safe_size _ | exact safe_block _ _ | exact safe_pipe _ _ | exact safe_pipeQ _ _ | exact safe_sig _ _ | exact safe_sigQ _ _ | exact safe_out _ | exact safe_dn | exact safe_proc _ _ | exact safe_clock))) (by omega) (by omega) | with_reducible refine Gr.bind (gr_lay _ (by first | exact safe_n _ | exact safe_links _ | exact safe_size _ | exact safe_block _ _ | exact safe_pipe _ _ | exact safe_pipeQ _ _ | exact safe_sig _ _ | exact safe_sigQ _ _ | exact safe_out _ | exact safe_dn | exact safe_proc _ _ | exact safe_clock)) (by omega) (by omega) (fun _ => ?_) | with_reducible exact Gr.mono (gr_lay _ (by first | exact safe_n _ | exact safe_links _ | exact safe_size _ | exact safe_block _ _ | exact safe_pipe _ _ | exact safe_pipeQ _ _ | exact safe_sig _ _ | exact safe_sigQ _ _ | exact safe_out _ | exact safe_dn | exact safe_proc _ _ | exact safe_clock)) (by omega) (by omega) | with_reducible refine Gr.bind (gr_set _ (by first | exact safe_n _ | exact safe_links _ | exact safe_size _ | exact safe_block _ _ | exact safe_pipe _ _ | exact safe_pipeQ _ _ | exact safe_sig _ _ | exact safe_sigQ _ _ | exact safe_out _ | exact safe_dn | exact safe_proc _ _ | exact safe_clock)) (by omega) (by omega) (fun _ => ?_) | with_reducible exact Gr.mono (gr_set _ (by first | exact safe_n _ | exact safe_links _ | exact safe_size _ | exact safe_block _ _ | exact safe_pipe _ _ | exact safe_pipeQ _ _ | exact safe_sig _ _ | exact safe_sigQ _ _ | exact safe_out _ | exact safe_dn | exact safe_proc _ _ | exact safe_clock)) (by omega) (by omega) | with_reducible refine Gr.bind (gr_fileOfP _) (by omega) (by omega) (fun _ => ?_) | with_reducible exact Gr.mono (gr_fileOfP _) (by omega) (by omega) | with_reducible refine Gr.bind (gr_unlinkP _) (by omega) (by omega) (fun _ => ?_) | with_reducible exact Gr.mono (gr_unlinkP _) (by omega) (by omega) | with_reducible refine Gr.ite ?_ ?_
theorem gr_readL {L : Nat} (id a e : Int) : ∀ (n : Nat) (p : Int) (s : ByteArray), Gr (readL id a e n p s) L 0 0
 | 0, _, _ => Gr.pure _
 | n + 1, _, _ => by
  unfold readL;refine Gr.ite ?_ (Gr.pure _);exact Gr.bind (gr_blockP _ _) (by omega) (by omega) (fun _ => gr_readL id a e n _ _)
theorem gr_writeL {L : Nat} (id a e : Int) (t : ByteArray) : ∀ (n : Nat) (p : Int), Gr (writeL id a e t n p) L n 0
 | 0, _ => Gr.pure _
 | n + 1, _ => by
  unfold writeL;refine Gr.ite ?_ (Gr.pure _);refine Gr.bind (gr_blockP _ _) (by omega) (by omega) (fun _ => ?_);refine Gr.bind (gr_lay _ (safe_block _ _)) (by omega) (by omega) (fun _ => ?_);exact (gr_writeL id a e t n _).mono (by omega) (by omega)
theorem gr_cutL {L : Nat} (id s : Int) : ∀ (n : Nat) (p : Int), Gr (cutL id s n p) L 0 0
 | 0, _ => Gr.pure _
 | n + 1, p => by
  unfold cutL;refine Gr.ite ?_ (Gr.pure _);exact Gr.bind (x := layP (blockK id p) noB) (gr_lay0 (safe_block _ _).c) (Nat.le_refl _) (Nat.le_refl _) (fun _ => gr_cutL id s n _)
theorem gr_readP {L : Nat} (a b c : Int) : Gr (readP a b c) L (0) 0 := by
 unfold readP
 repeat' first | with_reducible exact Gr.pure _ | with_reducible refine Gr.bind (gr_num _) (by omega) (by omega) (fun _ => ?_) | with_reducible exact Gr.mono (gr_num _) (by omega) (by omega) | with_reducible refine Gr.bind (gr_readL _ _ _ _ _ _) (by omega) (by omega) (fun _ => ?_) | with_reducible exact Gr.mono (gr_readL _ _ _ _ _ _) (by omega) (by omega) | with_reducible refine Gr.ite ?_ ?_
theorem gr_writeP {L : Nat} (a b : Int) (t : ByteArray) : Gr (writeP a b t) L (21) 0 := by
 unfold writeP
 repeat' first | with_reducible exact Gr.pure _ | with_reducible refine Gr.bind (gr_num _) (by omega) (by omega) (fun _ => ?_) | with_reducible exact Gr.mono (gr_num _) (by omega) (by omega) | with_reducible refine Gr.bind (gr_set _ (by first | exact safe_n _ | exact safe_links _ | exact safe_size _ | exact safe_block _ _ | exact safe_pipe _ _ | exact safe_pipeQ _ _ | exact safe_sig _ _ | exact safe_sigQ _ _ | exact safe_out _ | exact safe_dn | exact safe_proc _ _ | exact safe_clock)) (by omega) (by omega) (fun _ => ?_) | with_reducible exact Gr.mono (gr_set _ (by first | exact safe_n _ | exact safe_links _ | exact safe_size _ | exact safe_block _ _ | exact safe_pipe _ _ | exact safe_pipeQ _ _ | exact safe_sig _ _ | exact safe_sigQ _ _ | exact safe_out _ | exact safe_dn | exact safe_proc _ _ | exact safe_clock)) (by omega) (by omega) | with_reducible refine Gr.bind (gr_writeL _ _ _ _ _ _) (by omega) (by omega) (fun _ => ?_) | with_reducible exact Gr.mono (gr_writeL _ _ _ _ _ _) (by omega) (by omega) | with_reducible refine Gr.ite ?_ ?_
theorem gr_cutP {L : Nat} (a b : Int) : Gr (cutP a b) L 2 0 := by
 unfold cutP;generalize (200 : Nat) = fuel;refine Gr.bind (gr_num _) (by omega) (by omega) (fun size => ?_);refine Gr.ite (Gr.ite ?_ ?_) (Gr.pure _)
 ·refine Gr.bind (gr_blockP _ _) (by omega) (by omega) (fun _ => ?_);refine Gr.bind (gr_lay _ (safe_block _ _)) (by omega) (by omega) (fun _ => ?_);refine Gr.bind (gr_cutL _ _ _ _) (by omega) (by omega) (fun _ => ?_);exact Gr.bind (gr_set _ (safe_size _)) (by omega) (by omega) (fun _ => Gr.pure _)
 ·refine Gr.bind (gr_cutL _ _ _ _) (by omega) (by omega) (fun _ => ?_);exact Gr.bind (gr_set _ (safe_size _)) (by omega) (by omega) (fun _ => Gr.pure _)
theorem gr_mkPipeP {L : Nat}  : Gr (mkPipeP) L (2) 0 := by
 unfold mkPipeP
 repeat' first | with_reducible exact Gr.pure _ | with_reducible refine Gr.bind (gr_num _) (by omega) (by omega) (fun _ => ?_) | with_reducible exact Gr.mono (gr_num _) (by omega) (by omega) | with_reducible refine Gr.bind (gr_bump (by first | exact hd_cFile | exact hd_cPipe | exact hd_cProc)) (by omega) (by omega) (fun _ => ?_) | with_reducible exact Gr.mono (gr_bump (by first | exact hd_cFile | exact hd_cPipe | exact hd_cProc)) (by omega) (by omega) | with_reducible refine Gr.bind (gr_set _ (by first | exact safe_n _ | exact safe_links _ | exact safe_size _ | exact safe_block _ _ | exact safe_pipe _ _ | exact safe_pipeQ _ _ | exact safe_sig _ _ | exact safe_sigQ _ _ | exact safe_out _ | exact safe_dn | exact safe_proc _ _ | exact safe_clock)) (by omega) (by omega) (fun _ => ?_) | with_reducible exact Gr.mono (gr_set _ (by first | exact safe_n _ | exact safe_links _ | exact safe_size _ | exact safe_block _ _ | exact safe_pipe _ _ | exact safe_pipeQ _ _ | exact safe_sig _ _ | exact safe_sigQ _ _ | exact safe_out _ | exact safe_dn | exact safe_proc _ _ | exact safe_clock)) (by omega) (by omega) | with_reducible refine Gr.ite ?_ ?_
theorem gr_isPipeP {L : Nat} (a : Int) : Gr (isPipeP a) L (0) 0 := by
 unfold isPipeP
 repeat' first | with_reducible exact Gr.pure _ | with_reducible refine Gr.bind (gr_num _) (by omega) (by omega) (fun _ => ?_) | with_reducible exact Gr.mono (gr_num _) (by omega) (by omega) | with_reducible refine Gr.ite ?_ ?_
theorem gr_putPipeP {L : Nat} (a : Int) (t : ByteArray) : Gr (putPipeP a t) L (2) 0 := by
 unfold putPipeP
 repeat' first | with_reducible exact Gr.pure _ | with_reducible refine Gr.bind (gr_lay0 (Safe.c (by first | exact safe_n _ | exact safe_links _ | exact safe_size _ | exact safe_block _ _ | exact safe_pipe _ _ | exact safe_pipeQ _ _ | exact safe_sig _ _ | exact safe_sigQ _ _ | exact safe_out _ | exact safe_dn | exact safe_proc _ _ | exact safe_clock))) (by omega) (by omega) (fun _ => ?_) | with_reducible exact Gr.mono (gr_lay0 (Safe.c (by first | exact safe_n _ | exact safe_links _ | exact safe_size _ | exact safe_block _ _ | exact safe_pipe _ _ | exact safe_pipeQ _ _ | exact safe_sig _ _ | exact safe_sigQ _ _ | exact safe_out _ | exact safe_dn | exact safe_proc _ _ | exact safe_clock))) (by omega) (by omega) | with_reducible refine Gr.bind (gr_lay _ (by first | exact safe_n _ | exact safe_links _ | exact safe_size _ | exact safe_block _ _ | exact safe_pipe _ _ | exact safe_pipeQ _ _ | exact safe_sig _ _ | exact safe_sigQ _ _ | exact safe_out _ | exact safe_dn | exact safe_proc _ _ | exact safe_clock)) (by omega) (by omega) (fun _ => ?_) | with_reducible exact Gr.mono (gr_lay _ (by first | exact safe_n _ | exact safe_links _ | exact safe_size _ | exact safe_block _ _ | exact safe_pipe _ _ | exact safe_pipeQ _ _ | exact safe_sig _ _ | exact safe_sigQ _ _ | exact safe_out _ | exact safe_dn | exact safe_proc _ _ | exact safe_clock)) (by omega) (by omega) | with_reducible refine Gr.bind (gr_num _) (by omega) (by omega) (fun _ => ?_) | with_reducible exact Gr.mono (gr_num _) (by omega) (by omega) | with_reducible refine Gr.bind (gr_set _ (by first | exact safe_n _ | exact safe_links _ | exact safe_size _ | exact safe_block _ _ | exact safe_pipe _ _ | exact safe_pipeQ _ _ | exact safe_sig _ _ | exact safe_sigQ _ _ | exact safe_out _ | exact safe_dn | exact safe_proc _ _ | exact safe_clock)) (by omega) (by omega) (fun _ => ?_) | with_reducible exact Gr.mono (gr_set _ (by first | exact safe_n _ | exact safe_links _ | exact safe_size _ | exact safe_block _ _ | exact safe_pipe _ _ | exact safe_pipeQ _ _ | exact safe_sig _ _ | exact safe_sigQ _ _ | exact safe_out _ | exact safe_dn | exact safe_proc _ _ | exact safe_clock)) (by omega) (by omega) | with_reducible refine Gr.bind (gr_isPipeP _) (by omega) (by omega) (fun _ => ?_) | with_reducible exact Gr.mono (gr_isPipeP _) (by omega) (by omega) | with_reducible refine Gr.ite ?_ ?_
theorem gr_takePipeP {L : Nat} (a : Int) : Gr (takePipeP a) L (1) 0 := by
 unfold takePipeP
 repeat' first | with_reducible exact Gr.pure _ | with_reducible refine Gr.bind (gr_lay0 (Safe.c (by first | exact safe_n _ | exact safe_links _ | exact safe_size _ | exact safe_block _ _ | exact safe_pipe _ _ | exact safe_pipeQ _ _ | exact safe_sig _ _ | exact safe_sigQ _ _ | exact safe_out _ | exact safe_dn | exact safe_proc _ _ | exact safe_clock))) (by omega) (by omega) (fun _ => ?_) | with_reducible exact Gr.mono (gr_lay0 (Safe.c (by first | exact safe_n _ | exact safe_links _ | exact safe_size _ | exact safe_block _ _ | exact safe_pipe _ _ | exact safe_pipeQ _ _ | exact safe_sig _ _ | exact safe_sigQ _ _ | exact safe_out _ | exact safe_dn | exact safe_proc _ _ | exact safe_clock))) (by omega) (by omega) | with_reducible refine Gr.bind (gr_lay _ (by first | exact safe_n _ | exact safe_links _ | exact safe_size _ | exact safe_block _ _ | exact safe_pipe _ _ | exact safe_pipeQ _ _ | exact safe_sig _ _ | exact safe_sigQ _ _ | exact safe_out _ | exact safe_dn | exact safe_proc _ _ | exact safe_clock)) (by omega) (by omega) (fun _ => ?_) | with_reducible exact Gr.mono (gr_lay _ (by first | exact safe_n _ | exact safe_links _ | exact safe_size _ | exact safe_block _ _ | exact safe_pipe _ _ | exact safe_pipeQ _ _ | exact safe_sig _ _ | exact safe_sigQ _ _ | exact safe_out _ | exact safe_dn | exact safe_proc _ _ | exact safe_clock)) (by omega) (by omega) | with_reducible refine Gr.bind (gr_num _) (by omega) (by omega) (fun _ => ?_) | with_reducible exact Gr.mono (gr_num _) (by omega) (by omega) | with_reducible refine Gr.bind (gr_msg _) (by omega) (by omega) (fun _ => ?_) | with_reducible exact Gr.mono (gr_msg _) (by omega) (by omega) | with_reducible refine Gr.bind (gr_set _ (by first | exact safe_n _ | exact safe_links _ | exact safe_size _ | exact safe_block _ _ | exact safe_pipe _ _ | exact safe_pipeQ _ _ | exact safe_sig _ _ | exact safe_sigQ _ _ | exact safe_out _ | exact safe_dn | exact safe_proc _ _ | exact safe_clock)) (by omega) (by omega) (fun _ => ?_) | with_reducible exact Gr.mono (gr_set _ (by first | exact safe_n _ | exact safe_links _ | exact safe_size _ | exact safe_block _ _ | exact safe_pipe _ _ | exact safe_pipeQ _ _ | exact safe_sig _ _ | exact safe_sigQ _ _ | exact safe_out _ | exact safe_dn | exact safe_proc _ _ | exact safe_clock)) (by omega) (by omega) | with_reducible refine Gr.bind (gr_isPipeP _) (by omega) (by omega) (fun _ => ?_) | with_reducible exact Gr.mono (gr_isPipeP _) (by omega) (by omega) | with_reducible refine Gr.ite ?_ ?_
theorem gr_stateP {L : Nat} (a : Int) : Gr (stateP a) L (0) 0 := by
 unfold stateP
 repeat' first | with_reducible exact Gr.pure _ | with_reducible refine Gr.bind (gr_num _) (by omega) (by omega) (fun _ => ?_) | with_reducible exact Gr.mono (gr_num _) (by omega) (by omega) | with_reducible refine Gr.ite ?_ ?_
theorem gr_spawnP {L : Nat} (a : Int) : Gr (spawnP a) L (3) 0 := by
 unfold spawnP
 repeat' first | with_reducible exact Gr.pure _ | with_reducible refine Gr.bind (gr_num _) (by omega) (by omega) (fun _ => ?_) | with_reducible exact Gr.mono (gr_num _) (by omega) (by omega) | with_reducible refine Gr.bind (gr_bump (by first | exact hd_cFile | exact hd_cPipe | exact hd_cProc)) (by omega) (by omega) (fun _ => ?_) | with_reducible exact Gr.mono (gr_bump (by first | exact hd_cFile | exact hd_cPipe | exact hd_cProc)) (by omega) (by omega) | with_reducible refine Gr.bind (gr_set _ (by first | exact safe_n _ | exact safe_links _ | exact safe_size _ | exact safe_block _ _ | exact safe_pipe _ _ | exact safe_pipeQ _ _ | exact safe_sig _ _ | exact safe_sigQ _ _ | exact safe_out _ | exact safe_dn | exact safe_proc _ _ | exact safe_clock)) (by omega) (by omega) (fun _ => ?_) | with_reducible exact Gr.mono (gr_set _ (by first | exact safe_n _ | exact safe_links _ | exact safe_size _ | exact safe_block _ _ | exact safe_pipe _ _ | exact safe_pipeQ _ _ | exact safe_sig _ _ | exact safe_sigQ _ _ | exact safe_out _ | exact safe_dn | exact safe_proc _ _ | exact safe_clock)) (by omega) (by omega) | with_reducible refine Gr.ite ?_ ?_
theorem gr_endP {L : Nat} (a b : Int) : Gr (endP a b) L (2) 0 := by
 unfold endP
 repeat' first | with_reducible exact Gr.pure _ | with_reducible refine Gr.bind (gr_set _ (by first | exact safe_n _ | exact safe_links _ | exact safe_size _ | exact safe_block _ _ | exact safe_pipe _ _ | exact safe_pipeQ _ _ | exact safe_sig _ _ | exact safe_sigQ _ _ | exact safe_out _ | exact safe_dn | exact safe_proc _ _ | exact safe_clock)) (by omega) (by omega) (fun _ => ?_) | with_reducible exact Gr.mono (gr_set _ (by first | exact safe_n _ | exact safe_links _ | exact safe_size _ | exact safe_block _ _ | exact safe_pipe _ _ | exact safe_pipeQ _ _ | exact safe_sig _ _ | exact safe_sigQ _ _ | exact safe_out _ | exact safe_dn | exact safe_proc _ _ | exact safe_clock)) (by omega) (by omega) | with_reducible refine Gr.bind (gr_stateP _) (by omega) (by omega) (fun _ => ?_) | with_reducible exact Gr.mono (gr_stateP _) (by omega) (by omega) | with_reducible refine Gr.ite ?_ ?_
theorem gr_reapP {L : Nat} (a b : Int) : Gr (reapP a b) L (0) 0 := by
 unfold reapP
 repeat' first | with_reducible exact Gr.pure _ | with_reducible refine Gr.bind (gr_num _) (by omega) (by omega) (fun _ => ?_) | with_reducible exact Gr.mono (gr_num _) (by omega) (by omega) | with_reducible refine Gr.bind (gr_wipe (by first | exact hd_file _ | exact hd_proc _ _ | exact hd_pages _) (by decide)) (by omega) (by omega) (fun _ => ?_) | with_reducible exact Gr.mono (gr_wipe (by first | exact hd_file _ | exact hd_proc _ _ | exact hd_pages _) (by decide)) (by omega) (by omega) | with_reducible refine Gr.bind (gr_stateP _) (by omega) (by omega) (fun _ => ?_) | with_reducible exact Gr.mono (gr_stateP _) (by omega) (by omega) | with_reducible refine Gr.ite ?_ ?_
theorem gr_kidsL {L : Nat} (p : Int) : ∀ (ks : List ByteArray) (o : List Int), Gr (kidsL p ks o) L 0 0
 | [], _ => Gr.pure _
 | k :: ks, _ => by
  unfold kidsL;refine Gr.ite ?_ (gr_kidsL p ks _);exact Gr.bind (gr_num _) (by omega) (by omega) (fun _ => gr_kidsL p ks _)
theorem gr_kidsP {L : Nat} (p : Int) : Gr (kidsP p) L 0 0 := fun s hi hl => gr_kidsL p _ [] s hi hl
theorem gr_namesP {L : Nat} : Gr namesP L 0 0 := fun s hi _ => ⟨hi, Nat.le_refl _, Nat.le_refl _⟩
theorem gr_sendP {L : Nat} (a b : Int) : Gr (sendP a b) L (2) 0 := by
 unfold sendP
 repeat' first | with_reducible exact Gr.pure _ | with_reducible refine Gr.bind (gr_num _) (by omega) (by omega) (fun _ => ?_) | with_reducible exact Gr.mono (gr_num _) (by omega) (by omega) | with_reducible refine Gr.bind (gr_set _ (by first | exact safe_n _ | exact safe_links _ | exact safe_size _ | exact safe_block _ _ | exact safe_pipe _ _ | exact safe_pipeQ _ _ | exact safe_sig _ _ | exact safe_sigQ _ _ | exact safe_out _ | exact safe_dn | exact safe_proc _ _ | exact safe_clock)) (by omega) (by omega) (fun _ => ?_) | with_reducible exact Gr.mono (gr_set _ (by first | exact safe_n _ | exact safe_links _ | exact safe_size _ | exact safe_block _ _ | exact safe_pipe _ _ | exact safe_pipeQ _ _ | exact safe_sig _ _ | exact safe_sigQ _ _ | exact safe_out _ | exact safe_dn | exact safe_proc _ _ | exact safe_clock)) (by omega) (by omega) | with_reducible refine Gr.bind (gr_stateP _) (by omega) (by omega) (fun _ => ?_) | with_reducible exact Gr.mono (gr_stateP _) (by omega) (by omega) | with_reducible refine Gr.ite ?_ ?_
theorem gr_takeSigP {L : Nat} (a : Int) : Gr (takeSigP a) L (1) 0 := by
 unfold takeSigP
 repeat' first | with_reducible exact Gr.pure _ | with_reducible refine Gr.bind (gr_lay0 (Safe.c (by first | exact safe_n _ | exact safe_links _ | exact safe_size _ | exact safe_block _ _ | exact safe_pipe _ _ | exact safe_pipeQ _ _ | exact safe_sig _ _ | exact safe_sigQ _ _ | exact safe_out _ | exact safe_dn | exact safe_proc _ _ | exact safe_clock))) (by omega) (by omega) (fun _ => ?_) | with_reducible exact Gr.mono (gr_lay0 (Safe.c (by first | exact safe_n _ | exact safe_links _ | exact safe_size _ | exact safe_block _ _ | exact safe_pipe _ _ | exact safe_pipeQ _ _ | exact safe_sig _ _ | exact safe_sigQ _ _ | exact safe_out _ | exact safe_dn | exact safe_proc _ _ | exact safe_clock))) (by omega) (by omega) | with_reducible refine Gr.bind (gr_lay _ (by first | exact safe_n _ | exact safe_links _ | exact safe_size _ | exact safe_block _ _ | exact safe_pipe _ _ | exact safe_pipeQ _ _ | exact safe_sig _ _ | exact safe_sigQ _ _ | exact safe_out _ | exact safe_dn | exact safe_proc _ _ | exact safe_clock)) (by omega) (by omega) (fun _ => ?_) | with_reducible exact Gr.mono (gr_lay _ (by first | exact safe_n _ | exact safe_links _ | exact safe_size _ | exact safe_block _ _ | exact safe_pipe _ _ | exact safe_pipeQ _ _ | exact safe_sig _ _ | exact safe_sigQ _ _ | exact safe_out _ | exact safe_dn | exact safe_proc _ _ | exact safe_clock)) (by omega) (by omega) | with_reducible refine Gr.bind (gr_num _) (by omega) (by omega) (fun _ => ?_) | with_reducible exact Gr.mono (gr_num _) (by omega) (by omega) | with_reducible refine Gr.bind (gr_set _ (by first | exact safe_n _ | exact safe_links _ | exact safe_size _ | exact safe_block _ _ | exact safe_pipe _ _ | exact safe_pipeQ _ _ | exact safe_sig _ _ | exact safe_sigQ _ _ | exact safe_out _ | exact safe_dn | exact safe_proc _ _ | exact safe_clock)) (by omega) (by omega) (fun _ => ?_) | with_reducible exact Gr.mono (gr_set _ (by first | exact safe_n _ | exact safe_links _ | exact safe_size _ | exact safe_block _ _ | exact safe_pipe _ _ | exact safe_pipeQ _ _ | exact safe_sig _ _ | exact safe_sigQ _ _ | exact safe_out _ | exact safe_dn | exact safe_proc _ _ | exact safe_clock)) (by omega) (by omega) | with_reducible refine Gr.ite ?_ ?_
theorem gr_timerP {L : Nat} (a b : Int) : Gr (timerP a b) L 1 1 := by
 unfold timerP;exact Gr.ite (Gr.bind (gr_timer _ _) (Nat.le_refl _) (Nat.le_refl _) (fun _ => Gr.pure _)) (Gr.pure _)
theorem gr_tickL {L : Nat} (c : Int) : ∀ (ks : List ByteArray) (o : Int), (∀ k ∈ ks, k ≠ cProc) → Gr (tickL c ks o) L (2 * ks.length) 0
 | [], _, _ => Gr.pure _
 | k :: ks, _, h => by
  unfold tickL;simp only [List.length_cons];have h2 : ∀ x ∈ ks, x ≠ cProc := fun x hx => h x (List.mem_cons_of_mem _ hx);refine Gr.bind (gr_num _) (by omega) (by omega) (fun _ => ?_);refine Gr.ite ((gr_tickL c ks _ h2).mono (by omega) (by omega)) ?_;refine Gr.bind (gr_lay0 (h k List.mem_cons_self)) (by omega) (by omega) (fun _ => ?_);refine Gr.bind (gr_sendP _ _) (by omega) (by omega) (fun _ => ?_);exact (gr_tickL c ks _ h2).mono (by omega) (by omega)
theorem gr_underT {L n t : Nat} {α : Type} {g : List ByteArray → Pg α} (h : ∀ ks, ks.length ≤ L → (∀ k ∈ ks, k ≠ cProc) → Gr (g ks) L n t) : Gr (underP tHead >>= g) L n t := fun s hi hl => by
 show Inv ((g (keysU s tHead)).sem s).1 ∧ _;have hb : ∀ c ∈ s.filter (fun c => beginsB c.1 tHead), hd c.1 = some 116 := fun c hc => hd_begins (List.mem_filter.1 hc).2 rfl;refine h (keysU s tHead) ?_ (fun k hk => ?_) s hi hl
 ·refine Nat.le_trans ?_ hl;unfold keysU tN;rw [List.length_map];have e : s.filter (fun c => beginsB c.1 tHead) = (s.filter (fun c => beginsB c.1 tHead)).filter tPx := (List.filter_eq_self.2 (fun c hc => by unfold tPx; rw [hb c hc]; rfl)).symm;rw [e];exact (List.Sublist.filter tPx List.filter_sublist).length_le
 ·unfold keysU at hk;obtain ⟨y, hy, rfl⟩ := List.mem_map.1 hk;exact hd_ne (hb y hy) (by decide)
theorem gr_tickP {L : Nat} (n : Int) : Gr (tickP n) L (2 * L + 1) 0 := by
 unfold tickP;refine Gr.ite (Gr.pure _) ?_;refine Gr.bind (gr_num _) (by omega) (by omega) (fun _ => ?_);refine Gr.ite (Gr.pure _) ?_;refine Gr.bind (gr_set _ safe_clock) (by omega) (by omega) (fun _ => ?_);refine gr_underT (fun ks h1 h2 => ?_);refine Gr.bind ((gr_tickL _ ks 0 h2).mono (n' := 2 * L) (by omega) (Nat.le_refl _)) (by omega) (by omega) (fun _ => Gr.pure _)
theorem gr_storeP {L : Nat} (a b : Int) (t : ByteArray) : Gr (storeP a b t) L 1 0 := by
 unfold storeP;split
 ·rename_i h;rw [Bool.and_eq_true] at h;have hb := inB_iff.1 h.1;exact Gr.bind (gr_page _ _ _ (by omega) (by omega)) (Nat.le_refl _) (Nat.le_refl _) (fun _ => Gr.pure _)
 ·exact Gr.pure _
theorem gr_loadP {L : Nat} (a b : Int) : Gr (loadP a b) L (0) 0 := by
 unfold loadP
 repeat' first | with_reducible exact Gr.pure _ | with_reducible refine Gr.bind (gr_msg _) (by omega) (by omega) (fun _ => ?_) | with_reducible exact Gr.mono (gr_msg _) (by omega) (by omega) | with_reducible refine Gr.ite ?_ ?_
theorem digits_no {u : Nat} : ∀ x ∈ Lib.decDigits u, x ≠ 47 := by
 fun_induction Lib.decDigits u with
 | case1 u h =>
  intro x hx;obtain rfl := List.mem_singleton.1 hx;intro e;have := congrArg UInt8.toNat e;simp at this;omega
 | case2 u h ih =>
  intro x hx;rcases List.mem_append.1 hx with hx | hx
  ·exact ih x hx
  ·obtain rfl := List.mem_singleton.1 hx;intro e;have := congrArg UInt8.toNat e;simp at this;omega
theorem dec_no (n : Int) : ∀ x ∈ (decS n).data.toList, x ≠ 47 := by
 show ∀ x ∈ (Lib.itoa n).toArray.toList, x ≠ 47;rw [List.toList_toArray];unfold Lib.itoa;split
 ·intro x hx;rcases List.mem_cons.1 hx with rfl | hx
  ·decide
  ·exact digits_no x hx
 ·exact digits_no
theorem cut_eq {A I R S : List UInt8} (hA : ∀ x ∈ A, x ≠ 47) (hI : ∀ x ∈ I, x ≠ 47) (h : A ++ 47 :: R = I ++ 47 :: S) : A = I := by
 induction A generalizing I with
 | nil =>
  cases I with
  | nil => rfl
  | cons y ys =>
   injection h with h1 h2
   exact absurd h1.symm (hI y List.mem_cons_self)
 | cons x xs ih =>
  cases I with
  | nil =>
   injection h with h1 h2
   exact absurd h1 (hA x List.mem_cons_self)
  | cons y ys =>
   injection h with h1 h2
   rw [h1, ih (fun z hz => hA z (List.mem_cons_of_mem _ hz)) (fun z hz => hI z (List.mem_cons_of_mem _ hz)) h2]
theorem page_list (i k : Int) : (pageK i k).data.toList = 109 :: 47 :: ((decS i).data.toList ++ 47 :: (decS k).data.toList) := by
 unfold pageK pagesK keyNumS;simp [ByteArray.data_append]
theorem pages_list (i : Int) : (pagesK i).data.toList = 109 :: 47 :: ((decS i).data.toList ++ [47]) := by
 unfold pagesK keyNumS;simp [ByteArray.data_append]
theorem pages_same {i k a : Int} (h : beginsB (pageK i k) (pagesK a) = true) : decS i = decS a := by
 obtain ⟨t, e⟩ := begins_iff h;rw [page_list, pages_list] at e;have e2 : (decS a).data.toList ++ 47 :: t = (decS i).data.toList ++ 47 :: (decS k).data.toList := by simpa using e
 have e3 := cut_eq (dec_no a) (dec_no i) e2;exact (ByteArray.ext (Array.toList_inj.1 e3)).symm
theorem page_same {i k a : Int} (h : decS i = decS a) : pageK i k = pageK a k := by
 unfold pageK pagesK keyNumS;rw [h]
theorem nodup_le {α : Type} [DecidableEq α] {xs ys : List α} (h : xs.Nodup) (hs : ∀ x ∈ xs, x ∈ ys) : xs.length ≤ ys.length := by
 induction xs generalizing ys with
 | nil => exact Nat.zero_le _
 | cons x xs ih =>
  have h1 := List.nodup_cons.1 h;have hx := hs x List.mem_cons_self;have := ih (ys := ys.erase x) h1.2 (fun y hy => (List.mem_erase_of_ne (fun e => h1.1 (by rw [← e]; exact hy))).2 (hs y (List.mem_cons_of_mem _ hy)));rw [List.length_erase_of_mem hx] at this;have := List.length_pos_of_mem hx;simp only [List.length_cons];omega
theorem rising_nodup {s : Sto} (h : Rising s) : (s.map (·.1)).Nodup := by
 rw [List.nodup_iff_pairwise_ne, List.pairwise_map];exact List.Pairwise.imp (fun {a b} hab e => by rw [e, ltB_irr] at hab; cases hab) h
theorem gr_forkL {L : Nat} (a b : Int) : ∀ ks : List ByteArray, (∀ k ∈ ks, ∃ j : Int, 0 ≤ j ∧ j ≤ 3 ∧ k = pageK a j) → Gr (forkL (pagesK a) (pagesK b) ks) L ks.length 0
 | [], _ => Gr.pure _
 | k :: ks, h => by
  obtain ⟨j, h0, h1, rfl⟩ := h k List.mem_cons_self;have e : pagesK b ++ (pageK a j).extract (pagesK a).size (pageK a j).size = pageK b j := by
   have e1 : ∀ i : Int, pageK i j = pagesK i ++ decS j := fun i => by
    unfold pageK;rw [show keyNumS (pagesK i) j ⟨#[]⟩ = pagesK i ++ decS j ++ ⟨#[]⟩ from rfl];exact ByteArray.append_empty
   rw [e1 a, e1 b];congr 1;apply ByteArray.ext;apply Array.toList_inj.1;simp [ByteArray.data_extract, ByteArray.data_append];rw [List.drop_eq_nil_of_le (show (pagesK a).data.toList.length ≤ (pagesK a).size from Nat.le_of_eq Array.length_toList), List.take_nil, List.nil_append, List.take_of_length_le (show (decS j).data.toList.length ≤ (decS j).size from Nat.le_of_eq Array.length_toList)]
  refine gr_look (fun v => ?_);rw [e];exact Gr.bind (x := layP (pageK b j) v) (gr_page b j v h0 h1) (by simp) (Nat.le_refl _) (fun _ => (gr_forkL a b ks (fun x hx => h x (List.mem_cons_of_mem _ hx))).mono (by simp) (Nat.le_refl _))
theorem gr_forkP {L : Nat} (a b : Int) : Gr (forkP a b) L 4 0 := fun s hi hl => by
 show Inv ((forkL (pagesK a) (pagesK b) (keysU s (pagesK a))).sem s).1 ∧ _;have hk : ∀ k ∈ keysU s (pagesK a), ∃ j : Int, 0 ≤ j ∧ j ≤ 3 ∧ k = pageK a j := fun k hk => by
  unfold keysU at hk;obtain ⟨y, hy, rfl⟩ := List.mem_map.1 hk;obtain ⟨hy1, hy2⟩ := List.mem_filter.1 hy;obtain ⟨i, j, h0, h1, e⟩ := hi.p y hy1 (hd_begins hy2 (hd_pages a));refine ⟨j, h0, h1, ?_⟩;rw [e] at hy2 ⊢;exact page_same (pages_same hy2)
 have hlen : (keysU s (pagesK a)).length ≤ 4 := by
  have hn : (keysU s (pagesK a)).Nodup := List.Nodup.sublist (List.Sublist.map _ List.filter_sublist) (rising_nodup hi.r);exact nodup_le (ys := [pageK a 0, pageK a 1, pageK a 2, pageK a 3]) hn (fun k hk2 => by
   obtain ⟨j, h0, h1, rfl⟩ := hk k hk2;rcases (by omega : j = 0 ∨ j = 1 ∨ j = 2 ∨ j = 3) with rfl | rfl | rfl | rfl <;> (repeat (first | exact List.Mem.head _ | apply List.Mem.tail)))
 exact (gr_forkL a b _ hk).mono hlen (Nat.le_refl _) s hi hl
theorem gr_dropPagesP {L : Nat} (a : Int) : Gr (dropPagesP a) L (0) 0 := by
 unfold dropPagesP
 repeat' first | with_reducible exact Gr.pure _ | with_reducible refine Gr.bind (gr_wipe (by first | exact hd_file _ | exact hd_proc _ _ | exact hd_pages _) (by decide)) (by omega) (by omega) (fun _ => ?_) | with_reducible exact Gr.mono (gr_wipe (by first | exact hd_file _ | exact hd_proc _ _ | exact hd_pages _) (by decide)) (by omega) (by omega) | with_reducible refine Gr.ite ?_ ?_
theorem gr_putOutP {L : Nat} (t : ByteArray) : Gr (putOutP t) L (2) 0 := by
 unfold putOutP
 repeat' first | with_reducible exact Gr.pure _ | with_reducible refine Gr.bind (gr_lay0 (Safe.c (by first | exact safe_n _ | exact safe_links _ | exact safe_size _ | exact safe_block _ _ | exact safe_pipe _ _ | exact safe_pipeQ _ _ | exact safe_sig _ _ | exact safe_sigQ _ _ | exact safe_out _ | exact safe_dn | exact safe_proc _ _ | exact safe_clock))) (by omega) (by omega) (fun _ => ?_) | with_reducible exact Gr.mono (gr_lay0 (Safe.c (by first | exact safe_n _ | exact safe_links _ | exact safe_size _ | exact safe_block _ _ | exact safe_pipe _ _ | exact safe_pipeQ _ _ | exact safe_sig _ _ | exact safe_sigQ _ _ | exact safe_out _ | exact safe_dn | exact safe_proc _ _ | exact safe_clock))) (by omega) (by omega) | with_reducible refine Gr.bind (gr_lay _ (by first | exact safe_n _ | exact safe_links _ | exact safe_size _ | exact safe_block _ _ | exact safe_pipe _ _ | exact safe_pipeQ _ _ | exact safe_sig _ _ | exact safe_sigQ _ _ | exact safe_out _ | exact safe_dn | exact safe_proc _ _ | exact safe_clock)) (by omega) (by omega) (fun _ => ?_) | with_reducible exact Gr.mono (gr_lay _ (by first | exact safe_n _ | exact safe_links _ | exact safe_size _ | exact safe_block _ _ | exact safe_pipe _ _ | exact safe_pipeQ _ _ | exact safe_sig _ _ | exact safe_sigQ _ _ | exact safe_out _ | exact safe_dn | exact safe_proc _ _ | exact safe_clock)) (by omega) (by omega) | with_reducible refine Gr.bind (gr_num _) (by omega) (by omega) (fun _ => ?_) | with_reducible exact Gr.mono (gr_num _) (by omega) (by omega) | with_reducible refine Gr.bind (gr_set _ (by first | exact safe_n _ | exact safe_links _ | exact safe_size _ | exact safe_block _ _ | exact safe_pipe _ _ | exact safe_pipeQ _ _ | exact safe_sig _ _ | exact safe_sigQ _ _ | exact safe_out _ | exact safe_dn | exact safe_proc _ _ | exact safe_clock)) (by omega) (by omega) (fun _ => ?_) | with_reducible exact Gr.mono (gr_set _ (by first | exact safe_n _ | exact safe_links _ | exact safe_size _ | exact safe_block _ _ | exact safe_pipe _ _ | exact safe_pipeQ _ _ | exact safe_sig _ _ | exact safe_sigQ _ _ | exact safe_out _ | exact safe_dn | exact safe_proc _ _ | exact safe_clock)) (by omega) (by omega) | with_reducible refine Gr.ite ?_ ?_
theorem gr_fileP {L : Nat} (c : Cal) : Gr (fileP c) L (21) 0 := by
 unfold fileP
 repeat' first | with_reducible exact Gr.pure _ | with_reducible refine Gr.bind (gr_fileOfP _) (by omega) (by omega) (fun _ => ?_) | with_reducible exact Gr.mono (gr_fileOfP _) (by omega) (by omega) | with_reducible refine Gr.bind (gr_readP _ _ _) (by omega) (by omega) (fun _ => ?_) | with_reducible exact Gr.mono (gr_readP _ _ _) (by omega) (by omega) | with_reducible refine Gr.bind (gr_writeP _ _ _) (by omega) (by omega) (fun _ => ?_) | with_reducible exact Gr.mono (gr_writeP _ _ _) (by omega) (by omega) | with_reducible refine Gr.bind (gr_cutP _ _) (by omega) (by omega) (fun _ => ?_) | with_reducible exact Gr.mono (gr_cutP _ _) (by omega) (by omega) | with_reducible refine Gr.ite ?_ ?_
theorem gr_spawnAllP {L : Nat} (a : Int) : Gr (spawnAllP a) L (7) 0 := by
 unfold spawnAllP
 repeat' first | with_reducible exact Gr.pure _ | with_reducible refine Gr.bind (gr_spawnP _) (by omega) (by omega) (fun _ => ?_) | with_reducible exact Gr.mono (gr_spawnP _) (by omega) (by omega) | with_reducible refine Gr.bind (gr_forkP _ _) (by omega) (by omega) (fun _ => ?_) | with_reducible exact Gr.mono (gr_forkP _ _) (by omega) (by omega) | with_reducible refine Gr.ite ?_ ?_
theorem gr_endAllP {L : Nat} (a b : Int) : Gr (endAllP a b) L (2) 0 := by
 unfold endAllP
 repeat' first | with_reducible exact Gr.pure _ | with_reducible refine Gr.bind (gr_endP _ _) (by omega) (by omega) (fun _ => ?_) | with_reducible exact Gr.mono (gr_endP _ _) (by omega) (by omega) | with_reducible refine Gr.bind (gr_dropPagesP _) (by omega) (by omega) (fun _ => ?_) | with_reducible exact Gr.mono (gr_dropPagesP _) (by omega) (by omega) | with_reducible refine Gr.ite ?_ ?_
theorem gr_kindP {L : Nat} (p : Int) (c : Cal) : Gr (kindP p c) L (2 * L + 21) 1 := by
 unfold kindP
 repeat' first | with_reducible exact Gr.pure _ | with_reducible refine Gr.bind (gr_makeP _) (by omega) (by omega) (fun _ => ?_) | with_reducible exact Gr.mono (gr_makeP _) (by omega) (by omega) | with_reducible refine Gr.bind (gr_linkP _ _) (by omega) (by omega) (fun _ => ?_) | with_reducible exact Gr.mono (gr_linkP _ _) (by omega) (by omega) | with_reducible refine Gr.bind (gr_unlinkP _) (by omega) (by omega) (fun _ => ?_) | with_reducible exact Gr.mono (gr_unlinkP _) (by omega) (by omega) | with_reducible refine Gr.bind (gr_renameP _ _) (by omega) (by omega) (fun _ => ?_) | with_reducible exact Gr.mono (gr_renameP _ _) (by omega) (by omega) | with_reducible refine Gr.bind (gr_mkPipeP) (by omega) (by omega) (fun _ => ?_) | with_reducible exact Gr.mono (gr_mkPipeP) (by omega) (by omega) | with_reducible refine Gr.bind (gr_putPipeP _ _) (by omega) (by omega) (fun _ => ?_) | with_reducible exact Gr.mono (gr_putPipeP _ _) (by omega) (by omega) | with_reducible refine Gr.bind (gr_takePipeP _) (by omega) (by omega) (fun _ => ?_) | with_reducible exact Gr.mono (gr_takePipeP _) (by omega) (by omega) | with_reducible refine Gr.bind (gr_reapP _ _) (by omega) (by omega) (fun _ => ?_) | with_reducible exact Gr.mono (gr_reapP _ _) (by omega) (by omega) | with_reducible refine Gr.bind (gr_kidsP _) (by omega) (by omega) (fun _ => ?_) | with_reducible exact Gr.mono (gr_kidsP _) (by omega) (by omega) | with_reducible refine Gr.bind (gr_namesP) (by omega) (by omega) (fun _ => ?_) | with_reducible exact Gr.mono (gr_namesP) (by omega) (by omega) | with_reducible refine Gr.bind (gr_sendP _ _) (by omega) (by omega) (fun _ => ?_) | with_reducible exact Gr.mono (gr_sendP _ _) (by omega) (by omega) | with_reducible refine Gr.bind (gr_takeSigP _) (by omega) (by omega) (fun _ => ?_) | with_reducible exact Gr.mono (gr_takeSigP _) (by omega) (by omega) | with_reducible refine Gr.bind (gr_timerP _ _) (by omega) (by omega) (fun _ => ?_) | with_reducible exact Gr.mono (gr_timerP _ _) (by omega) (by omega) | with_reducible refine Gr.bind (gr_tickP _) (by omega) (by omega) (fun _ => ?_) | with_reducible exact Gr.mono (gr_tickP _) (by omega) (by omega) | with_reducible refine Gr.bind (gr_storeP _ _ _) (by omega) (by omega) (fun _ => ?_) | with_reducible exact Gr.mono (gr_storeP _ _ _) (by omega) (by omega) | with_reducible refine Gr.bind (gr_loadP _ _) (by omega) (by omega) (fun _ => ?_) | with_reducible exact Gr.mono (gr_loadP _ _) (by omega) (by omega) | with_reducible refine Gr.bind (gr_putOutP _) (by omega) (by omega) (fun _ => ?_) | with_reducible exact Gr.mono (gr_putOutP _) (by omega) (by omega) | with_reducible refine Gr.bind (gr_fileP _) (by omega) (by omega) (fun _ => ?_) | with_reducible exact Gr.mono (gr_fileP _) (by omega) (by omega) | with_reducible refine Gr.bind (gr_spawnAllP _) (by omega) (by omega) (fun _ => ?_) | with_reducible exact Gr.mono (gr_spawnAllP _) (by omega) (by omega) | with_reducible refine Gr.bind (gr_endAllP _ _) (by omega) (by omega) (fun _ => ?_) | with_reducible exact Gr.mono (gr_endAllP _ _) (by omega) (by omega) | with_reducible refine Gr.ite ?_ ?_
theorem gr_callP {L : Nat} (p : Int) (c : Cal) : Gr (callP p c) L (2 * L + 21) 1 := by
 unfold callP
 repeat' first | with_reducible exact Gr.pure _ | with_reducible refine Gr.bind (gr_stateP _) (by omega) (by omega) (fun _ => ?_) | with_reducible exact Gr.mono (gr_stateP _) (by omega) (by omega) | with_reducible refine Gr.bind (gr_kindP _ _) (by omega) (by omega) (fun _ => ?_) | with_reducible exact Gr.mono (gr_kindP _ _) (by omega) (by omega) | with_reducible refine Gr.ite ?_ ?_
theorem ok_put {s : Sto} (h : ∀ c ∈ s, cellOk c) (k v : ByteArray) : ∀ c ∈ putKeyS s k v, cellOk c := by
 intro c hc;by_cases hk : keyOkB k = false ∨ 60 < v.size
 ·rw [putKey_bad hk] at hc; exact h c hc
 ·rcases put_mem hc with hc | ⟨rfl, h0⟩
  ·exact h c hc
  ·rw [not_or] at hk;exact ⟨by simpa using hk.1, inB_yes (by dsimp only; omega) (by dsimp only; omega)⟩
theorem ok_sem {α : Type} (x : Pg α) : ∀ s : Sto, (∀ c ∈ s, cellOk c) → ∀ c ∈ (x.sem s).1, cellOk c := by
 induction x with
 | ret a => intro s h; exact h
 | look k f ih => intro s h; exact ih _ s h
 | lay k v f ih => intro s h; exact ih _ (ok_put h k v)
 | under p f ih => intro s h; exact ih _ s h
def Grown (n : Nat) (s : Sto) : Prop := Inv s ∧ s.length ≤ 3 + 45 * n ∧ tN s ≤ n ∧ ∀ c ∈ s, cellOk c
theorem Grown.call {n : Nat} {s : Sto} (h : Grown n s) (hn : n ≤ 12) (proc : Int) (c : Cal) : Grown (n + 1) ((callP proc c).sem s).1 := by
 obtain ⟨h1, h2, h3, h4⟩ := h;obtain ⟨a, b, d⟩ := gr_callP (L := n) proc c s h1 h3;exact ⟨a, by omega, by omega, ok_sem _ s h4⟩
theorem Grown.right {n : Nat} {s : Sto} (h : Grown n s) (hn : n ≤ 18) : storeOkB s = true := (storeOk_iff s).2 ⟨h.2.2.2, h.1.r, by have := h.2.1; omega⟩
theorem Grown.pos {n : Nat} {s : Sto} (h : Grown n s) : 0 < s.length := by
 obtain ⟨⟨_, _, ⟨x, hx, _⟩⟩, _⟩ := h;exact List.length_pos_of_mem hx
end Go.Proofs.YtihghflppegnmaaGreatDoor
namespace Go.Proofs.YtihghflppegnmaaGreatDoor
theorem numOf_dec {n : Int} (h1 : 1 ≤ n) (h2 : n ≤ 999) : numOfV (decS n) = n := by
 obtain ⟨k, rfl⟩ : ∃ k : Nat, n = (k : Int) := ⟨n.toNat, by omega⟩;have h := (read_yes (s := decS (k : Int)) (n := k) (numIs_of (by omega) rfl)).2;unfold numOfV;rw [h, if_neg (by omega)]
theorem numOf_empty : numOfV ⟨#[]⟩ = 0 := by
 have h := (read_no (s := ⟨#[]⟩) (fun n hn => by
  have h1 : (Lib.decDigits n).toArray = #[] := by
   have := numIs_dec hn;rw [decS_nat] at this;exact congrArg ByteArray.data this
  have h2 : Lib.decDigits n = [] := by simpa using h1
  rw [Lib.decDigits] at h2;split at h2 <;> simp at h2)).2
 unfold numOfV;rw [h]; rfl
end Go.Proofs.YtihghflppegnmaaGreatDoor
namespace Go.Proofs.YtihghflppegnmaaGreatDoor
open Go.RowKit
theorem num1 : numOfV (decS 1) = 1 := numOf_dec (by omega) (by omega)
theorem text1 : numText 1 = decS 1 := rfl
theorem text0 : numText 0 = ⟨#[]⟩ := rfl
theorem put_ins {s : Sto} {k v : ByteArray} (hk : keyOkB k = true) (hv : v.size ≤ 60) (h0 : 0 < v.size) : putKeyS s k v = insK (k, v) (delK s k) := by
 unfold putKeyS putV;rw [if_neg (by rw [hk]; simp; omega), if_neg (by omega)]
theorem put_del {s : Sto} {k : ByteArray} (hk : keyOkB k = true) : putKeyS s k noB = delK s k := by
 unfold putKeyS putV;rw [if_neg (fun h => by
  rcases h with h | h
  ·rw [hk] at h; cases h
  ·exact absurd h (by decide)), if_pos (show noB.size = 0 from rfl)]
theorem boot_is : bootS = [(cProc, decS 1), (procK 1 tS, decS 1)] := by
 unfold bootS;rw [(Pg.run_sem _ _).1];unfold spawnP;rw [Pg.sem_bind, sem_num, show numOfV (getKeyS [] cProc) = 0 from numOf_empty];dsimp only;rw [if_neg (by decide), Pg.sem_bind, sem_bump, show numOfV (getKeyS [] cProc) = 0 from numOf_empty, if_neg (by decide)];dsimp only;rw [show (0 : Int) + 1 = 1 from rfl, text1, show putKeyS [] cProc (decS 1) = [(cProc, decS 1)] from put_ins (by kernel_rfl) (Nat.le_of_ble_eq_true (by kernel_rfl)) (Nat.le_of_ble_eq_true (by kernel_rfl)), Pg.sem_bind, sem_set];dsimp only;rw [text1, show putKeyS [(cProc, decS 1)] (procK 1 tS) (decS 1) = [(cProc, decS 1), (procK 1 tS, decS 1)] from (put_ins (by kernel_rfl) (Nat.le_of_ble_eq_true (by kernel_rfl)) (Nat.le_of_ble_eq_true (by kernel_rfl))).trans (by kernel_rfl), Pg.sem_bind, sem_set];dsimp only;rw [text0, show (⟨#[]⟩ : ByteArray) = noB from rfl, put_del (by kernel_rfl)];kernel_rfl
def sto0 : Sto := [(cProc, decS 1), (procK 1 tS, decS 1)]
theorem big_no (a : Option Addr) (len cap : Nat) (w : World) (h : len ≤ 1048576) : Calls Tryz.prog 11 #[.slice a len cap] w fun e w' => e = .returned (.bool false) ∧ w = w' := by
 have p : ¬ (1048576 : Int) < (len : Int) := by omega
 go_enter Tryz.func11, Tryz.ntmps11;go_wp2;go_ret;exact ⟨by first | (simp; done) | (simp; omega), rfl⟩
theorem big_yes (a : Option Addr) (len cap : Nat) (w : World) (h : 1048576 < len) : Calls Tryz.prog 11 #[.slice a len cap] w fun e w' => e = .returned (.bool true) ∧ w = w' := by
 have p : (1048576 : Int) < (len : Int) := by omega
 go_enter Tryz.func11, Tryz.ntmps11;go_wp2;go_ret;exact ⟨by first | (simp; done) | (simp; omega), rfl⟩
theorem IsRow.below {k : IntKind} {w w' : World} {a : Option Addr} {len cap : Nat} {z : List Int} (h : IsRow k w a len cap z) (hb : Below w.heap.size w w') : IsRow k w' a len cap z :=
 ⟨h.1, h.2.1, h.2.2.1, h.2.2.2.1.below hb, h.2.2.2.2⟩
end Go.Proofs.YtihghflppegnmaaGreatDoor
