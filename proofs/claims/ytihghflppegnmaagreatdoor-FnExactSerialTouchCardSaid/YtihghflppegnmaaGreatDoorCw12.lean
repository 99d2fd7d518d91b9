/- Lemmas and contracts that the last text leans on, joined: RegB, ElemCall, ElemStep, SliceStep, SliceAnswer, RunI, SerI, L15, SerS, Grow, KeysIn. Conditions: as each theorem says. -/
import Derived.Test.YtihghflppegnmaaGreatDoorCw11
import Derived.Test.YtihghflppegnmaaGreatDoorProg
import Derived.WalkKit
import Derived.WalkSpells
import Derived.WalkLawsBesides
import Derived.Test.YtihghflppegnmaaGreatDoorCw1
import Derived.Lib.Hide
import Derived.Deep.RegionHeld3
import Derived.Deep.DrawnRows
import Derived.Test.YtihghflppegnmaaGreatDoorCw7
import Derived.Test.YtihghflppegnmaaGreatDoorCw8
import Derived.Deep.CutRange
import Derived.Test.YtihghflppegnmaaGreatDoorCw4
set_option linter.unusedSimpArgs false
set_option linter.unusedVariables false
namespace Go.Proofs.YtihghflppegnmaaGreatDoor
open Go Go.ChangeShapes Go.WideShapes Go.ChangeAt Go.RowKit
def vbz (z : Value) : Option Nat → Value
 | none => z
 | some b => ptr0 b
section
variable (P : Program) (ops : Array Oper) (Q : Exit → Act → World → Prop) (S : World → Prop) (p q tp tq : Nat) (Zp Zq : List Value) (z1 z2 : Value)
def GZ (B f : Nat) (l : Array Bool) (a : Act) (F : Nat → Prop) (Inv : World → Prop) : Prop :=
 ∀ (o1 o2 : Option Nat) (W : World), Inv W → (∀ k, F k → k < W.heap.size) → B ≤ W.heap.size → Made W B Zp F o1 → Made W B Zq F o2 → (∀ b, o1 = some b → o2 ≠ some b) → wpAnyY P .any ops Q S [] (f + need o1 + need o2) (mk2 l p q o1 o2) (pA a tp tq (vbz z1 o1) (vbz z2 o2)) W
end
section
variable {P : Program} {ops : Array Oper} {Q : Exit → Act → World → Prop} {S : World → Prop} {p q tp tq : Nat} {Zp Zq : List Value} {z1 z2 : Value} {Tp Tq : TypeId} {B f : Nat} {l : Array Bool} {a : Act} {F : Nat → Prop} {Inv : World → Prop}
theorem GZ.start (h : GZ P ops Q S p q tp tq Zp Zq z1 z2 B f l a F Inv) {W : World} (hI : Inv W) (hF : ∀ k, F k → k < W.heap.size) (hB : B ≤ W.heap.size) (ha : pA a tp tq z1 z2 = a) : wpAnyY P .any ops Q S [] (f + 1 + 1) l a W := by
 have := h none none W hI hF hB Made.none Made.none (fun b e => by cases e);rw [show pA a tp tq (vbz z1 none) (vbz z2 none) = a from ha] at this;exact this
theorem GZ.begin (T : TwoAl P ops Q p q tp tq Zp Zq Tp Tq) {W : World} (hI : Inv W) (hF : ∀ k, F k → k < W.heap.size) (hB : B ≤ W.heap.size) (h : TwoAl P ops Q p q tp tq Zp Zq Tp Tq → GZ P ops Q S p q tp tq Zp Zq z1 z2 B f l a F Inv) (ha : pA a tp tq z1 z2 = a := by rfl) : wpAnyY P .any ops Q S [] (f + 1 + 1) l a W := (h T).start hI hF hB ha
theorem GZ.build (T : TwoAl P ops Q p q tp tq Zp Zq Tp Tq) (hS : ∀ W, Inv W → S W) (hinv : ∀ W W', Inv W → Below W.heap.size W W' → Inv W') (c : List Nat)
 (hr : (((Region.ready .any ops l).all (fun i => i == p || i == q || c.contains i) && !(Region.ready .any ops l).isEmpty) && ((Region.ready .any ops (l.setIfInBounds p true)).all (fun i => i == q || c.contains i) && !(Region.ready .any ops (l.setIfInBounds p true)).isEmpty) && ((Region.ready .any ops (l.setIfInBounds q true)).all (fun i => i == p || c.contains i) && !(Region.ready .any ops (l.setIfInBounds q true)).isEmpty)) = true)
 (h11 : ∀ b1 b2 W, Inv W → (∀ k, F k → k < W.heap.size) → B ≤ W.heap.size → Made W B Zp F (some b1) → Made W B Zq F (some b2) → b1 ≠ b2 → wpAnyY P .any ops Q S [] f ((l.setIfInBounds p true).setIfInBounds q true) (pA a tp tq (ptr0 b1) (ptr0 b2)) W)
 (hc : ∀ i ∈ c, ∀ (o1 o2 : Option Nat) (n : Nat) (W : World), (o1 = none ∨ o2 = none) → n + 1 = f + need o1 + need o2 → Inv W → (∀ k, F k → k < W.heap.size) → B ≤ W.heap.size → Made W B Zp F o1 → Made W B Zq F o2 → (∀ b, o1 = some b → o2 ≠ some b) → wpOp P ops Q i (fun a' w' => (anyOf [] ((mk2 l p q o1 o2).setIfInBounds i true) = true ∨ S w') ∧ wpAnyY P .any ops Q S [] n ((mk2 l p q o1 o2).setIfInBounds i true) a' w') (pA a tp tq (vbz z1 o1) (vbz z2 o2)) W) :
 GZ P ops Q S p q tp tq Zp Zq z1 z2 B f l a F Inv := by
 simp only [Bool.and_eq_true, Bool.not_eq_true', List.all_eq_true, Bool.or_eq_true, beq_iff_eq, List.isEmpty_eq_false_iff] at hr;obtain ⟨⟨⟨r0, e0⟩, ⟨r1, e1⟩⟩, ⟨r2, e2⟩⟩ := hr;have h10 : ∀ b1 W, Inv W → (∀ k, F k → k < W.heap.size) → B ≤ W.heap.size → Made W B Zp F (some b1) → wpAnyY P .any ops Q S [] (f + 1) (l.setIfInBounds p true) (pA a tp tq (ptr0 b1) z2) W := fun b1 W hI hF hB m1 => by
  refine ⟨fun h => absurd h e1, fun i hi => ?_⟩;rcases r1 i hi with rfl | hci
  ·refine T.hq _ _ W ⟨.inr (hS _ (hinv _ _ hI (below_alloc _ _))), ?_⟩;rw [pA_q];exact h11 b1 W.heap.size _ (hinv _ _ hI (below_alloc _ _)) (fun k hk => Nat.lt_of_lt_of_le (hF k hk) (below_alloc W _).size) (Nat.le_trans hB (below_alloc W _).size) (m1.below (below_alloc _ _)) (made_new B Zq F Tq hF hB) (fun e => by have := ((m1.h b1 rfl).1).1; omega)
  ·exact hc i (by simpa using hci) (some b1) none f W (.inr rfl) (by simp [need]) hI hF hB m1 Made.none (fun b e => by simp)
 have h01 : ∀ b2 W, Inv W → (∀ k, F k → k < W.heap.size) → B ≤ W.heap.size → Made W B Zq F (some b2) → wpAnyY P .any ops Q S [] (f + 1) (l.setIfInBounds q true) (pA a tp tq z1 (ptr0 b2)) W := fun b2 W hI hF hB m2 => by
  refine ⟨fun h => absurd h e2, fun i hi => ?_⟩;rcases r2 i hi with rfl | hci
  ·refine T.hp _ _ W ⟨.inr (hS _ (hinv _ _ hI (below_alloc _ _))), ?_⟩;rw [pA_p T.tpq, set_comm _ (fun e => T.pq e.symm)];exact h11 W.heap.size b2 _ (hinv _ _ hI (below_alloc _ _)) (fun k hk => Nat.lt_of_lt_of_le (hF k hk) (below_alloc W _).size) (Nat.le_trans hB (below_alloc W _).size) (made_new B Zp F Tp hF hB) (m2.below (below_alloc _ _)) (fun e => by have := ((m2.h b2 rfl).1).1; omega)
  ·exact hc i (by simpa using hci) none (some b2) f W (.inl rfl) (by simp [need]) hI hF hB Made.none m2 (fun b e => by cases e)
 have h00 : ∀ W, Inv W → (∀ k, F k → k < W.heap.size) → B ≤ W.heap.size → wpAnyY P .any ops Q S [] (f + 1 + 1) l (pA a tp tq z1 z2) W := fun W hI hF hB => by
  refine ⟨fun h => absurd h e0, fun i hi => ?_⟩;rcases r0 i hi with (rfl | rfl) | hci
  ·refine T.hp _ _ W ⟨.inr (hS _ (hinv _ _ hI (below_alloc _ _))), ?_⟩;rw [pA_p T.tpq];exact h10 W.heap.size _ (hinv _ _ hI (below_alloc _ _)) (fun k hk => Nat.lt_of_lt_of_le (hF k hk) (below_alloc W _).size) (Nat.le_trans hB (below_alloc W _).size) (made_new B Zp F Tp hF hB)
  ·refine T.hq _ _ W ⟨.inr (hS _ (hinv _ _ hI (below_alloc _ _))), ?_⟩;rw [pA_q];exact h01 W.heap.size _ (hinv _ _ hI (below_alloc _ _)) (fun k hk => Nat.lt_of_lt_of_le (hF k hk) (below_alloc W _).size) (Nat.le_trans hB (below_alloc W _).size) (made_new B Zq F Tq hF hB)
  ·exact hc i (by simpa using hci) none none (f + 1) W (.inl rfl) (by simp [need]) hI hF hB Made.none Made.none (fun b e => by cases e)
 intro o1 o2 W hI hF hB m1 m2 hd;cases o1 with
 | none => cases o2 with
  | none => exact h00 W hI hF hB
  | some b2 => exact h01 b2 W hI hF hB m2
 | some b1 => cases o2 with
  | none => exact h10 b1 W hI hF hB m1
  | some b2 => exact h11 b1 b2 W hI hF hB m1 m2 (fun e => hd b1 rfl (by rw [e]))
theorem GZ.last (T : TwoAl P ops Q p q tp tq Zp Zq Tp Tq) (hS : ∀ W, Inv W → S W) (hinv : ∀ W W', Inv W → Below W.heap.size W W' → Inv W')
 (h11 : ∀ b1 b2 W, Inv W → Box W b1 Zp → Box W b2 Zq → B ≤ b1 → B ≤ b2 → ¬ F b1 → ¬ F b2 → b1 ≠ b2 → wpAnyY P .any ops Q S [] f ((l.setIfInBounds p true).setIfInBounds q true) (pA a tp tq (ptr0 b1) (ptr0 b2)) W)
 (hr : (((Region.ready .any ops l).all (fun i => i == p || i == q || ([] : List Nat).contains i) && !(Region.ready .any ops l).isEmpty) && ((Region.ready .any ops (l.setIfInBounds p true)).all (fun i => i == q || ([] : List Nat).contains i) && !(Region.ready .any ops (l.setIfInBounds p true)).isEmpty) && ((Region.ready .any ops (l.setIfInBounds q true)).all (fun i => i == p || ([] : List Nat).contains i) && !(Region.ready .any ops (l.setIfInBounds q true)).isEmpty)) = true := by kernel_rfl) :
 GZ P ops Q S p q tp tq Zp Zq z1 z2 B f l a F Inv :=
 GZ.build T hS hinv [] hr (fun b1 b2 W hI hF hB m1 m2 hd => by
  obtain ⟨x1, x2, x3⟩ := m1.h b1 rfl;obtain ⟨y1, y2, y3⟩ := m2.h b2 rfl;exact h11 b1 b2 W hI x1 y1 x2 y2 x3 y3 hd) (fun i hi => by simp at hi)
theorem GZ.call (T : TwoAl P ops Q p q tp tq Zp Zq Tp Tq) (hS : ∀ W, Inv W → S W) (hinv : ∀ W W', Inv W → Below W.heap.size W W' → Inv W') (c : Nat) {oc : Oper} {d : Nat} (Post : Value → World → Prop) (Own : Value → Nat → Prop)
 (hpost : ∀ u W W', Post u W → Below W.heap.size W W' → Post u W')
 (hcall : ∀ x y W, Inv W → ∀ K : Act → World → Prop, Shut (∀ u W', Below W.heap.size W W' → Post u W' → (∀ k, Own u k → W.heap.size ≤ k ∧ k < W'.heap.size) → K ((pA a tp tq x y).put (some d) u) W') → Oper.wp P oc (pA a tp tq x y) W K Q)
 (hnext : ∀ u, (∃ W, Post u W) → GZ P ops Q S p q tp tq Zp Zq z1 z2 B f (l.setIfInBounds c true) (a.put (some d) u) (fun k => F k ∨ Own u k) (fun W => Inv W ∧ Post u W))
 (hc : ops[c]? = some oc := by rfl) (hd : oc.dst = some d := by rfl) (hg : oc.guard = none := by rfl) (n1 : d ≠ tp := by decide) (n2 : d ≠ tq := by decide) (n3 : c ≠ p := by decide) (n4 : c ≠ q := by decide)
 (hr : ((((Region.ready .any ops l).all (fun i => i == p || i == q || [c].contains i) && !(Region.ready .any ops l).isEmpty) && ((Region.ready .any ops (l.setIfInBounds p true)).all (fun i => i == q || [c].contains i) && !(Region.ready .any ops (l.setIfInBounds p true)).isEmpty) && ((Region.ready .any ops (l.setIfInBounds q true)).all (fun i => i == p || [c].contains i) && !(Region.ready .any ops (l.setIfInBounds q true)).isEmpty)) && ((Region.ready .any ops ((l.setIfInBounds p true).setIfInBounds q true)).all (fun i => i == c) && !(Region.ready .any ops ((l.setIfInBounds p true).setIfInBounds q true)).isEmpty)) = true := by kernel_rfl) :
 GZ P ops Q S p q tp tq Zp Zq z1 z2 B (f + 1) l a F Inv := by
 rw [Bool.and_eq_true] at hr;obtain ⟨hr, hr2⟩ := hr;have step : ∀ (o1 o2 : Option Nat) (n : Nat) (W : World), n + 1 = f + 1 + need o1 + need o2 → Inv W → (∀ k, F k → k < W.heap.size) → B ≤ W.heap.size → Made W B Zp F o1 → Made W B Zq F o2 → (∀ b, o1 = some b → o2 ≠ some b) → wpOp P ops Q c (fun a' w' => (anyOf [] ((mk2 l p q o1 o2).setIfInBounds c true) = true ∨ S w') ∧ wpAnyY P .any ops Q S [] n ((mk2 l p q o1 o2).setIfInBounds c true) a' w') (pA a tp tq (vbz z1 o1) (vbz z2 o2)) W := by
  intro o1 o2 n W hn hI hF hB m1 m2 hdd;obtain rfl : n = f + need o1 + need o2 := by omega
  refine wpOp_step hc (fun K' hK => ?_);rw [if_pos (wanted_none hg _)];refine hcall _ _ W hI K' (fun u W' hb hp ho => hK _ _ ⟨.inr (hS _ (hinv _ _ hI hb)), ?_⟩);rw [pA_o n1 n2, mk_o n3 n4];refine hnext u ⟨W', hp⟩ o1 o2 W' ⟨hinv _ _ hI hb, hp⟩ (fun k hk => hk.elim (fun h => Nat.lt_of_lt_of_le (hF k h) hb.size) (fun h => (ho k h).2)) (Nat.le_trans hB hb.size) ⟨fun b e => ?_⟩ ⟨fun b e => ?_⟩ hdd
  ·obtain ⟨h1, h2, h3⟩ := m1.h b e;exact ⟨h1.below hb, h2, fun h => h.elim h3 (fun h => by have := (ho b h).1; have := h1.1; omega)⟩
  ·obtain ⟨h1, h2, h3⟩ := m2.h b e;exact ⟨h1.below hb, h2, fun h => h.elim h3 (fun h => by have := (ho b h).1; have := h1.1; omega)⟩
 refine GZ.build T hS hinv [c] hr (fun b1 b2 W hI hF hB m1 m2 hd12 => ?_) (fun i hi o1 o2 n W _ hn hI hF hB m1 m2 hdd => by
  obtain rfl := List.mem_singleton.1 hi;exact step o1 o2 n W hn hI hF hB m1 m2 hdd)
 simp only [Bool.and_eq_true, Bool.not_eq_true', List.all_eq_true, beq_iff_eq, List.isEmpty_eq_false_iff] at hr2;refine ⟨fun h => absurd h hr2.2, fun i hi => ?_⟩;obtain rfl := hr2.1 i hi;exact step (some b1) (some b2) f W (by simp [need]) hI hF hB m1 m2 (fun b e e2 => by cases e; cases e2; exact hd12 rfl)
theorem GZ.pure (hS : ∀ W, Inv W → S W) (i : Nat) {oi : Oper} {d : Nat} {v : Value} (hy : ∀ x y W, (execOp (pA a tp tq x y).eval oi).run P W = .ok (.value v) W)
 (h : GZ P ops Q S p q tp tq Zp Zq z1 z2 B f (l.setIfInBounds i true) (a.put (some d) v) F Inv) (hi : ops[i]? = some oi := by rfl) (hd : oi.dst = some d := by rfl) (hg : oi.guard = none := by rfl) (n1 : d ≠ tp := by decide) (n2 : d ≠ tq := by decide) (n3 : i ≠ p := by decide) (n4 : i ≠ q := by decide)
 (hs : Region.noSelect ops = true := by kernel_rfl) (hr : chk4 (fun l => Region.free .any ops l i && (Region.ready .any ops l).contains i) l p q = true := by kernel_rfl) (hQ : ∀ c a w, Q (.panic c) (a.put (some d) v) w → Q (.panic c) a w := by exact fun _ _ _ h => h) :
 GZ P ops Q S p q tp tq Zp Zq z1 z2 B (f + 1) l a F Inv := by
 intro o1 o2 W hI hF hB m1 m2 hdd;have hk := chk4_mk (o1 := o1) (o2 := o2) hr;rw [Bool.and_eq_true] at hk;have key := h o1 o2 W hI hF hB m1 m2 hdd;rw [← pA_o n1 n2, ← mk_o n3 n4] at key;rw [show f + 1 + need o1 + need o2 = (f + need o1 + need o2) + 1 by omega];rw [← hd] at key;exact wpAnyY_pure hi hs hk.1 hk.2 rfl (by rw [hd]; exact hQ) (Or.inl ⟨wanted_none hg _, fun w _ => hy _ _ w⟩) (Or.inr (hS _ hI)) key
theorem GZ.load (hS : ∀ W, Inv W → S W) (i : Nat) {oi : Oper} {d : Nat} {v : Value} (hy : ∀ x y W, S W → (execOp (pA a tp tq x y).eval oi).run P W = .ok (.value v) W)
 (h : GZ P ops Q S p q tp tq Zp Zq z1 z2 B f (l.setIfInBounds i true) (a.put (some d) v) F Inv) (hi : ops[i]? = some oi := by rfl) (hd : oi.dst = some d := by rfl) (hg : oi.guard = none := by rfl) (n1 : d ≠ tp := by decide) (n2 : d ≠ tq := by decide) (n3 : i ≠ p := by decide) (n4 : i ≠ q := by decide)
 (hs : Region.noSelect ops = true := by kernel_rfl) (hr : chk4 (fun l => Region.free .any ops l i && (Region.ready .any ops l).contains i && (closedB .any ops l && !(anyOf [] l))) l p q = true := by kernel_rfl) (hQ : ∀ c a w, Q (.panic c) (a.put (some d) v) w → Q (.panic c) a w := by exact fun _ _ _ h => h) :
 GZ P ops Q S p q tp tq Zp Zq z1 z2 B (f + 1) l a F Inv := by
 intro o1 o2 W hI hF hB m1 m2 hdd;have hk := chk4_mk (o1 := o1) (o2 := o2) hr;rw [Bool.and_eq_true, Bool.and_eq_true] at hk;have key := h o1 o2 W hI hF hB m1 m2 hdd;rw [← pA_o n1 n2, ← mk_o n3 n4] at key;rw [show f + 1 + need o1 + need o2 = (f + need o1 + need o2) + 1 by omega];rw [← hd] at key;exact wpAnyY_load 12 hi hs hk.1.1 hk.1.2 hk.2 (by rw [hd]; exact hQ) (Or.inl ⟨wanted_none hg _, fun w hw => hy _ _ w hw⟩) (hS _ hI) (fun _ => key)
end
end Go.Proofs.YtihghflppegnmaaGreatDoor
namespace Go.Proofs.YtihghflppegnmaaGreatDoor
open Go.RowKit
set_option maxHeartbeats 800000 in
theorem szCall_c (x : Cal) (left : Int) (l0 : 0 ≤ left) (l1 : left ≤ 1048576) (b0 : x.name.size ≤ maxLen) (b1 : x.dest.size ≤ maxLen) (b2 : x.text.size ≤ maxLen) (w : World) :
 Calls Tryz.prog 25 #[.agg #[.int .i64 x.kind, .string x.name, .string x.dest, .int .i64 x.a, .int .i64 x.b, .string x.text], .int .i64 left] w fun e w' => e = .returned (.int .i64 (szSub left (bulkCal x))) ∧ Below w.heap.size w w' := by
 unfold maxLen at b0 b1 b2;by_cases h1 : left < x.name.size
 ·have hs : szSub left (bulkCal x) = -1 := szSub_no (by unfold bulkCal; omega);have HS := Lib.hid hs;clear hs;go_enter Tryz.func25, Tryz.ntmps25;go_wp2;go_ret;exact ⟨by rw [HS.out]; rfl, (by repeat (first | exact Below.refl _ _ | assumption | refine Below.alloc ?_ (by simp <;> omega) _ | refine Below.setCell ?_ (by simp <;> omega) _ | refine Below.drew ?_))⟩
 ·skip
  by_cases h2 : left - x.name.size < x.dest.size
  ·have hs : szSub left (bulkCal x) = -1 := szSub_no (by unfold bulkCal; omega);have HS := Lib.hid hs;clear hs;go_enter Tryz.func25, Tryz.ntmps25;go_wp2;go_ret;exact ⟨by rw [HS.out]; rfl, (by repeat (first | exact Below.refl _ _ | assumption | refine Below.alloc ?_ (by simp <;> omega) _ | refine Below.setCell ?_ (by simp <;> omega) _ | refine Below.drew ?_))⟩
  ·skip
   by_cases h3 : left - x.name.size - x.dest.size < x.text.size
   ·have hs : szSub left (bulkCal x) = -1 := szSub_no (by unfold bulkCal; omega);have HS := Lib.hid hs;clear hs;go_enter Tryz.func25, Tryz.ntmps25;go_wp2;go_ret;exact ⟨by rw [HS.out]; rfl, (by repeat (first | exact Below.refl _ _ | assumption | refine Below.alloc ?_ (by simp <;> omega) _ | refine Below.setCell ?_ (by simp <;> omega) _ | refine Below.drew ?_))⟩
   ·have hs : szSub left (bulkCal x) = left - x.name.size - x.dest.size - x.text.size := by rw [szSub_yes (by unfold bulkCal; omega)]; unfold bulkCal; omega
    have HS := Lib.hid hs;clear hs;go_enter Tryz.func25, Tryz.ntmps25;go_wp2;go_ret;exact ⟨by rw [HS.out]; rfl, (by repeat (first | exact Below.refl _ _ | assumption | refine Below.alloc ?_ (by simp <;> omega) _ | refine Below.setCell ?_ (by simp <;> omega) _ | refine Below.drew ?_))⟩
set_option maxHeartbeats 1600000 in
theorem eqCall_c (x y : Cal) (w : World) :
 Calls Tryz.prog 151 #[.agg #[.int .i64 x.kind, .string x.name, .string x.dest, .int .i64 x.a, .int .i64 x.b, .string x.text], .agg #[.int .i64 y.kind, .string y.name, .string y.dest, .int .i64 y.a, .int .i64 y.b, .string y.text]] w fun e w' => e = .returned (.bool (same x y)) ∧ Below w.heap.size w w' := by
 obtain ⟨a0, a1, a2, a3, a4, a5⟩ := x;obtain ⟨c0, c1, c2, c3, c4, c5⟩ := y;dsimp only;by_cases h0 : a0 = c0
 rotate_left
 ·have hs : same (α := Cal) ⟨a0, a1, a2, a3, a4, a5⟩ ⟨c0, c1, c2, c3, c4, c5⟩ = false := same_ne (by simp [h0]);have HS := Lib.hid hs;have q1 : (a0 != c0) = true := by simp [h0]
  clear hs h0;go_enter Tryz.func151, Tryz.ntmps151;go_wp2;go_ret;exact ⟨by rw [HS.out]; rfl, (by repeat (first | exact Below.refl _ _ | assumption | refine Below.alloc ?_ (by simp <;> omega) _ | refine Below.setCell ?_ (by simp <;> omega) _ | refine Below.drew ?_))⟩
 subst h0;by_cases h1 : a1 = c1
 rotate_left
 ·have hs : same (α := Cal) ⟨a0, a1, a2, a3, a4, a5⟩ ⟨a0, c1, c2, c3, c4, c5⟩ = false := same_ne (by simp [h1]);have HS := Lib.hid hs;have q1 := toList_ne h1;have q2 := beq_toList_false h1;clear hs h1;go_enter Tryz.func151, Tryz.ntmps151;go_wp2;go_ret;exact ⟨by rw [HS.out]; rfl, (by repeat (first | exact Below.refl _ _ | assumption | refine Below.alloc ?_ (by simp <;> omega) _ | refine Below.setCell ?_ (by simp <;> omega) _ | refine Below.drew ?_))⟩
 subst h1;by_cases h2 : a2 = c2
 rotate_left
 ·have hs : same (α := Cal) ⟨a0, a1, a2, a3, a4, a5⟩ ⟨a0, a1, c2, c3, c4, c5⟩ = false := same_ne (by simp [h2]);have HS := Lib.hid hs;have q1 := toList_ne h2;have q2 := beq_toList_false h2;clear hs h2;go_enter Tryz.func151, Tryz.ntmps151;go_wp2;go_ret;exact ⟨by rw [HS.out]; rfl, (by repeat (first | exact Below.refl _ _ | assumption | refine Below.alloc ?_ (by simp <;> omega) _ | refine Below.setCell ?_ (by simp <;> omega) _ | refine Below.drew ?_))⟩
 subst h2;by_cases h3 : a3 = c3
 rotate_left
 ·have hs : same (α := Cal) ⟨a0, a1, a2, a3, a4, a5⟩ ⟨a0, a1, a2, c3, c4, c5⟩ = false := same_ne (by simp [h3]);have HS := Lib.hid hs;have q1 : (a3 != c3) = true := by simp [h3]
  clear hs h3;go_enter Tryz.func151, Tryz.ntmps151;go_wp2;go_ret;exact ⟨by rw [HS.out]; rfl, (by repeat (first | exact Below.refl _ _ | assumption | refine Below.alloc ?_ (by simp <;> omega) _ | refine Below.setCell ?_ (by simp <;> omega) _ | refine Below.drew ?_))⟩
 subst h3;by_cases h4 : a4 = c4
 rotate_left
 ·have hs : same (α := Cal) ⟨a0, a1, a2, a3, a4, a5⟩ ⟨a0, a1, a2, a3, c4, c5⟩ = false := same_ne (by simp [h4]);have HS := Lib.hid hs;have q1 : (a4 != c4) = true := by simp [h4]
  clear hs h4;go_enter Tryz.func151, Tryz.ntmps151;go_wp2;go_ret;exact ⟨by rw [HS.out]; rfl, (by repeat (first | exact Below.refl _ _ | assumption | refine Below.alloc ?_ (by simp <;> omega) _ | refine Below.setCell ?_ (by simp <;> omega) _ | refine Below.drew ?_))⟩
 subst h4;by_cases h5 : a5 = c5
 rotate_left
 ·have hs : same (α := Cal) ⟨a0, a1, a2, a3, a4, a5⟩ ⟨a0, a1, a2, a3, a4, c5⟩ = false := same_ne (by simp [h5]);have HS := Lib.hid hs;have q1 := toList_ne h5;have q2 := beq_toList_false h5;clear hs h5;go_enter Tryz.func151, Tryz.ntmps151;go_wp2;go_ret;exact ⟨by rw [HS.out]; rfl, (by repeat (first | exact Below.refl _ _ | assumption | refine Below.alloc ?_ (by simp <;> omega) _ | refine Below.setCell ?_ (by simp <;> omega) _ | refine Below.drew ?_))⟩
 subst h5;have hs := same_self (α := Cal) ⟨a0, a1, a2, a3, a4, a5⟩;have HS := Lib.hid hs;clear hs;go_enter Tryz.func151, Tryz.ntmps151;go_wp2;go_ret;exact ⟨by rw [HS.out]; rfl, (by repeat (first | exact Below.refl _ _ | assumption | refine Below.alloc ?_ (by simp <;> omega) _ | refine Below.setCell ?_ (by simp <;> omega) _ | refine Below.drew ?_))⟩
theorem toCall_w (x : Cal) (w : World) : Calls Tryz.prog 28 #[.agg #[.int .i64 x.kind, .string x.name, .string x.dest, .int .i64 x.a, .int .i64 x.b, .string x.text]] w fun e w' => e = .returned (.agg #[.int .i64 x.kind, .string x.name, .string x.dest, .int .i64 x.a, .int .i64 x.b, .string x.text]) ∧ ((w.alloc (.cells #[.int .i64 x.kind, .string x.name, .string x.dest, .int .i64 x.a, .int .i64 x.b, .string x.text] 52)).alloc (.cells #[.int .i64 x.kind, .string x.name, .string x.dest, .int .i64 x.a, .int .i64 x.b, .string x.text] 36)).alloc (.cells #[.int .i64 x.kind, .string x.name, .string x.dest, .int .i64 x.a, .int .i64 x.b, .string x.text] 36) = w' := by
 go_enter Tryz.func28, Tryz.ntmps28;go_wp2;exact bodyPost_ret (v := .agg #[.int .i64 x.kind, .string x.name, .string x.dest, .int .i64 x.a, .int .i64 x.b, .string x.text]) (by simp [results, Tryz.results28, go_sem]) rfl ⟨rfl, rfl⟩
set_option maxHeartbeats 1600000 in
theorem toStep_c (x : Stp) (w : World) : Calls Tryz.prog 91 #[.agg #[.int .i64 x.proc, .int .i64 x.call.kind, .string x.call.name, .string x.call.dest, .int .i64 x.call.a, .int .i64 x.call.b, .string x.call.text]] w fun e w' =>
 e = .returned (.agg #[.int .i64 x.proc, .int .i64 x.call.kind, .string x.call.name, .string x.call.dest, .int .i64 x.call.a, .int .i64 x.call.b, .string x.call.text]) ∧ Below w.heap.size w w' := by
 go_enter Tryz.func91, Tryz.ntmps91;go_wp2_with fail;refine (toCall_w x.call _).mono ?_;rintro e w1 ⟨rfl, rfl⟩;go_wp2;exact bodyPost_ret (v := .agg #[.int .i64 x.proc, .int .i64 x.call.kind, .string x.call.name, .string x.call.dest, .int .i64 x.call.a, .int .i64 x.call.b, .string x.call.text]) (by simp [results, Tryz.results91, go_sem]) rfl ⟨rfl, (by repeat (first | exact Below.refl _ _ | refine Below.drew ?_ | refine below_drewN ?_ _ | refine Below.allocC ?_ _ | refine Below.setCell ?_ (by first | (simp; done) | (simp; omega)) _ | refine Below.chain ?_ (by assumption)))⟩
set_option maxHeartbeats 1600000 in
theorem szStep_c (x : Stp) (left : Int) (l0 : 0 ≤ left) (l1 : left ≤ 1048576) (b0 : x.call.name.size ≤ maxLen) (b1 : x.call.dest.size ≤ maxLen) (b2 : x.call.text.size ≤ maxLen) (w : World) :
 Calls Tryz.prog 89 #[.agg #[.int .i64 x.proc, .int .i64 x.call.kind, .string x.call.name, .string x.call.dest, .int .i64 x.call.a, .int .i64 x.call.b, .string x.call.text], .int .i64 left] w fun e w' => e = .returned (.int .i64 (szSub left (bulkP x))) ∧ Below w.heap.size w w' := by
 by_cases h : left < (bulkCal x.call : Nat)
 ·have HS := Lib.hid (szSub_no h);have HT := Lib.hid (show szSub left (bulkP x) = -1 from szSub_no h);clear h;go_enter Tryz.func89, Tryz.ntmps89;go_wp2_with fail;refine (szCall_c x.call left l0 l1 b0 b1 b2 _).mono ?_;rintro e w1 ⟨rfl, hb1⟩;rw [HS.out];go_wp2;go_ret;exact ⟨by rw [HT.out]; rfl, (by repeat (first | exact Below.refl _ _ | refine Below.drew ?_ | refine below_drewN ?_ _ | refine Below.allocC ?_ _ | refine Below.setCell ?_ (by first | (simp; done) | (simp; omega)) _ | refine Below.chain ?_ (by assumption)))⟩
 ·have HS := Lib.hid (szSub_yes (left := left) (n := bulkCal x.call) (by omega));have HT := Lib.hid (show szSub left (bulkP x) = left - (bulkCal x.call : Nat) from szSub_yes (show ((bulkCal x.call : Nat) : Int) ≤ left by omega));go_enter Tryz.func89, Tryz.ntmps89;go_wp2_with fail;refine (szCall_c x.call left l0 l1 b0 b1 b2 _).mono ?_;rintro e w1 ⟨rfl, hb1⟩;rw [HS.out];go_wp2;go_ret;exact ⟨by rw [HT.out]; rfl, (by repeat (first | exact Below.refl _ _ | refine Below.drew ?_ | refine below_drewN ?_ _ | refine Below.allocC ?_ _ | refine Below.setCell ?_ (by first | (simp; done) | (simp; omega)) _ | refine Below.chain ?_ (by assumption)))⟩
set_option maxHeartbeats 1600000 in
theorem eqStep_c (x y : Stp) (w : World) :
 Calls Tryz.prog 93 #[.agg #[.int .i64 x.proc, .int .i64 x.call.kind, .string x.call.name, .string x.call.dest, .int .i64 x.call.a, .int .i64 x.call.b, .string x.call.text], .agg #[.int .i64 y.proc, .int .i64 y.call.kind, .string y.call.name, .string y.call.dest, .int .i64 y.call.a, .int .i64 y.call.b, .string y.call.text]] w fun e w' => e = .returned (.bool (same x y)) ∧ Below w.heap.size w w' := by
 obtain ⟨p, c⟩ := x;obtain ⟨q, d⟩ := y;dsimp only;by_cases h0 : p = q
 ·subst h0;have HS := Lib.hid (show same (Stp.mk p c) (Stp.mk p d) = same c d from same_congr (by simp));go_enter Tryz.func93, Tryz.ntmps93;go_wp2_with fail;refine (eqCall_c c d _).mono ?_;rintro e w1 ⟨rfl, hb1⟩;cases hcd : same c d
  ·go_wp2;go_ret;exact ⟨by rw [HS.out, hcd]; rfl, (by repeat (first | exact Below.refl _ _ | refine Below.drew ?_ | refine below_drewN ?_ _ | refine Below.allocC ?_ _ | refine Below.setCell ?_ (by first | (simp; done) | (simp; omega)) _ | refine Below.chain ?_ (by assumption)))⟩
  ·go_wp2;go_ret;exact ⟨by rw [HS.out, hcd]; rfl, (by repeat (first | exact Below.refl _ _ | refine Below.drew ?_ | refine below_drewN ?_ _ | refine Below.allocC ?_ _ | refine Below.setCell ?_ (by first | (simp; done) | (simp; omega)) _ | refine Below.chain ?_ (by assumption)))⟩
 ·have HS := Lib.hid (show same (Stp.mk p c) (Stp.mk q d) = false from same_ne (by simp [h0]));have q1 : (p != q) = true := by simp [h0]
  clear h0;go_enter Tryz.func93, Tryz.ntmps93;go_wp2;go_ret;exact ⟨by rw [HS.out]; rfl, (by repeat (first | exact Below.refl _ _ | refine Below.drew ?_ | refine below_drewN ?_ _ | refine Below.allocC ?_ _ | refine Below.setCell ?_ (by first | (simp; done) | (simp; omega)) _ | refine Below.chain ?_ (by assumption)))⟩
end Go.Proofs.YtihghflppegnmaaGreatDoor
namespace Go.Proofs.YtihghflppegnmaaGreatDoor
open Go.RowKit
attribute [local go_sem ↓] Go.wp_at_zero Go.wp_at_succ
theorem readStep {w wr : World} {a : Option Addr} {xs : List Stp} (hr : Reads w a 7 encStp xs) (hb : Below w.heap.size w wr) {k : Nat} {x : Stp} (hx : xs[k]? = some x) :
 ∃ b off, a = some ⟨b, off, none⟩ ∧ wr.cell? ⟨b, off + k * 7, none⟩ = some (.int .i64 x.proc) ∧ wr.cell? ⟨b, off + k * 7 + 1, none⟩ = some (.int .i64 x.call.kind) ∧ wr.cell? ⟨b, off + k * 7 + 2, none⟩ = some (.string x.call.name) ∧ wr.cell? ⟨b, off + k * 7 + 3, none⟩ = some (.string x.call.dest) ∧ wr.cell? ⟨b, off + k * 7 + 4, none⟩ = some (.int .i64 x.call.a) ∧ wr.cell? ⟨b, off + k * 7 + 5, none⟩ = some (.int .i64 x.call.b) ∧ wr.cell? ⟨b, off + k * 7 + 6, none⟩ = some (.string x.call.text) := by
 rcases hr.below hb with rfl | ⟨b, off, h1, _, h3⟩
 ·simp at hx
 ·exact ⟨b, off, h1, by simpa [Nat.add_assoc] using h3 k x hx 0 _ rfl, by simpa [Nat.add_assoc] using h3 k x hx 1 _ rfl, by simpa [Nat.add_assoc] using h3 k x hx 2 _ rfl, by simpa [Nat.add_assoc] using h3 k x hx 3 _ rfl, by simpa [Nat.add_assoc] using h3 k x hx 4 _ rfl, by simpa [Nat.add_assoc] using h3 k x hx 5 _ rfl, by simpa [Nat.add_assoc] using h3 k x hx 6 _ rfl⟩
set_option maxHeartbeats 1000000 in
theorem szStepS_c (a : Option Addr) (cap : Nat) (xs : List Stp) (left : Int) (l0 : 0 ≤ left) (l1 : left ≤ 1048576) (w : World) (hlen : xs.length ≤ maxLen) (hr : Reads w a 7 encStp xs) (hok : ∀ x ∈ xs, okStp x) :
 Calls Tryz.prog 50 #[.slice a xs.length cap, .int .i64 left] w fun e w' => e = .returned (.int .i64 (szSub left (bulkL bulkP xs))) ∧ Below w.heap.size w w' := by
 have HR := Lib.hid hr;have HO := Lib.hid hok;clear hr hok;unfold maxLen at hlen;by_cases h1 : left < xs.length
 ·have HS := Lib.hid (szSub_no (left := left) (n := bulkL bulkP xs) (by have := bulkL_ge bulkP xs; omega));clear HR HO;go_enter Tryz.func50, Tryz.ntmps50;go_wp2;go_ret;exact ⟨by rw [HS.out]; rfl, (by repeat (first | exact Below.refl _ _ | assumption | refine Below.alloc ?_ (by simp <;> omega) _ | refine Below.setCell ?_ (by simp <;> omega) _ | refine Below.drew ?_))⟩
 ·have h1' : (xs.length : Int) ≤ left := by omega
  clear h1;go_enter Tryz.func50, Tryz.ntmps50;go_wp2;go_loopw [1, 5] (fun l i wr => ∃ k : Nat, k ≤ xs.length ∧ i = .int .i64 k ∧ (bulkUp bulkP xs k : Int) ≤ left ∧ l = .int .i64 (left - bulkUp bulkP xs k) ∧ Below w.heap.size w wr) (fun _ i _ => xs.length - (intOf i).toNat)
  case atStart => exact ⟨0, Nat.zero_le _, rfl, by rw [bulkUp_zero]; exact h1', by rw [bulkUp_zero], (by repeat (first | exact Below.refl _ _ | assumption | refine Below.alloc ?_ (by simp <;> omega) _ | refine Below.setCell ?_ (by simp <;> omega) _ | refine Below.drew ?_))⟩
  case round =>
   obtain ⟨k, hk, rfl, hle, rfl, hb⟩ := hrel;by_cases hlt : k < xs.length
   ·obtain ⟨x, hx⟩ := some_of_lt hlt;obtain ⟨b, off, rfl, c0, c1, c2, c3, c4, c5, c6⟩ := readStep HR.out hb hx;have hokx := HO.out x (mem_of_some hx);by_cases hfit : (bulkP x : Int) ≤ left - bulkUp bulkP xs k
    ·have HY := Lib.hid (szSub_yes hfit);have HU := Lib.hid (bulkUp_succ (f := bulkP) hx);clear hx;go_wp2_with fail;refine (szStep_c x _ (by omega) (by omega) hokx.2.2.2.2.1 hokx.2.2.2.2.2.1 hokx.2.2.2.2.2.2 _).mono ?_;rintro e w2 ⟨rfl, hb2⟩;rw [HY.out];go_wp2;go_roundw
     case rel => exact ⟨k + 1, by omega, by go_num, by rw [HU.out]; omega, by rw [HU.out]; exact congrArg (Value.int .i64) (by omega), (by repeat (first | exact Below.refl _ _ | refine Below.drew ?_ | refine below_drewN ?_ _ | refine Below.allocC ?_ _ | refine Below.setCell ?_ (by first | (simp; done) | (simp; omega)) _ | refine Below.chain ?_ (by assumption)))⟩
     case measure => simp [intOf]; omega
    ·have HY := Lib.hid (szSub_no (left := left - bulkUp bulkP xs k) (n := bulkP x) (by omega));have HN := Lib.hid (szSub_no (left := left) (n := bulkL bulkP xs) (by have := bulkUp_succ (f := bulkP) hx; have := bulkUp_le bulkP xs (k + 1); omega));clear hx;go_wp2_with fail;refine (szStep_c x _ (by omega) (by omega) hokx.2.2.2.2.1 hokx.2.2.2.2.2.1 hokx.2.2.2.2.2.2 _).mono ?_;rintro e w2 ⟨rfl, hb2⟩;rw [HY.out];go_wp2;go_ret;exact ⟨by rw [HN.out]; rfl, (by repeat (first | exact Below.refl _ _ | refine Below.drew ?_ | refine below_drewN ?_ _ | refine Below.allocC ?_ _ | refine Below.setCell ?_ (by first | (simp; done) | (simp; omega)) _ | refine Below.chain ?_ (by assumption)))⟩
   ·have HS := Lib.hid (szSub_yes (left := left) (n := bulkL bulkP xs) (by rw [← bulkUp_end (k := k) (by omega)]; exact hle));have HE := Lib.hid (bulkUp_end (f := bulkP) (xs := xs) (k := k) (by omega));go_wp2;go_ret;exact ⟨by rw [HS.out, ← HE.out]; rfl, hb⟩
set_option maxHeartbeats 2000000 in
theorem eqStepS_c (a a2 : Option Addr) (cap cap2 : Nat) (xs ys : List Stp) (w : World) (hlen : xs.length ≤ maxLen) (hr : Reads w a 7 encStp xs) (hr2 : Reads w a2 7 encStp ys) :
 Calls Tryz.prog 54 #[.slice a xs.length cap, .slice a2 ys.length cap2] w fun e w' => e = .returned (.bool (same xs ys)) ∧ Below w.heap.size w w' := by
 have HR := Lib.hid hr;have HR2 := Lib.hid hr2;clear hr hr2;unfold maxLen at hlen;by_cases h1 : xs.length = ys.length
 ·have HE := Lib.hid h1;have hq : ((xs.length : Int) != (ys.length : Int)) = false := by simp [h1]
  have h1' : ys.length ≤ xs.length := by omega
  have h1'' : xs.length ≤ ys.length := by omega
  clear h1;go_enter Tryz.func54, Tryz.ntmps54;go_wp2;go_loopw [5] (fun i wr => ∃ k : Nat, k ≤ xs.length ∧ i = .int .i64 k ∧ upTo xs ys k ∧ Below w.heap.size w wr) (fun i _ => xs.length - (intOf i).toNat)
  case atStart => exact ⟨0, Nat.zero_le _, rfl, upTo_zero _ _, (by repeat (first | exact Below.refl _ _ | assumption | refine Below.alloc ?_ (by simp <;> omega) _ | refine Below.setCell ?_ (by simp <;> omega) _ | refine Below.drew ?_))⟩
  case round =>
   obtain ⟨k, hk, rfl, hup, hb⟩ := hrel;by_cases hlt : k < xs.length
   ·obtain ⟨x, hx⟩ := some_of_lt hlt;obtain ⟨y, hy⟩ := some_of_lt (xs := ys) (k := k) (by omega);obtain ⟨b, off, rfl, c0, c1, c2, c3, c4, c5, c6⟩ := readStep HR.out hb hx;obtain ⟨b2, off2, rfl, d0, d1, d2, d3, d4, d5, d6⟩ := readStep HR2.out hb hy;have p1 : (0 : Int) ≤ (k : Int) := by omega
    have p2 : (k : Int) < (xs.length : Int) := by omega
    have p3 : (k : Int) < (ys.length : Int) := by omega
    cases hxy : same x y
    ·have HN := Lib.hid (same_at hx hy hxy);clear hx hy;go_wp2_with fail;go_region_held3 (fun w' => w'.cell? ⟨b, off + k * 7, none⟩ = some (.int .i64 x.proc) ∧ w'.cell? ⟨b, off + k * 7 + 1, none⟩ = some (.int .i64 x.call.kind) ∧ w'.cell? ⟨b, off + k * 7 + 2, none⟩ = some (.string x.call.name) ∧ w'.cell? ⟨b, off + k * 7 + 3, none⟩ = some (.string x.call.dest) ∧ w'.cell? ⟨b, off + k * 7 + 4, none⟩ = some (.int .i64 x.call.a) ∧ w'.cell? ⟨b, off + k * 7 + 5, none⟩ = some (.int .i64 x.call.b) ∧ w'.cell? ⟨b, off + k * 7 + 6, none⟩ = some (.string x.call.text) ∧ w'.cell? ⟨b2, off2 + k * 7, none⟩ = some (.int .i64 y.proc) ∧ w'.cell? ⟨b2, off2 + k * 7 + 1, none⟩ = some (.int .i64 y.call.kind) ∧ w'.cell? ⟨b2, off2 + k * 7 + 2, none⟩ = some (.string y.call.name) ∧ w'.cell? ⟨b2, off2 + k * 7 + 3, none⟩ = some (.string y.call.dest) ∧ w'.cell? ⟨b2, off2 + k * 7 + 4, none⟩ = some (.int .i64 y.call.a) ∧ w'.cell? ⟨b2, off2 + k * 7 + 5, none⟩ = some (.int .i64 y.call.b) ∧ w'.cell? ⟨b2, off2 + k * 7 + 6, none⟩ = some (.string y.call.text)) ((go_split_ands; (repeat' apply And.intro) <;> first | assumption | exact keepS (by assumption) (by assumption)))
      (first | (go_at_call 93; refine (eqStep_c x y _).mono ?_; rintro e w' ⟨rfl, hb3⟩))
     try rw [hxy]
     go_wp2;go_ret;exact ⟨by rw [HN.out]; rfl, (by repeat (first | exact Below.refl _ _ | refine Below.drew ?_ | refine below_drewN ?_ _ | refine Below.allocC ?_ _ | refine Below.setCell ?_ (by first | (simp; done) | (simp; omega)) _ | refine Below.chain ?_ (by assumption)))⟩
    ·have hs := upTo_succ hup hx hy hxy;clear hx hy;go_wp2_with fail;go_region_held3 (fun w' => w'.cell? ⟨b, off + k * 7, none⟩ = some (.int .i64 x.proc) ∧ w'.cell? ⟨b, off + k * 7 + 1, none⟩ = some (.int .i64 x.call.kind) ∧ w'.cell? ⟨b, off + k * 7 + 2, none⟩ = some (.string x.call.name) ∧ w'.cell? ⟨b, off + k * 7 + 3, none⟩ = some (.string x.call.dest) ∧ w'.cell? ⟨b, off + k * 7 + 4, none⟩ = some (.int .i64 x.call.a) ∧ w'.cell? ⟨b, off + k * 7 + 5, none⟩ = some (.int .i64 x.call.b) ∧ w'.cell? ⟨b, off + k * 7 + 6, none⟩ = some (.string x.call.text) ∧ w'.cell? ⟨b2, off2 + k * 7, none⟩ = some (.int .i64 y.proc) ∧ w'.cell? ⟨b2, off2 + k * 7 + 1, none⟩ = some (.int .i64 y.call.kind) ∧ w'.cell? ⟨b2, off2 + k * 7 + 2, none⟩ = some (.string y.call.name) ∧ w'.cell? ⟨b2, off2 + k * 7 + 3, none⟩ = some (.string y.call.dest) ∧ w'.cell? ⟨b2, off2 + k * 7 + 4, none⟩ = some (.int .i64 y.call.a) ∧ w'.cell? ⟨b2, off2 + k * 7 + 5, none⟩ = some (.int .i64 y.call.b) ∧ w'.cell? ⟨b2, off2 + k * 7 + 6, none⟩ = some (.string y.call.text)) ((go_split_ands; (repeat' apply And.intro) <;> first | assumption | exact keepS (by assumption) (by assumption)))
      (first | (go_at_call 93; refine (eqStep_c x y _).mono ?_; rintro e w' ⟨rfl, hb3⟩))
     try rw [hxy]
     go_wp2;go_roundw
     case rel => exact ⟨k + 1, by omega, by go_num, hs, (by repeat (first | exact Below.refl _ _ | refine Below.drew ?_ | refine below_drewN ?_ _ | refine Below.allocC ?_ _ | refine Below.setCell ?_ (by first | (simp; done) | (simp; omega)) _ | refine Below.chain ?_ (by assumption)))⟩
     case measure => simp [intOf]; omega
   ·have HS := Lib.hid (same_end hup (by omega) (by omega));go_wp2;go_ret;exact ⟨by rw [HS.out]; rfl, hb⟩
 ·have HS := Lib.hid (same_len h1);have hq : ((xs.length : Int) != (ys.length : Int)) = true := by simp; omega
  clear h1;go_enter Tryz.func54, Tryz.ntmps54;go_wp2;go_ret;exact ⟨by rw [HS.out]; rfl, (by repeat (first | exact Below.refl _ _ | assumption | refine Below.alloc ?_ (by simp <;> omega) _ | refine Below.setCell ?_ (by simp <;> omega) _ | refine Below.drew ?_))⟩
theorem infoStep : (Tryz.prog.info? 45).map (fun i => (i.zero, i.size, i.bytes)) = some (some (.agg #[.int .i64 0, .int .i64 0, .string ⟨#[]⟩, .string ⟨#[]⟩, .int .i64 0, .int .i64 0, .string ⟨#[]⟩]), 7, 80) := by kernel_rfl
set_option maxHeartbeats 2000000 in
theorem toStepS_c (a : Option Addr) (cap : Nat) (xs : List Stp) (w : World) (hlen : xs.length ≤ 1048576) (hr : Reads w a 7 encStp xs) :
 Calls Tryz.prog 52 #[.slice a xs.length cap] w (Fresh 45 7 (xs.flatMap encStp) xs.length w) := by
 have HR := Lib.hid hr;clear hr;have hmk := make_eq (P := Tryz.prog) 41 45 7 80 _ Tryz.underlying41 infoStep xs.length (by omega) (by omega);go_enter Tryz.func52, Tryz.ntmps52;go_wp2;go_loopw [4] (fun i wr => ∃ k : Nat, k ≤ xs.length ∧ i = .int .i64 k ∧ Filling wr w.heap.size 45 7 xs.length ((xs.take k).flatMap encStp) ∧ Below w.heap.size w wr) (fun i _ => xs.length - (intOf i).toNat)
 case atStart => exact ⟨0, Nat.zero_le _, rfl, by simpa using Filling.made w _ _ 7 xs.length, (by repeat (first | exact Below.refl _ _ | refine Below.drew ?_ | refine below_drewN ?_ _ | refine Below.allocC ?_ _ | refine Below.setCell ?_ (by first | (simp; done) | (simp; omega)) _ | refine Below.chain ?_ (by assumption)))⟩
 case round =>
  obtain ⟨k, hk, rfl, F, hb⟩ := hrel;clear hmk;by_cases hlt : k < xs.length
  ·obtain ⟨x, hx⟩ := some_of_lt hlt;obtain ⟨b, off, rfl, c0, c1, c2, c3, c4, c5, c6⟩ := readStep HR.out hb hx;have hfm := Lib.hid (flatMap_snoc (enc := encStp) hx);have hdl : ((xs.take k).flatMap encStp).length = k * 7 := by rw [length_flatMap_const encStp_len, List.length_take, Nat.min_eq_left (by omega)]
   have HD := Lib.hid hdl;clear hx hdl;go_wp2_with fail;refine (toStep_c x _).mono ?_;rintro e w2 ⟨rfl, hb2'⟩;have hb2 := Below.chain hb hb2';have F2 := F.below hb2';have F3 := F2.stores [.int .i64 x.proc, .int .i64 x.call.kind, .string x.call.name, .string x.call.dest, .int .i64 x.call.a, .int .i64 x.call.b, .string x.call.text] (k * 7) HD.out.symm (by rw [HD.out]; simp; omega);have H3 := Lib.hid F3;have D2 := Lib.hid hb2;have hB := Lib.hid (below_of_grown (sets_grown [.int .i64 x.proc, .int .i64 x.call.kind, .string x.call.name, .string x.call.dest, .int .i64 x.call.a, .int .i64 x.call.b, .string x.call.text] w2 w.heap.size (k * 7)) (Nat.le_refl w.heap.size) hb2.size);have f0 := F2.free (k * 7);obtain ⟨o0, z0⟩ := F2.cell (k * 7) (by omega);have f1 := F2.free (k * 7 + 1);obtain ⟨o1, z1⟩ := F2.cell (k * 7 + 1) (by omega);have f2 := F2.free (k * 7 + 2);obtain ⟨o2, z2⟩ := F2.cell (k * 7 + 2) (by omega);have f3 := F2.free (k * 7 + 3);obtain ⟨o3, z3⟩ := F2.cell (k * 7 + 3) (by omega);have f4 := F2.free (k * 7 + 4);obtain ⟨o4, z4⟩ := F2.cell (k * 7 + 4) (by omega);have f5 := F2.free (k * 7 + 5);obtain ⟨o5, z5⟩ := F2.cell (k * 7 + 5) (by omega);have f6 := F2.free (k * 7 + 6);obtain ⟨o6, z6⟩ := F2.cell (k * 7 + 6) (by omega);clear F F2 F3;go_wp2;go_roundw
   case rel => exact ⟨k + 1, by omega, by go_num, by rw [hfm.out]; exact H3.out, D2.out.trans hB.out⟩
   case measure => simp [intOf]; omega
  ·have hd : (xs.take k).flatMap encStp = xs.flatMap encStp := by rw [List.take_of_length_le (by omega)]
   rw [hd] at F;have hO := Lib.hid (F.owns (base := w.heap.size) (length_flatMap_const encStp_len xs) (Nat.le_refl _) (by unfold maxLen; omega));clear F hd;go_wp2;go_ret;exact ⟨_, rfl, hO.out, hb⟩
theorem infoAnswer : (Tryz.prog.info? 28).map (fun i => (i.zero, i.size, i.bytes)) = some (some (.agg #[.int .i64 0, .int .i64 0, .string ⟨#[]⟩]), 3, 32) := by kernel_rfl
end Go.Proofs.YtihghflppegnmaaGreatDoor
namespace Go.Proofs.YtihghflppegnmaaGreatDoor
open Go.ChangeShapes Go.WideShapes Go.ChangeAt Go.RowKit
attribute [local go_sem ↓] Go.wp_at_zero Go.wp_at_succ
theorem encA_one (x : Ans) : ∀ u ∈ encA x, u.oneCell' = true := by
 intro u hu;simp only [encA, List.mem_cons, List.not_mem_nil, or_false] at hu;rcases hu with rfl | rfl | rfl <;> rfl
def StpsOk (xs : List Stp) : Prop := ∀ x ∈ xs, I64 x.proc ∧ COk x.call
def MAnss (p base : Nat) (v1 v2 v3 : Value) (m' : Mch) (ns : List Ans) (w : World) (e : Ending) (w' : World) : Prop :=
 ∃ u1 u2 u3 a c, e = .returned (.slice a ns.length c) ∧ RAt 28 3 encA p base v1 v2 v3 w w' u1 u2 u3 m' (.slice a ns.length c) ns
set_option maxRecDepth 100000 in
set_option maxHeartbeats 8000000 in
theorem pRun_c (p base : Nat) (v1 v2 v3 : Value) (m : Mch) (xs : List Stp) (a : Option Addr) (cap : Nat) (w : World) (h : MAt w p base v1 v2 v3 m) (hr : ∀ W, Below base w W → Reads W a 7 encStp xs) (hok : StpsOk xs) (hb : ∀ k, k ≤ xs.length → MOk 100000000000 (runI (xs.take k) m).1) (hl : xs.length ≤ 1048576) (HT : ∀ W, Below base w W → Tabs W) :
 Calls Tryz.prog 81 #[.pointer (some ⟨p, 0, none⟩), .slice a xs.length cap] w (MAnss p base v1 v2 v3 (runI xs m).1 (runI xs m).2 w) := by
 obtain ⟨i0, hi0, hzz⟩ := Option.map_eq_some_iff.1 infoAnswer;simp only [Prod.mk.injEq] at hzz;have HI := Lib.hid hi0;have HZ := Lib.hid hzz;clear hi0 hzz;have J0 := Lib.hid (JAt.first h);have HR := Lib.hid (fun W u1 u2 u3 k (d : JAt p base v1 v2 v3 w W u1 u2 u3 k) => hr W (d.bel h));have HTT := Lib.hid (fun W u1 u2 u3 k (d : JAt p base v1 v2 v3 w W u1 u2 u3 k) W' (hW : Below base W W') => HT W' ((d.bel h).trans hW));have HB := Lib.hid hb;have HOK := Lib.hid hok;clear h hr hb hok HT;go_enter Tryz.func81, Tryz.ntmps81;go_wp2_with fail;go_loopw [5, 10] (fun v i wr => ∃ k : Nat, k ≤ xs.length ∧ i = .int .i64 k ∧ Hid (∃ y1 y2 y3, RAt 28 3 encA p base v1 v2 v3 w wr y1 y2 y3 (runI (xs.take k) m).1 v (runI (xs.take k) m).2)) (fun _ i _ => xs.length - (intOf i).toNat)
 case atStart => exact ⟨0, Nat.zero_le _, rfl, Lib.hid ⟨_, _, _, RAt.first J0.out⟩⟩
 case round =>
  obtain ⟨k, hk, rfl, HI0⟩ := hrel;obtain ⟨y1, y2, y3, hL⟩ := HI0.out;have HL := Lib.hid hL;clear hL HI0 J0;have hlk : (runI (xs.take k) m).2.length = k := by
   have h := runI_len (xs.take k) (m, []);have h2 : (xs.take k).length = k := by rw [List.length_take, Nat.min_eq_left hk]
   rw [h2] at h;exact h.trans (by simp)
  have HO := Lib.hid (HB.out k hk);by_cases hlt : k < xs.length
  ·obtain ⟨x, hx⟩ := some_of_lt hlt;obtain ⟨b, off, hab, c0, c1, c2, c3, c4, c5, c6⟩ := readStep (HR.out _ _ _ _ _ HL.out.j) (Below.refl _ _) hx;subst hab;have p1 : (0 : Int) ≤ (k : Int) := by omega
   have p2 : (k : Int) < (xs.length : Int) := by omega
   obtain ⟨sp, sc⟩ := HOK.out x (List.mem_of_getElem? hx);obtain ⟨m2, an, F⟩ : ∃ aa bb, (callP x.proc x.call).run (runI (xs.take k) m).1 = (aa, bb) := ⟨_, _, rfl⟩;have HS := Lib.hid (show runI (xs.take (k + 1)) m = (m2, (runI (xs.take k) m).2 ++ [an]) from by rw [take_snoc_of hx, runI_snoc]; unfold stepI; rw [F]);obtain ⟨mk, hmk⟩ : ∃ mk, (runI (xs.take k) m).1 = mk := ⟨_, rfl⟩;obtain ⟨ol, hol⟩ : ∃ ol, (runI (xs.take k) m).2 = ol := ⟨_, rfl⟩;rw [hol] at hlk HS HL;rw [hmk] at HL HO F;have HX := Lib.hid hx;obtain ⟨W1, hW1⟩ : ∃ W1, W1 = wr.alloc (.cells #[.int .i64 x.proc, .int .i64 x.call.kind, .string x.call.name, .string x.call.dest, .int .i64 x.call.a, .int .i64 x.call.b, .string x.call.text] 45) := ⟨_, rfl⟩;have H1 := Lib.hid (HL.out.below (show Below wr.heap.size wr W1 from by rw [hW1]; exact (by repeat (first | exact Below.refl _ _ | refine Below.drew ?_ | refine below_drewN ?_ _ | refine Below.allocC ?_ _ | refine Below.setCell ?_ (by first | (simp; done) | (simp; omega)) _ | refine Below.chain ?_ (by assumption)))));have KD := Lib.hid (pDo_c p base y1 y2 y3 mk m2 an x.proc x.call W1 H1.out.j.at_ HO.out sp sc (fun X hX => HTT.out _ _ _ _ _ H1.out.j X hX) F);rw [hW1] at H1 KD;clear hmk hol F hx hlt HO HL sp sc hW1;go_wp2_with fail;refine KD.out.mono ?_;rintro e w2 ⟨r1, r2, r3, rfl, hm, hg, q1, q2, q3⟩;have KA := Lib.hid (H1.out.next hm hg q1 q2 q3);have hszk := KA.out.j.gr.size;clear hm hg q1 q2 q3 H1 KD c0 c1 c2 c3 c4 c5 c6;go_wp2_with (at_builtin; refine wpList_append_own2 _ rfl _ _ 61 rfl w.heap.size 28 i0 _ 3 32 Tryz.underlying61 HI.out HZ.out.1 HZ.out.2.1 HZ.out.2.2 rfl (by decide) _ _ _ rfl (KA.out.o.alloc _) ⟨w2.heap.size, 0, none⟩ 1 1 (encA an) rfl rfl (box_news (Box.new _ (encA an) _)) (encA_one an) (by unfold maxLen; omega) (by omega) (by simp; omega) ?_);intro v' w' o2 g2 or2;have HN := Lib.hid (RAt.app (ol2 := ol ++ [an]) (KA.out.below (show Below w2.heap.size w2 (w2.alloc (.cells (encA an).toArray 28)) from (by repeat (first | exact Below.refl _ _ | refine Below.drew ?_ | refine below_drewN ?_ _ | refine Below.allocC ?_ _ | refine Below.setCell ?_ (by first | (simp; done) | (simp; omega)) _ | refine Below.chain ?_ (by assumption))))) g2 or2 (by rw [List.length_append, List.flatMap_append, hlk]; exact (by simpa using o2)));clear o2 g2 or2 KA;go_wp2;go_roundw
   case rel => exact ⟨k + 1, by omega, by go_num, Lib.hid ⟨r1, r2, r3, by rw [HS.out]; exact HN.out⟩⟩
   case measure => simp [intOf]; omega
  ·obtain rfl : k = xs.length := by omega
   have p2 : ¬ ((xs.length : Nat) : Int) < (xs.length : Int) := by omega
   rw [List.take_length] at HL hlk;obtain ⟨ao, co, hvo, _⟩ := reads_of_owns (enc := encA) (K := 3) encA_len HL.out.o;subst hvo;have HEND := Lib.hid (show MAnss p base v1 v2 v3 (runI xs m).1 (runI xs m).2 w (.returned (.slice ao (runI xs m).2.length co)) wr from ⟨_, _, _, ao, co, rfl, HL.out⟩);clear HL HO hlk;go_wp2;go_ret;exact HEND.out
def TRet (m' : Mch) (w : World) (e : Ending) (w' : World) : Prop :=
 ∃ u2 u3, e = .returned (.agg #[u2, u3]) ∧ Below w.heap.size w w' ∧ w'.ownsRow w.heap.size 9 1 u2 m'.rs.length (m'.rs.flatMap encS) ∧ w'.ownsRow w.heap.size 9 1 u3 m'.ws.length (m'.ws.flatMap encS) ∧ (∀ k, u2.ownBlock = some k → u3.ownBlock ≠ some k)
def RunOk (ss : List Stp) (xs : Sto) : Prop := xs.length ≤ 1048576 ∧ ss.length ≤ 1048576 ∧ StpsOk ss ∧ ∀ k, k ≤ ss.length → MOk 100000000000 (runI (ss.take k) ⟨xs, [], []⟩).1
set_option maxRecDepth 100000 in
set_option maxHeartbeats 8000000 in
theorem touchI_c (a a2 : Option Addr) (cap cap2 : Nat) (xs : Sto) (ss : List Stp) (w : World) (hr : Reads w a 2 encC xs) (hr2 : Reads w a2 7 encStp ss) (ho : RunOk ss xs) (HT : ∀ W, Below w.heap.size w W → Tabs W) :
 Calls Tryz.prog 39 #[.slice a xs.length cap, .slice a2 ss.length cap2] w (TRet (runI ss ⟨xs, [], []⟩).1 w) := by
 obtain ⟨W0, hW0⟩ : ∃ W0, W0 = w.alloc (.cells #[.slice none 0 0, .slice none 0 0] 31) := ⟨_, rfl⟩;have HB0 := Lib.hid (show Below w.heap.size w W0 from by subst hW0; exact (by repeat (first | exact Below.refl _ _ | refine Below.drew ?_ | refine below_drewN ?_ _ | refine Below.allocC ?_ _ | refine Below.setCell ?_ (by first | (simp; done) | (simp; omega)) _ | refine Below.chain ?_ (by assumption))));have T0 := Lib.hid (show Box W0 w.heap.size [.slice none 0 0, .slice none 0 0] from by subst hW0; exact Box.new w _ _);have hs0 : W0.heap.size = w.heap.size + 1 := by subst hW0; simp
 have KM := Lib.hid (implMachOf_c a cap xs W0 (Nat.le_trans ho.1 (by decide)) (hr.below HB0.out));have HR2 := Lib.hid hr2;have HO := Lib.hid ho;have HTT := Lib.hid HT;clear hr hr2 ho HT;go_enter Tryz.func39, Tryz.ntmps39;go_upto_region 1 with fail;rw [← hW0];clear hW0;go_wp2_with fail;refine KM.out.mono ?_;rintro e w1 ⟨v, rfl, ho1, hb1⟩;obtain ⟨av, cv, hv, _⟩ := reads_of_owns encC_len ho1;subst hv;obtain ⟨W1, hW1⟩ : ∃ W1, W1 = w1.alloc (.cells #[.slice av xs.length cv, .slice none 0 0, .slice none 0 0] 87) := ⟨_, rfl⟩;have hB1 : Below w1.heap.size w1 W1 := by subst hW1; exact (by repeat (first | exact Below.refl _ _ | refine Below.drew ?_ | refine below_drewN ?_ _ | refine Below.allocC ?_ _ | refine Below.setCell ?_ (by first | (simp; done) | (simp; omega)) _ | refine Below.chain ?_ (by assumption)))
 have M1 := mach_at (base := W0.heap.size) hb1.size (ownsRow_base ho1 (Nat.le_succ _)) hW1;have HB1 := Lib.hid (hb1.trans (hB1.mono hb1.size));have HBW := Lib.hid (HB0.out.trans (HB1.out.mono HB0.out.size));have KR := Lib.hid (pRun_c w1.heap.size W0.heap.size _ _ _ ⟨xs, [], []⟩ ss a2 cap2 W1 M1 (fun W hW => HR2.out.below (HBW.out.trans (hW.mono HB0.out.size))) HO.out.2.2.1 HO.out.2.2.2 HO.out.2.1 (fun X hX => HTT.out X (HBW.out.trans (hX.mono HB0.out.size))));have HM1 := Lib.hid M1;subst hW1;clear ho1 hb1 hB1 KM M1;go_wp2_with fail;refine KR.out.mono ?_;rintro e w2 ⟨u1, u2, u3, ao, co, rfl, hR⟩;obtain ⟨ax2, kx2, hx2, _⟩ := reads_of_owns encS_len hR.j.at_.o2;obtain ⟨ax3, kx3, hx3, _⟩ := reads_of_owns encS_len hR.j.at_.o3;subst hx2 hx3;have c1 := hR.j.at_.box.cell 1 _ rfl;have c2 := hR.j.at_.box.cell 2 _ rfl;have HB2 := Lib.hid (HB1.out.trans (hR.j.bel HM1.out));have T2 := T0.out.below HB2.out;have t0 := T2.cell 0 _ rfl;have t1 := T2.cell 1 _ rfl;have f0 := T2.free 0;have f1 := T2.free 1;have g1 := hR.j.at_.o2.lt;have g2 := hR.j.at_.o3.lt;have far : ∀ (T K n : Nat) (u : Value) (cs : List Value) (X Y : Value), w2.ownsRow W0.heap.size T K u n cs → ((w2.setCell ⟨w.heap.size, 0, none⟩ X).setCell ⟨w.heap.size, 1, none⟩ Y).ownsRow w.heap.size T K u n cs := fun T K n u cs X Y h => by
  have n1 : u.ownBlock = none ∨ u.ownBlock ≠ some w.heap.size := .inr (fun e => by have := (h.lt _ e).1; omega);exact ownsRow_base ((h.kept (grownBy_setCell w2 w.heap.size 0 X) n1).kept (grownBy_setCell _ w.heap.size 1 Y) n1) HB0.out.size
 have HEND := Lib.hid (show TRet (runI ss ⟨xs, [], []⟩).1 w (.returned (.agg #[.slice ax2 (runI ss ⟨xs, [], []⟩).1.rs.length kx2, .slice ax3 (runI ss ⟨xs, [], []⟩).1.ws.length kx3])) ((w2.setCell ⟨w.heap.size, 0, none⟩ (.slice ax2 (runI ss ⟨xs, [], []⟩).1.rs.length kx2)).setCell ⟨w.heap.size, 1, none⟩ (.slice ax3 (runI ss ⟨xs, [], []⟩).1.ws.length kx3)) from
  ⟨_, _, rfl, Below.setCell (p := ⟨w.heap.size, 1, none⟩) (Below.setCell (p := ⟨w.heap.size, 0, none⟩) (HB0.out.trans (HB2.out.mono HB0.out.size)) (Nat.le_refl _) (.slice ax2 (runI ss ⟨xs, [], []⟩).1.rs.length kx2)) (Nat.le_refl _) (.slice ax3 (runI ss ⟨xs, [], []⟩).1.ws.length kx3), far _ _ _ _ _ _ _ hR.j.at_.o2, far _ _ _ _ _ _ _ hR.j.at_.o3, hR.j.at_.d23⟩)
 clear hR KR HM1 HB1 HB2 T2 far g1 g2 T0;go_wp2;exact bodyPost_ret (v := .agg #[.slice ax2 (runI ss ⟨xs, [], []⟩).1.rs.length kx2, .slice ax3 (runI ss ⟨xs, [], []⟩).1.ws.length kx3]) (by simp [results, Tryz.results39, go_sem, *]) rfl HEND.out
structure LR (base b8 : Nat) (v0 v7 v1 v2 : Value) (m : Mch) (ns : List Ans) (W : World) : Prop where
 x : Box W b8 [v1, v2]
 hb : base ≤ b8
 o0 : W.ownsRow base 99 2 v0 m.st.length (m.st.flatMap encC)
 o7 : W.ownsRow base 28 3 v7 ns.length (ns.flatMap encA)
 o1 : W.ownsRow base 9 1 v1 m.rs.length (m.rs.flatMap encS)
 o2 : W.ownsRow base 9 1 v2 m.ws.length (m.ws.flatMap encS)
 n0 : v0.ownBlock ≠ some b8
 n7 : v7.ownBlock ≠ some b8
 n1 : v1.ownBlock ≠ some b8
 n2 : v2.ownBlock ≠ some b8
 d0 : Apart v7.ownBlock v0.ownBlock
 d1 : Apart v7.ownBlock v1.ownBlock
 d2 : Apart v7.ownBlock v2.ownBlock
section
variable {base b8 : Nat} {v0 v7 v1 v2 v7' u u1 u2 : Value} {m : Mch} {ns ns2 : List Ans} {W W' : World}
theorem LR.below (h : LR base b8 v0 v7 v1 v2 m ns W) (hb : Below W.heap.size W W') : LR base b8 v0 v7 v1 v2 m ns W' :=
 ⟨h.x.below hb, h.hb, ownsRow_below h.o0 hb, ownsRow_below h.o7 hb, ownsRow_below h.o1 hb, ownsRow_below h.o2 hb, h.n0, h.n7, h.n1, h.n2, h.d0, h.d1, h.d2⟩
theorem own_apart {B T K n : Nat} {v : Value} {xs : List Value} {row : Option Nat} (h : W.ownsRow B T K v n xs) (hg : W.grownBy W' row) (ha : Apart row v.ownBlock) : W'.ownsRow B T K v n xs := by
 refine h.kept hg ?_;cases hv : v.ownBlock with
 | none => exact .inl rfl
 | some k => exact .inr (fun e => ha k e.symm hv)
theorem LR.app (h : LR base b8 v0 v7 v1 v2 m ns W) (hg : W.grownBy W' v7.ownBlock) (hor : OwnOr W v7 v7') (ho : W'.ownsRow base 28 3 v7' ns2.length (ns2.flatMap encA)) : LR base b8 v0 v7' v1 v2 m ns2 W' := by
 have up : ∀ {v : Value}, Apart v7.ownBlock v.ownBlock → (∀ k, v.ownBlock = some k → base ≤ k ∧ k < W.heap.size) → Apart v7'.ownBlock v.ownBlock := fun ha hl => ha.upd hor hl;refine ⟨?_, h.hb, own_apart h.o0 hg h.d0, ho, own_apart h.o1 hg h.d1, own_apart h.o2 hg h.d2, h.n0, ?_, h.n1, h.n2, up h.d0 h.o0.lt, up h.d1 h.o1.lt, up h.d2 h.o2.lt⟩
 ·exact ⟨Nat.lt_of_lt_of_le h.x.1 hg.size, h.x.2.elim fun T hT => ⟨T, (hg.block b8 h.x.1 (fun e => h.n7 e.symm)).trans hT⟩⟩
 ·rcases hor with e | hn
  ·rw [e];exact h.n7
  ·intro e;have := hn b8 e;have := h.x.1;omega
theorem LR.state {st : Sto} (h : LR base b8 v0 v7 v1 v2 m ns W) (hz : base ≤ W.heap.size) (hb : Below W.heap.size W W') (ho : W'.ownsRow W.heap.size 99 2 u st.length (st.flatMap encC)) : LR base b8 u v7 v1 v2 ⟨st, m.rs, m.ws⟩ ns W' := by
 have g := h.below hb;refine ⟨g.x, g.hb, own_lowJ ho hz, g.o7, g.o1, g.o2, fun e => ?_, g.n7, g.n1, g.n2, fun k h1 h2 => ?_, g.d1, g.d2⟩
 ·have := (ho.lt _ e).1;have := h.x.1;omega
 ·have := (ho.lt _ h2).1;have := (h.o7.lt _ h1).2;omega
theorem LR.store {L M : List ByteArray} (h : LR base b8 v0 v7 v1 v2 m ns W) (hz : base ≤ W.heap.size) (hb : Below W.heap.size W W') (p1 : W'.ownsRow W.heap.size 9 1 u1 L.length (L.flatMap encS)) (p2 : W'.ownsRow W.heap.size 9 1 u2 M.length (M.flatMap encS)) : LR base b8 v0 v7 u1 u2 ⟨m.st, L, M⟩ ns ((W'.setCell ⟨b8, 0, none⟩ u1).setCell ⟨b8, 1, none⟩ u2) := by
 have g := h.below hb;have q1 : u1.ownBlock ≠ some b8 := fun e => by
  have := (p1.lt _ e).1;have := h.x.1;omega
 have q2 : u2.ownBlock ≠ some b8 := fun e => by
  have := (p2.lt _ e).1;have := h.x.1;omega
 have s : ∀ {T K n : Nat} {v : Value} {xs : List Value}, W'.ownsRow base T K v n xs → v.ownBlock ≠ some b8 → ((W'.setCell ⟨b8, 0, none⟩ u1).setCell ⟨b8, 1, none⟩ u2).ownsRow base T K v n xs := fun h1 h2 => (h1.kept (grownBy_setCell _ b8 0 u1) (.inr h2)).kept (grownBy_setCell _ b8 1 u2) (.inr h2);refine ⟨boxS _ _ _ 1 u2 (boxS _ _ _ 0 u1 g.x), g.hb, s g.o0 g.n0, s g.o7 g.n7, s (own_lowJ p1 hz) q1, s (own_lowJ p2 hz) q2, g.n0, g.n7, q1, q2, g.d0, fun k h1 h2 => ?_, fun k h1 h2 => ?_⟩
 ·have := (p1.lt _ h2).1;have := (h.o7.lt _ h1).2;omega
 ·have := (p2.lt _ h2).1;have := (h.o7.lt _ h1).2;omega
theorem box_grownJ {b : Nat} {xs : List Value} {row : Option Nat} (h : Box W b xs) (hg : W.grownBy W' row) (hn : row ≠ some b) : Box W' b xs := ⟨Nat.lt_of_lt_of_le h.1 hg.size, h.2.elim fun T hT => ⟨T, (hg.block b h.1 (fun e => hn e.symm)).trans hT⟩⟩
theorem LR.fin (h : LR base b8 v0 v7 v1 v2 m ns W) {c : Nat} (hc : c < base) : World.ownsRow ((W.setCell ⟨c, 0, none⟩ u).setCell ⟨c, 1, none⟩ u1) c 99 2 v0 m.st.length (m.st.flatMap encC) ∧ World.ownsRow ((W.setCell ⟨c, 0, none⟩ u).setCell ⟨c, 1, none⟩ u1) c 28 3 v7 ns.length (ns.flatMap encA) ∧ World.ownsRow ((W.setCell ⟨c, 0, none⟩ u).setCell ⟨c, 1, none⟩ u1) c 9 1 v1 m.rs.length (m.rs.flatMap encS) ∧ World.ownsRow ((W.setCell ⟨c, 0, none⟩ u).setCell ⟨c, 1, none⟩ u1) c 9 1 v2 m.ws.length (m.ws.flatMap encS) := by
 have s : ∀ {T K n : Nat} {v : Value} {xs : List Value}, W.ownsRow base T K v n xs → ((W.setCell ⟨c, 0, none⟩ u).setCell ⟨c, 1, none⟩ u1).ownsRow c T K v n xs := fun {T K n v xs} h1 => by
  have ne : v.ownBlock ≠ some c := fun e => by
   have := (h1.lt _ e).1;omega
  exact own_lowJ ((h1.kept (grownBy_setCell _ c 0 u) (.inr ne)).kept (grownBy_setCell _ c 1 u1) (.inr ne)) (Nat.le_of_lt hc)
 exact ⟨s h.o0, s h.o7, s h.o1, s h.o2⟩
theorem LR.start (hx : Box W b8 [.slice none 0 0, .slice none 0 0]) (hb : base ≤ b8) {st : Sto} (o0 : W.ownsRow base 99 2 v0 st.length (st.flatMap encC)) (o7 : W.ownsRow base 28 3 v7 0 []) (n0 : v0.ownBlock ≠ some b8) (n7 : v7.ownBlock ≠ some b8) (d0 : Apart v7.ownBlock v0.ownBlock) : LR base b8 v0 v7 (.slice none 0 0) (.slice none 0 0) ⟨st, [], []⟩ [] W :=
 ⟨hx, hb, o0, o7, World.ownsRow_nil _ _ _ _, World.ownsRow_nil _ _ _ _, n0, n7, fun h => by simp [Value.ownBlock] at h, fun h => by simp [Value.ownBlock] at h, d0, fun k _ h => by simp [Value.ownBlock] at h, fun k _ h => by simp [Value.ownBlock] at h⟩
end
theorem own_noneJ {w : World} {base T K n cap : Nat} {a : Option Addr} {m : Nat} {cells : List Value} (h : w.ownsRow base T K (.slice a n cap) m cells) : a = none → cap = 0 := fun e => by
 subst e;rcases h.2 with ⟨h1, _⟩ | ⟨_, _, _, h1, _⟩
 ·cases h1;rfl
 ·cases h1
def LQ (base b8 : Nat) (w0 : World) (m : Mch) (ns : List Ans) (v0 v7 : Value) (W : World) : Prop := ∃ a0 c0 a7 c7 v1 v2, v0 = .slice a0 m.st.length c0 ∧ v7 = .slice a7 ns.length c7 ∧ LR base b8 v0 v7 v1 v2 m ns W ∧ Below base w0 W
theorem encC_oneJ (x : ByteArray × ByteArray) : ∀ u ∈ encC x, u.oneCell' = true := by
 intro u hu;simp only [encC, List.mem_cons, List.not_mem_nil, or_false] at hu;rcases hu with rfl | rfl <;> rfl
def LRet (m' : Mch) (ns : List Ans) (w : World) (e : Ending) (w' : World) : Prop :=
 ∃ a0 c0 a7 c7 a1 c1 a2 c2, e = .returned (.tuple #[.slice a0 m'.st.length c0, .slice a7 ns.length c7, .agg #[.slice a1 m'.rs.length c1, .slice a2 m'.ws.length c2]]) ∧ Below w.heap.size w w' ∧ w'.ownsRow w.heap.size 99 2 (.slice a0 m'.st.length c0) m'.st.length (m'.st.flatMap encC) ∧ w'.ownsRow w.heap.size 28 3 (.slice a7 ns.length c7) ns.length (ns.flatMap encA) ∧ w'.ownsRow w.heap.size 9 1 (.slice a1 m'.rs.length c1) m'.rs.length (m'.rs.flatMap encS) ∧ w'.ownsRow w.heap.size 9 1 (.slice a2 m'.ws.length c2) m'.ws.length (m'.ws.flatMap encS)
set_option maxRecDepth 100000 in
set_option maxHeartbeats 16000000 in
theorem l15Run_c (a a2 : Option Addr) (cap cap2 : Nat) (xs : Sto) (ss : List Stp) (w : World) (hr : Reads w a 2 encC xs) (hr2 : Reads w a2 7 encStp ss) (ho : RunOk ss xs) :
 Calls Tryz.prog 82 #[.slice a xs.length cap, .slice a2 ss.length cap2] w (LRet (runT ss ⟨xs, [], []⟩).1 (runT ss ⟨xs, [], []⟩).2 w) := by
 obtain ⟨i0, hi0, hzz⟩ := Option.map_eq_some_iff.1 infoCell;obtain ⟨i1, hi1, hz1⟩ := Option.map_eq_some_iff.1 infoAnswer;simp only [Prod.mk.injEq] at hzz hz1;have HI := Lib.hid hi0;have HZ := Lib.hid hzz;have HI1 := Lib.hid hi1;have HZ1 := Lib.hid hz1;have HR := Lib.hid hr;have HR2 := Lib.hid hr2;have HL := Lib.hid ho.2.1;have HS := Lib.hid ho.2.2.1;have HO := Lib.hid ho.2.2.2;have hxl := ho.1;clear hi0 hzz hi1 hz1 hr hr2 ho;have HE0 := Lib.hid (show World.ownsRow ((w.alloc (.cells #[.slice none 0 0, .slice none 0 0] 31)).alloc (.cells #[] 99)) (w.heap.size + 1) 99 2 (.slice (some ⟨w.heap.size + 1, 0, none⟩) 0 0) 0 [] from by
  have h := World.ownsRow_made (base := w.heap.size + 1) (e := 99) (size := 2) (w.alloc (.cells #[.slice none 0 0, .slice none 0 0] 31)) #[] 0 (by simp) (Nat.zero_le _) (by simp);simpa using h)
 go_enter Tryz.func82, Tryz.ntmps82;go_wp2_with (at_builtin; refine wpList_append_reads _ rfl _ _ 26 rfl (w.heap.size + 1) 99 i0 _ 2 32 Tryz.underlying26 HI.out HZ.out.1 HZ.out.2.1 HZ.out.2.2 rfl (by decide) encC_len encC_oneJ _ 0 [] rfl HE0.out a xs.length cap xs rfl rfl (HR.out.below (by repeat (first | exact Below.refl _ _ | refine Below.drew ?_ | refine below_drewN ?_ _ | refine Below.allocC ?_ _ | refine Below.setCell ?_ (by first | (simp; done) | (simp; omega)) _ | refine Below.chain ?_ (by assumption)))) (by unfold maxLen; omega) (by omega) (by simp) ?_);intro v0 w1 o0 g0 or0;obtain ⟨W0, hW0⟩ : ∃ W0, W0 = w.alloc (.cells #[.slice none 0 0, .slice none 0 0] 31) := ⟨_, rfl⟩;have hs0 : W0.heap.size = w.heap.size + 1 := by subst hW0; simp
 have X6 := Lib.hid (show Box W0 w.heap.size [.slice none 0 0, .slice none 0 0] from by subst hW0; exact Box.new w [.slice none 0 0, .slice none 0 0] _);have BW := Lib.hid (show Below w.heap.size w W0 from by subst hW0; exact (by repeat (first | exact Below.refl _ _ | refine Below.drew ?_ | refine below_drewN ?_ _ | refine Below.allocC ?_ _ | refine Below.setCell ?_ (by first | (simp; done) | (simp; omega)) _ | refine Below.chain ?_ (by assumption))));rw [← hW0] at g0 or0;have B1 := Lib.hid (show Below W0.heap.size W0 w1 from Below.grown ((Below.refl _ _).alloc (Nat.le_refl _) _) g0 (by simp) (fun k hk => by cases hk; rw [hs0]; exact Nat.le_refl _));obtain ⟨av, cv, hv0, -⟩ := reads_of_owns encC_len o0;subst hv0;rw [← hs0] at o0;have O0 := Lib.hid o0;clear hW0 g0 or0 o0 HE0;have hz1 := B1.out.size;go_wp2_with fail;have H0 := Lib.hid (show LQ W0.heap.size (w1.heap.size + 1) W0 ⟨xs, [], []⟩ [] (.slice av xs.length cv) (.slice (some ⟨w1.heap.size, 0, none⟩) 0 0) ((w1.alloc (.cells #[] 28)).alloc (.cells #[.slice none 0 0, .slice none 0 0] 31)) from by
  have hx := Box.new (w1.alloc (.cells #[] 28)) [.slice none 0 0, .slice none 0 0] 31;have hx' : Box ((w1.alloc (.cells #[] 28)).alloc (.cells #[.slice none 0 0, .slice none 0 0] 31)) (w1.heap.size + 1) [.slice none 0 0, .slice none 0 0] := by simpa using hx
  have o7 := World.ownsRow_made (base := W0.heap.size) (e := 28) (size := 3) w1 #[] 0 hz1 (Nat.zero_le _) (by simp);refine ⟨av, cv, _, 0, _, _, rfl, rfl, LR.start hx' (by omega) (ownsRow_below O0.out (by repeat (first | exact Below.refl _ _ | refine Below.drew ?_ | refine below_drewN ?_ _ | refine Below.allocC ?_ _ | refine Below.setCell ?_ (by first | (simp; done) | (simp; omega)) _ | refine Below.chain ?_ (by assumption)))) (ownsRow_below o7 (by repeat (first | exact Below.refl _ _ | refine Below.drew ?_ | refine below_drewN ?_ _ | refine Below.allocC ?_ _ | refine Below.setCell ?_ (by first | (simp; done) | (simp; omega)) _ | refine Below.chain ?_ (by assumption)))) (fun e => ?_) (fun e => ?_) (fun k h1 h2 => ?_), B1.out.trans ((show Below w1.heap.size w1 ((w1.alloc (.cells #[] 28)).alloc (.cells #[.slice none 0 0, .slice none 0 0] 31)) from (by repeat (first | exact Below.refl _ _ | refine Below.drew ?_ | refine below_drewN ?_ _ | refine Below.allocC ?_ _ | refine Below.setCell ?_ (by first | (simp; done) | (simp; omega)) _ | refine Below.chain ?_ (by assumption)))).mono hz1)⟩
  ·have := (O0.out.lt _ e).2;omega
  ·simp [Value.ownBlock] at e
  ·have := (O0.out.lt _ h2).2;cases h1;exact Nat.lt_irrefl _ this)
 obtain ⟨b8, hb8⟩ : ∃ b, w1.heap.size + 1 = b := ⟨_, rfl⟩;generalize ((w1.alloc (.cells #[] 28)).alloc (.cells #[.slice none 0 0, .slice none 0 0] 31)) = W1 at H0 ⊢;rw [hb8] at H0 ⊢;go_loopw [0, 7, 9] (fun v0 v7 i wr => ∃ k : Nat, k ≤ ss.length ∧ i = .int .i64 k ∧ Hid (LQ W0.heap.size b8 W0 (runT (ss.take k) ⟨xs, [], []⟩).1 (runT (ss.take k) ⟨xs, [], []⟩).2 v0 v7 wr)) (fun _ _ i _ => ss.length - (intOf i).toNat)
 case atStart => exact ⟨0, Nat.zero_le _, rfl, H0⟩
 case round =>
  obtain ⟨k, hk, rfl, HI0⟩ := hrel;obtain ⟨a0, c0, a7, c7, v1, v2, rfl, rfl, hl, hb⟩ := HI0.out;have HO1 := Lib.hid (HO.out k hk);rw [show (runI (ss.take k) ⟨xs, [], []⟩) = runT (ss.take k) ⟨xs, [], []⟩ from run_same _ _] at HO1;have hlk : (runT (ss.take k) ⟨xs, [], []⟩).2.length = k := by
   rw [← run_same];have h := runI_len (ss.take k) (⟨xs, [], []⟩, []);rw [List.length_take, Nat.min_eq_left hk] at h;exact h.trans (by simp)
  by_cases hlt : k < ss.length
  ·obtain ⟨x, hx⟩ := some_of_lt hlt;obtain ⟨m', an, F⟩ : ∃ aa bb, (callP x.proc x.call).run ⟨(runT (ss.take k) ⟨xs, [], []⟩).1.st, [], []⟩ = (aa, bb) := ⟨_, _, rfl⟩;have HSn := Lib.hid (show runT (ss.take (k + 1)) ⟨xs, [], []⟩ = (⟨m'.st, joinS (runT (ss.take k) ⟨xs, [], []⟩).1.rs m'.rs, joinS (runT (ss.take k) ⟨xs, [], []⟩).1.ws m'.ws⟩, (runT (ss.take k) ⟨xs, [], []⟩).2 ++ [an]) from by rw [take_snoc_of hx, runT_snoc]; unfold stepT; rw [F]);obtain ⟨mk, hmk⟩ : ∃ mk, (runT (ss.take k) ⟨xs, [], []⟩).1 = mk := ⟨_, rfl⟩;obtain ⟨ol, hol⟩ : ∃ ol, (runT (ss.take k) ⟨xs, [], []⟩).2 = ol := ⟨_, rfl⟩;rw [hmk, hol] at hl;rw [hmk] at HO1 F;rw [hmk, hol] at HSn;rw [hol] at hlk;have HLK := Lib.hid (show ol.length ≤ 1048576 from by have := HL.out; omega);clear hlk;have g1 := hmk;have g2 := hol;rw [hmk, hol];have HB := Lib.hid hb;have HLR := Lib.hid hl;have HBw := Lib.hid (BW.out.trans (hb.mono BW.out.size));have hz2 : W0.heap.size ≤ wr.heap.size := hb.size;obtain ⟨bq, off, hab, -⟩ := readStep HR2.out HBw.out hx;subst hab;have p1 : (0 : Int) ≤ (k : Int) := by omega
   have p2 : (k : Int) < (ss.length : Int) := by omega
   obtain ⟨sp, sc⟩ := HS.out x (List.mem_of_getElem? hx);have HX := Lib.hid hx;have HLT := Lib.hid hlt;have p3 : (k : Int) + 1 ≤ 1048576 := by have := HL.out; omega
   have HMO := Lib.hid (show MOk 100000000000 ⟨mk.st, [], []⟩ from ⟨HO1.out.l1, Nat.zero_le _, Nat.zero_le _, HO1.out.sz⟩);have HMK := Lib.hid (show m'.rs.length ≤ 800000000308 ∧ m'.ws.length ≤ 800000000308 from by have h := (callP_cost x.proc x.call).okE HMO.out F; exact ⟨by have := h.l2; omega, by have := h.l3; omega⟩);have KS := Lib.hid (fun (X : World) (hX : Below wr.heap.size wr X) => callOnS_c a0 c0 mk.st x.proc x.call m' an X (reads_owns2 encC_len ((HLR.out.below hX).o0)) (own_noneJ (HLR.out.below hX).o0) HMO.out sp sc F);have C0 := Lib.hid (fun (W : World) (hW : Below wr.heap.size wr W) => show W.cell? ⟨bq, off + k * 7, none⟩ = some (.int .i64 x.proc) ∧ W.cell? ⟨bq, off + k * 7 + 1, none⟩ = some (.int .i64 x.call.kind) ∧ W.cell? ⟨bq, off + k * 7 + 2, none⟩ = some (.string x.call.name) ∧ W.cell? ⟨bq, off + k * 7 + 3, none⟩ = some (.string x.call.dest) ∧ W.cell? ⟨bq, off + k * 7 + 4, none⟩ = some (.int .i64 x.call.a) ∧ W.cell? ⟨bq, off + k * 7 + 5, none⟩ = some (.int .i64 x.call.b) ∧ W.cell? ⟨bq, off + k * 7 + 6, none⟩ = some (.string x.call.text) from by obtain ⟨b', o', e, h⟩ := readStep HR2.out (HBw.out.trans (hW.mono HBw.out.size)) HX.out; cases e; exact h);clear hl hb HI0 hx hlt F sp sc hmk hol H0;go_wp2_with fail;refine wp_region_noPanic ?_;refine wp_region_Y (fun w' => Below wr.heap.size wr w') [] (by kernel_rfl) (Below.refl _ _).drew (fun hS => ?_);refine GZ.begin (p := 16) (q := 17) (tp := 11) (tq := 12) (Zp := [.int .i64 0, .int .i64 0, .string ⟨#[]⟩]) (Zq := [.slice none 0 0, .slice none 0 0]) (z1 := u11) (z2 := u12) (Tp := 28) (Tq := 31) (B := wr.heap.size) (f := 19) (F := fun _ => False) (Inv := fun W => Below wr.heap.size wr W) ?_ hS (fun k h => h.elim) hS.size (fun T => ?_)
   ·refine TwoAl.of ?_ ?_
    ·intro a W; go_simp
    ·intro a W; go_simp
   refine GZ.pure (fun _ h => h) 0 (v := ?_) ?_ ?_
   rotate_left
   ·(intro x y w; simp only [pA, Act.put, sq1, sq2, sq3, sq4, sq5, sq6]; go_simp); all_goals with_reducible rfl
   try simp only [Act.put, sq1, sq2, sq3, sq4, sq5, sq6]
   refine GZ.pure (fun _ h => h) 1 (v := ?_) ?_ ?_
   rotate_left
   ·(intro x y w; simp only [pA, Act.put, sq1, sq2, sq3, sq4, sq5, sq6]; go_simp); all_goals with_reducible rfl
   try simp only [Act.put, sq1, sq2, sq3, sq4, sq5, sq6]
   refine GZ.pure (fun _ h => h) 2 (v := ?_) ?_ ?_
   rotate_left
   ·(intro x y w; simp only [pA, Act.put, sq1, sq2, sq3, sq4, sq5, sq6]; go_simp); all_goals with_reducible rfl
   try simp only [Act.put, sq1, sq2, sq3, sq4, sq5, sq6]
   refine GZ.pure (fun _ h => h) 3 (v := ?_) ?_ ?_
   rotate_left
   ·(intro x y w; simp only [pA, Act.put, sq1, sq2, sq3, sq4, sq5, sq6]; go_simp); all_goals with_reducible rfl
   try simp only [Act.put, sq1, sq2, sq3, sq4, sq5, sq6]
   refine GZ.pure (fun _ h => h) 4 (v := ?_) ?_ ?_
   rotate_left
   ·(intro x y w; simp only [pA, Act.put, sq1, sq2, sq3, sq4, sq5, sq6]; go_simp); all_goals with_reducible rfl
   try simp only [Act.put, sq1, sq2, sq3, sq4, sq5, sq6]
   refine GZ.load (fun _ h => h) 5 (v := ?_) ?_ ?_
   rotate_left
   ·(intro x y W hW; (try dsimp only at hW); simp only [pA, Act.put, sq1, sq2, sq3, sq4, sq5, sq6]; obtain ⟨k0, k1, k2, k3, k4, k5, k6⟩ := C0.out W hW; go_simp); all_goals with_reducible rfl
   try simp only [Act.put, sq1, sq2, sq3, sq4, sq5, sq6]
   refine GZ.pure (fun _ h => h) 6 (v := ?_) ?_ ?_
   rotate_left
   ·(intro x y w; simp only [pA, Act.put, sq1, sq2, sq3, sq4, sq5, sq6]; go_simp); all_goals with_reducible rfl
   try simp only [Act.put, sq1, sq2, sq3, sq4, sq5, sq6]
   refine GZ.pure (fun _ h => h) 7 (v := ?_) ?_ ?_
   rotate_left
   ·(intro x y w; simp only [pA, Act.put, sq1, sq2, sq3, sq4, sq5, sq6]; go_simp); all_goals with_reducible rfl
   try simp only [Act.put, sq1, sq2, sq3, sq4, sq5, sq6]
   refine GZ.pure (fun _ h => h) 8 (v := ?_) ?_ ?_
   rotate_left
   ·(intro x y w; simp only [pA, Act.put, sq1, sq2, sq3, sq4, sq5, sq6]; go_simp); all_goals with_reducible rfl
   try simp only [Act.put, sq1, sq2, sq3, sq4, sq5, sq6]
   refine GZ.pure (fun _ h => h) 9 (v := ?_) ?_ ?_
   rotate_left
   ·(intro x y w; simp only [pA, Act.put, sq1, sq2, sq3, sq4, sq5, sq6]; go_simp); all_goals with_reducible rfl
   try simp only [Act.put, sq1, sq2, sq3, sq4, sq5, sq6]
   refine GZ.load (fun _ h => h) 10 (v := ?_) ?_ ?_
   rotate_left
   ·(intro x y W hW; (try dsimp only at hW); simp only [pA, Act.put, sq1, sq2, sq3, sq4, sq5, sq6]; obtain ⟨k0, k1, k2, k3, k4, k5, k6⟩ := C0.out W hW; go_simp); all_goals with_reducible rfl
   try simp only [Act.put, sq1, sq2, sq3, sq4, sq5, sq6]
   refine GZ.call T (fun _ h => h) (fun _ _ h hb => h.trans (hb.mono h.size)) 11 (COutS m' an wr.heap.size) COwn (fun _ _ _ h hb => h.below hb) ?_ ?_
   ·rintro x y W hI K hK
    (try dsimp only at hI)
    simp only [pA, Act.put, sq1, sq2, sq3, sq4, sq5, sq6];go_simp;refine (KS.out W hI).mono ?_;rintro e wb hf;obtain ⟨u, rfl, h1, h2, h3⟩ := crets_out hf hI.size;go_wp2_with fail;exact hK.out u wb h1 h2 h3
   ·rintro u ⟨W9, u1, u2, u3, rfl, hu1⟩;obtain ⟨aaS, kaS, abS, kbS, acS, kcS, rfl, rfl, rfl⟩ := hu1.vals;clear hu1
    try simp only [Act.put, sq1, sq2, sq3, sq4, sq5, sq6]
    refine GZ.pure (fun _ h => h.1) 12 (v := ?_) ?_ ?_
    rotate_left
    ·(intro x y w; simp only [pA, Act.put, sq1, sq2, sq3, sq4, sq5, sq6]; go_simp); all_goals with_reducible rfl
    try simp only [Act.put, sq1, sq2, sq3, sq4, sq5, sq6]
    refine GZ.pure (fun _ h => h.1) 13 (v := ?_) ?_ ?_
    rotate_left
    ·(intro x y w; simp only [pA, Act.put, sq1, sq2, sq3, sq4, sq5, sq6]; go_simp); all_goals with_reducible rfl
    try simp only [Act.put, sq1, sq2, sq3, sq4, sq5, sq6]
    refine GZ.pure (fun _ h => h.1) 14 (v := ?_) ?_ ?_
    rotate_left
    ·(intro x y w; simp only [pA, Act.put, sq1, sq2, sq3, sq4, sq5, sq6]; go_simp); all_goals with_reducible rfl
    try simp only [Act.put, sq1, sq2, sq3, sq4, sq5, sq6]
    refine GZ.pure (fun _ h => h.1) 15 (v := ?_) ?_ ?_
    rotate_left
    ·(intro x y w; simp only [pA, Act.put, sq1, sq2, sq3, sq4, sq5, sq6]; go_simp); all_goals with_reducible rfl
    try simp only [Act.put, sq1, sq2, sq3, sq4, sq5, sq6]
    refine GZ.last T (fun _ h => h.1) (fun _ _ h hb => ⟨h.1.trans (hb.mono h.1.size), h.2.below hb⟩) ?_;rintro b1 b2 W ⟨hB, hu⟩ x1 x2 g1' g2' n1 n2 ne;have hO := hu.outs;have q1 := not_cown (fun h => n1 (.inr h));have q2 := not_cown (fun h => n2 (.inr h));clear hu n1 n2;have H1 := Lib.hid ((((show TwoB m' wr.heap.size _ _ _ b1 b2 _ _ wr W from ⟨x1, x2, hO, hB, g1', g2', ne, q1, q2⟩).set1 0 (.int .i64 an.code)).set1 1 (.int .i64 an.n)).set1 2 (.string an.text));have c0 := x1.cell 0 _ rfl;have f0 := x1.free 0;have c1 := x1.cell 1 _ rfl;have f1 := x1.free 1;have c2 := x1.cell 2 _ rfl;have f2 := x1.free 2;have hS := hB;clear x1 x2 q1 q2 hO;simp only [pA, ptr0, Act.put, sq1, sq2, sq3, sq4, sq5, sq6];refine wpO 18 fun K hK => ?_;go_simp;refine hK.out _ _ (Or.inr hB) ?_;clear hK K
    try simp only [Act.put, sq1, sq2, sq3, sq4, sq5, sq6]
    refine wpO 19 fun K hK => ?_;go_simp;refine hK.out _ _ (Or.inr H1.out.bel) ?_;clear hK K
    try simp only [Act.put, sq1, sq2, sq3, sq4, sq5, sq6]
    generalize hWz : ((World.setCell _ _ _).setCell _ _).setCell _ _ = Wz at H1 ⊢;clear hWz hB c0 f0 c1 f1 c2 f2;have c3 := H1.out.x2.cell 0 _ rfl;have f3 := H1.out.x2.free 0;have c4 := H1.out.x2.cell 1 _ rfl;have f4 := H1.out.x2.free 1;have H2 := Lib.hid ((H1.out.set2 0 (.slice abS m'.rs.length kbS)).set2 1 (.slice acS m'.ws.length kcS));refine wpO 20 fun K hK => ?_;go_simp;refine hK.out _ _ (Or.inr H2.out.bel) ?_;clear hK K
    try simp only [Act.put, sq1, sq2, sq3, sq4, sq5, sq6]
    refine wpAnyY_done (by kernel_rfl) ?_ _;refine NoPanic.normal ?_;clear c3 f3 c4 f4 H1 hS T KS C0;generalize (World.setCell _ _ _).setCell _ _ = Wy at H2 ⊢;have GL := Lib.hid (HLR.out.state hz2 H2.out.bel H2.out.outs.o1);have HX1 := Lib.hid H2.out.x1;have HX2 := Lib.hid H2.out.x2;have HQ2 := Lib.hid H2.out.outs.o2;have HQ3 := Lib.hid H2.out.outs.o3;have HBy := Lib.hid (HB.out.trans (H2.out.bel.mono hz2));have hz3 := H2.out.bel.size;have hg1 := H2.out.g1;have hg2 := H2.out.g2;have k0 := HX1.out.cell 0 _ rfl;have k1 := HX1.out.cell 1 _ rfl;have k2 := HX1.out.cell 2 _ rfl;have hzb : W0.heap.size ≤ Wy.heap.size := by omega
    go_wp2_with (at_builtin; refine wpList_append_own2 _ rfl _ _ 61 rfl W0.heap.size 28 i1 _ 3 32 Tryz.underlying61 HI1.out HZ1.out.1 HZ1.out.2.1 HZ1.out.2.2 rfl (by decide) _ _ _ rfl (GL.out.o7.alloc _) ⟨Wy.heap.size, 0, none⟩ 1 1 (encA an) rfl rfl (box_news (Box.new _ (encA an) _)) (encA_one an) (by have := HLK.out; unfold maxLen; omega) (by have := HLK.out; omega) (by simp; omega) ?_);intro v7' w3 o7 g7 or7;have GN := Lib.hid (((GL.out.below (show Below Wy.heap.size Wy (Wy.alloc (.cells #[.int .i64 an.code, .int .i64 an.n, .string an.text] 28)) from (by repeat (first | exact Below.refl _ _ | refine Below.drew ?_ | refine below_drewN ?_ _ | refine Below.allocC ?_ _ | refine Below.setCell ?_ (by first | (simp; done) | (simp; omega)) _ | refine Below.chain ?_ (by assumption))))).app (ns2 := ol ++ [an]) g7 or7 (by rw [hs0, List.length_append, List.flatMap_append]; simpa using o7)) : LR W0.heap.size b8 _ v7' v1 v2 ⟨m'.st, mk.rs, mk.ws⟩ (ol ++ [an]) w3);have n2 : (Value.slice a7 ol.length c7).ownBlock ≠ some b2 := fun e => by have := (HLR.out.o7.lt _ e).2; omega
    have hap : ∀ {v : Value} {T K n : Nat} {cs : List Value}, Wy.ownsRow wr.heap.size T K v n cs → w3.ownsRow wr.heap.size T K v n cs := fun h => own_apart (ownsRow_below h (show Below Wy.heap.size Wy (Wy.alloc (.cells #[.int .i64 an.code, .int .i64 an.n, .string an.text] 28)) from (by repeat (first | exact Below.refl _ _ | refine Below.drew ?_ | refine below_drewN ?_ _ | refine Below.allocC ?_ _ | refine Below.setCell ?_ (by first | (simp; done) | (simp; omega)) _ | refine Below.chain ?_ (by assumption))))) g7 (fun k h1 h2 => by have := (HLR.out.o7.lt _ h1).2; have := (h.lt _ h2).1; omega);have HQ2 := Lib.hid (hap HQ2.out);have HQ3 := Lib.hid (hap HQ3.out);have HX2 := Lib.hid (box_grownJ (HX2.out.below (show Below Wy.heap.size Wy (Wy.alloc (.cells #[.int .i64 an.code, .int .i64 an.n, .string an.text] 28)) from (by repeat (first | exact Below.refl _ _ | refine Below.drew ?_ | refine below_drewN ?_ _ | refine Below.allocC ?_ _ | refine Below.setCell ?_ (by first | (simp; done) | (simp; omega)) _ | refine Below.chain ?_ (by assumption))))) g7 n2);have hz4 : Wy.heap.size ≤ w3.heap.size := by have := g7.size; simp at this; omega
    have HB3 := Lib.hid (show Below W0.heap.size W0 w3 from ((HBy.out.alloc hzb _)).grown g7 (by simp; omega) (fun k hk => (HLR.out.o7.lt _ hk).1));clear o7 g7 or7 hap n2 k0 k1 k2 GL HX1;obtain ⟨a9, c9, hv9, -⟩ := reads_of_owns encA_len GN.out.o7;rw [show (ol ++ [an]).length = ol.length + 1 from by simp] at hv9;subst hv9;obtain ⟨e1, d1, hv1, r1⟩ := reads_of_owns encS_len GN.out.o1;obtain ⟨e2, d2, hv2, r2⟩ := reads_of_owns encS_len GN.out.o2;subst hv1;subst hv2;have KJ := Lib.hid (specJoin_c e1 e2 abS acS d1 d2 kbS kcS mk.rs mk.ws m'.rs m'.ws w3 (by have := HO1.out.l2; have := HMK.out.1; omega) (by have := HO1.out.l3; have := HMK.out.2; omega) r1 r2 (reads_owns2 encS_len HQ2.out) (reads_owns2 encS_len HQ3.out));clear r1 r2;have k0 := GN.out.x.cell 0 _ rfl;have k1 := GN.out.x.cell 1 _ rfl;have t0 := HX2.out.cell 0 _ rfl;have t1 := HX2.out.cell 1 _ rfl;go_wp2_with fail;refine KJ.out.mono ?_;rintro e w5 ⟨a5, c5, a6, c6, rfl, hb5, p5, p6⟩;have GE := Lib.hid (GN.out.store (by omega) hb5 p5 p6);have HBE := Lib.hid (((HB3.out.trans (hb5.mono (by omega))).setCell GN.out.hb (p := ⟨b8, 0, none⟩) (.slice a5 (joinS mk.rs m'.rs).length c5)).setCell GN.out.hb (p := ⟨b8, 1, none⟩) (.slice a6 (joinS mk.ws m'.ws).length c6));have f0 := (GN.out.x.below hb5).free 0;have f1 := (GN.out.x.below hb5).free 1;have k0 := (GN.out.x.below hb5).cell 0 _ rfl;have k1 := (GN.out.x.below hb5).cell 1 _ rfl;clear t0 t1 hb5 p5 p6 KJ;go_wp2_with fail;go_roundw
    case rel => exact ⟨k + 1, by have := HLT.out; omega, by go_num, Lib.hid (by rw [HSn.out]; exact ⟨_, _, a9, c9, _, _, rfl, by simp, GE.out, HBE.out⟩)⟩
    case measure => have := HLT.out; simp [intOf]; omega
  ·obtain rfl : k = ss.length := by omega
   have p2 : ¬ ((ss.length : Nat) : Int) < (ss.length : Int) := by omega
   rw [List.take_length] at hl;obtain ⟨mk, hmk⟩ : ∃ mk, (runT ss ⟨xs, [], []⟩).1 = mk := ⟨_, rfl⟩;obtain ⟨ol, hol⟩ : ∃ ol, (runT ss ⟨xs, [], []⟩).2 = ol := ⟨_, rfl⟩;rw [List.take_length, hmk, hol];rw [hmk, hol] at hl;have EM := Lib.hid hmk;have EO := Lib.hid hol;have HLR := Lib.hid hl;have HB := Lib.hid hb;have hz2 : W0.heap.size ≤ wr.heap.size := hb.size;obtain ⟨e1, d1, hv1, -⟩ := reads_of_owns encS_len hl.o1;obtain ⟨e2, d2, hv2, -⟩ := reads_of_owns encS_len hl.o2;subst hv1;subst hv2;have k0 := hl.x.cell 0 _ rfl;have k1 := hl.x.cell 1 _ rfl;have z0 := (X6.out.below hb).cell 0 _ rfl;have z1 := (X6.out.below hb).cell 1 _ rfl;have f0 := (X6.out.below hb).free 0;have f1 := (X6.out.below hb).free 1;have HF := Lib.hid (LR.fin (u := .slice e1 mk.rs.length d1) (u1 := .slice e2 mk.ws.length d2) hl (c := w.heap.size) (by omega));have HG := Lib.hid (((BW.out.trans (hb.mono BW.out.size)).setCell (p := ⟨w.heap.size, 0, none⟩) (Nat.le_refl _) (.slice e1 mk.rs.length d1)).setCell (p := ⟨w.heap.size, 1, none⟩) (Nat.le_refl _) (.slice e2 mk.ws.length d2));clear hl hb HI0 HO1 hlk hmk hol;go_wp2_with fail;go_region
   all_goals go_wp2
   all_goals exact bodyPost_ret (v := .tuple #[.slice a0 mk.st.length c0, .slice a7 ol.length c7, .agg #[.slice e1 mk.rs.length d1, .slice e2 mk.ws.length d2]]) (by simp [results, Tryz.results82, go_sem, z0, z1]) rfl (by rw [EM.out, EO.out]; exact ⟨a0, c0, a7, c7, e1, d1, e2, d2, rfl, HG.out.drew, HF.out⟩)
set_option maxRecDepth 100000 in
set_option maxHeartbeats 8000000 in
theorem touchS_c (a a2 : Option Addr) (cap cap2 : Nat) (xs : Sto) (ss : List Stp) (w : World) (hr : Reads w a 2 encC xs) (hr2 : Reads w a2 7 encStp ss) (ho : RunOk ss xs) :
 Calls Tryz.prog 40 #[.slice a xs.length cap, .slice a2 ss.length cap2] w (JRet (runT ss ⟨xs, [], []⟩).1.rs (runT ss ⟨xs, [], []⟩).1.ws w) := by
 obtain ⟨W0, hW0⟩ : ∃ W0, W0 = w.alloc (.cells #[.slice none 0 0, .slice none 0 0] 31) := ⟨_, rfl⟩;have HB0 := Lib.hid (show Below w.heap.size w W0 from by subst hW0; exact (by repeat (first | exact Below.refl _ _ | refine Below.drew ?_ | refine below_drewN ?_ _ | refine Below.allocC ?_ _ | refine Below.setCell ?_ (by first | (simp; done) | (simp; omega)) _ | refine Below.chain ?_ (by assumption))));have T0 := Lib.hid (show Box W0 w.heap.size [.slice none 0 0, .slice none 0 0] from by subst hW0; exact Box.new w _ _);have hs0 : W0.heap.size = w.heap.size + 1 := by subst hW0; simp
 have KL := Lib.hid (l15Run_c a a2 cap cap2 xs ss W0 (hr.below HB0.out) (hr2.below HB0.out) ho);clear hr hr2 ho;go_enter Tryz.func40, Tryz.ntmps40;go_upto_region 1 with fail;rw [← hW0];clear hW0;go_wp2_with fail;refine KL.out.mono ?_;rintro e w1 ⟨a0, c0, a7, c7, a1, c1, a9, c9, rfl, hb, o0, o7, o1, o2⟩;obtain ⟨W1, hW1⟩ : ∃ W1, W1 = w1.alloc (.cells #[.slice a1 (runT ss ⟨xs, [], []⟩).1.rs.length c1, .slice a9 (runT ss ⟨xs, [], []⟩).1.ws.length c9] 31) := ⟨_, rfl⟩;have hB1 : Below w1.heap.size w1 W1 := by subst hW1; exact (by repeat (first | exact Below.refl _ _ | refine Below.drew ?_ | refine below_drewN ?_ _ | refine Below.allocC ?_ _ | refine Below.setCell ?_ (by first | (simp; done) | (simp; omega)) _ | refine Below.chain ?_ (by assumption)))
 have T2 := T0.out.below (hb.trans (hB1.mono hb.size));have t0 := T2.cell 0 _ rfl;have t1 := T2.cell 1 _ rfl;have f0 := T2.free 0;have f1 := T2.free 1;have far : ∀ (n : Nat) (u : Value) (cs : List Value) (X Y : Value), w1.ownsRow W0.heap.size 9 1 u n cs → ((W1.setCell ⟨w.heap.size, 0, none⟩ X).setCell ⟨w.heap.size, 1, none⟩ Y).ownsRow w.heap.size 9 1 u n cs := fun n u cs X Y h => by
  have n1 : u.ownBlock = none ∨ u.ownBlock ≠ some w.heap.size := .inr (fun e => by have := (h.lt _ e).1; omega);exact ownsRow_base (((ownsRow_below h hB1).kept (grownBy_setCell W1 w.heap.size 0 X) n1).kept (grownBy_setCell _ w.heap.size 1 Y) n1) HB0.out.size
 have HEND := Lib.hid (show JRet (runT ss ⟨xs, [], []⟩).1.rs (runT ss ⟨xs, [], []⟩).1.ws w (.returned (.agg #[.slice a1 (runT ss ⟨xs, [], []⟩).1.rs.length c1, .slice a9 (runT ss ⟨xs, [], []⟩).1.ws.length c9])) ((W1.setCell ⟨w.heap.size, 0, none⟩ (.slice a1 (runT ss ⟨xs, [], []⟩).1.rs.length c1)).setCell ⟨w.heap.size, 1, none⟩ (.slice a9 (runT ss ⟨xs, [], []⟩).1.ws.length c9)) from
  ⟨a1, c1, a9, c9, rfl, Below.setCell (p := ⟨w.heap.size, 1, none⟩) (Below.setCell (p := ⟨w.heap.size, 0, none⟩) (HB0.out.trans ((hb.trans (hB1.mono hb.size)).mono HB0.out.size)) (Nat.le_refl _) _) (Nat.le_refl _) _, far _ _ _ _ _ o1, far _ _ _ _ _ o2⟩)
 have HW1 := Lib.hid hW1;clear hb o0 o7 o1 o2 KL T2 far hB1 T0 HB0;subst hW1;clear HW1;go_wp2;exact bodyPost_ret (v := .agg #[.slice a1 (runT ss ⟨xs, [], []⟩).1.rs.length c1, .slice a9 (runT ss ⟨xs, [], []⟩).1.ws.length c9]) (by simp [results, Tryz.results40, go_sem, *]) rfl HEND.out
end Go.Proofs.YtihghflppegnmaaGreatDoor
namespace Go.Proofs.YtihghflppegnmaaGreatDoor
open Go.RowKit
def hd (k : ByteArray) : Option UInt8 := k.data.toList.head?
theorem hd_app {a b : ByteArray} {c : UInt8} (h : hd a = some c) : hd (a ++ b) = some c := by
 unfold hd at *;rw [ByteArray.data_append, Array.toList_append, List.head?_append, h];rfl
theorem hd_num {a t : ByteArray} {n : Int} {c : UInt8} (h : hd a = some c) : hd (keyNumS a n t) = some c := hd_app (hd_app h)
theorem begins_iff {k p : ByteArray} (h : beginsB k p = true) : p.data.toList <+: k.data.toList := by
 unfold beginsB at h;rw [Bool.and_eq_true, decide_eq_true_eq, beq_iff_eq, toList_eq_iff] at h;have e : (k.extract 0 p.size).data.toList = k.data.toList.take p.size := by simp [ByteArray.data_extract]
 rw [h.2] at e;rw [e];exact List.take_prefix _ _
theorem hd_begins {k p : ByteArray} {c : UInt8} (h : beginsB k p = true) (hp : hd p = some c) : hd k = some c := by
 obtain ⟨t, e⟩ := begins_iff h;unfold hd at *;rw [← e, List.head?_append, hp];rfl
theorem hd_n (a : ByteArray) : hd (nK a) = some 110 := hd_app rfl
theorem hd_links (a : Int) : hd (linksK a) = some 105 := hd_num rfl
theorem hd_size (a : Int) : hd (sizeK a) = some 105 := hd_num rfl
theorem hd_file (a : Int) : hd (fileK a) = some 105 := hd_num rfl
theorem hd_block (a b : Int) : hd (blockK a b) = some 105 := hd_num (hd_num rfl)
theorem hd_pipe (a : Int) (t : ByteArray) : hd (pipeK a t) = some 112 := hd_num rfl
theorem hd_pipeQ (a b : Int) : hd (pipeQ a b) = some 112 := hd_num (hd_num rfl)
theorem hd_sig (a : Int) (t : ByteArray) : hd (sigK a t) = some 103 := hd_num rfl
theorem hd_sigQ (a b : Int) : hd (sigQ a b) = some 103 := hd_num (hd_num rfl)
theorem hd_timer (a : Int) : hd (timerK a) = some 116 := hd_num rfl
theorem hd_pages (a : Int) : hd (pagesK a) = some 109 := hd_num rfl
theorem hd_out (a : Int) : hd (outK1 a) = some 100 := hd_num rfl
theorem hd_proc (a : Int) (t : ByteArray) : hd (procK a t) = some 114 := hd_num rfl
def tPx (c : ByteArray × ByteArray) : Bool := hd c.1 == some 116
def tN (s : Sto) : Nat := (s.filter tPx).length
structure Inv (s : Sto) : Prop where
 r : Rising s
 p : ∀ c ∈ s, hd c.1 = some 109 → ∃ i k : Int, 0 ≤ k ∧ k ≤ 3 ∧ c.1 = pageK i k
 c : ∃ c ∈ s, c.1 = cProc
theorem ins_count (q : ByteArray × ByteArray → Bool) (c : ByteArray × ByteArray) : ∀ xs : Sto, ((insK c xs).filter q).length = (xs.filter q).length + if q c = true then 1 else 0
 | [] => by
  show ([c].filter q).length = _;by_cases h : q c = true <;> simp [h]
 | y :: ys => by
  rw [insK_cons];split
  ·by_cases h : q c = true <;> simp [List.filter_cons, h]
  ·have ih := ins_count q c ys;by_cases h : q y = true <;> simp [List.filter_cons, h, ih] <;> omega
theorem del_count (q : ByteArray × ByteArray → Bool) (xs : Sto) (k : ByteArray) : ((delK xs k).filter q).length ≤ (xs.filter q).length := (List.Sublist.filter q List.filter_sublist).length_le
def Gr {α : Type} (x : Pg α) (L n t : Nat) : Prop := ∀ s : Sto, Inv s → tN s ≤ L → Inv (x.sem s).1 ∧ (x.sem s).1.length ≤ s.length + n ∧ tN (x.sem s).1 ≤ tN s + t
section
variable {α β : Type} {L n t c u : Nat}
theorem Gr.mono {x : Pg α} {n' t' : Nat} (h : Gr x L n t) (h1 : n ≤ n') (h2 : t ≤ t') : Gr x L n' t' := fun s hi hl => by
 obtain ⟨a, b, d⟩ := h s hi hl;exact ⟨a, by omega, by omega⟩
theorem Gr.pure (a : α) : Gr (Pure.pure a : Pg α) L n t := fun s hi _ => ⟨hi, by show s.length ≤ _; omega, by show tN s ≤ _; omega⟩
theorem Gr.bind {x : Pg α} {g : α → Pg β} (hx : Gr x L c u) (h1 : c ≤ n) (h2 : u ≤ t) (hg : ∀ v, Gr (g v) (L + u) (n - c) (t - u)) : Gr (x >>= g) L n t := fun s hi hl => by
 rw [Pg.sem_bind];obtain ⟨a, b, d⟩ := hx s hi hl;obtain ⟨a2, b2, d2⟩ := hg (x.sem s).2 _ a (by omega);exact ⟨a2, by omega, by omega⟩
end
theorem digits_no {u : Nat} : ∀ x ∈ Lib.decDigits u, x ≠ 47 := by
 fun_induction Lib.decDigits u with
 | case1 u h =>
  intro x hx;obtain rfl := List.mem_singleton.1 hx;intro e;have := congrArg UInt8.toNat e;simp at this;omega
 | case2 u h ih =>
  intro x hx;rcases List.mem_append.1 hx with hx | hx
  ·exact ih x hx
  ·obtain rfl := List.mem_singleton.1 hx;intro e;have := congrArg UInt8.toNat e;simp at this;omega
theorem dec_no (n : Int) : ∀ x ∈ (decS n).data.toList, x ≠ 47 := by
 show ∀ x ∈ (Lib.itoa n).toArray.toList, x ≠ 47;rw [List.toList_toArray];unfold Lib.itoa;split
 ·intro x hx;rcases List.mem_cons.1 hx with rfl | hx
  ·decide
  ·exact digits_no x hx
 ·exact digits_no
theorem cut_eq {A I R S : List UInt8} (hA : ∀ x ∈ A, x ≠ 47) (hI : ∀ x ∈ I, x ≠ 47) (h : A ++ 47 :: R = I ++ 47 :: S) : A = I := by
 induction A generalizing I with
 | nil =>
  cases I with
  | nil => rfl
  | cons y ys =>
   injection h with h1 h2
   exact absurd h1.symm (hI y List.mem_cons_self)
 | cons x xs ih =>
  cases I with
  | nil =>
   injection h with h1 h2
   exact absurd h1 (hA x List.mem_cons_self)
  | cons y ys =>
   injection h with h1 h2
   rw [h1, ih (fun z hz => hA z (List.mem_cons_of_mem _ hz)) (fun z hz => hI z (List.mem_cons_of_mem _ hz)) h2]
theorem pages_list (i : Int) : (pagesK i).data.toList = 109 :: 47 :: ((decS i).data.toList ++ [47]) := by
 unfold pagesK keyNumS;simp [ByteArray.data_append]
theorem nodup_le {α : Type} [DecidableEq α] {xs ys : List α} (h : xs.Nodup) (hs : ∀ x ∈ xs, x ∈ ys) : xs.length ≤ ys.length := by
 induction xs generalizing ys with
 | nil => exact Nat.zero_le _
 | cons x xs ih =>
  have h1 := List.nodup_cons.1 h;have hx := hs x List.mem_cons_self;have := ih (ys := ys.erase x) h1.2 (fun y hy => (List.mem_erase_of_ne (fun e => h1.1 (by rw [← e]; exact hy))).2 (hs y (List.mem_cons_of_mem _ hy)));rw [List.length_erase_of_mem hx] at this;have := List.length_pos_of_mem hx;simp only [List.length_cons];omega
def Grown (n : Nat) (s : Sto) : Prop := Inv s ∧ s.length ≤ 3 + 45 * n ∧ tN s ≤ n ∧ ∀ c ∈ s, cellOk c
abbrev Sm (n : Int) : Prop := 0 ≤ n ∧ n ≤ 999
namespace Pg
variable {α β : Type}
def KS (V : ByteArray → Prop) (Q : α → Prop) : Pg α → Prop
 | .ret a => Q a
 | .look k f => V k ∧ ∀ v, KS V Q (f v)
 | .lay k _ f => V k ∧ KS V Q f
 | .under p f => V (starK p) ∧ ∀ ks : List ByteArray, (∀ k ∈ ks, V k ∧ beginsB k p = true) → KS V Q (f ks)
variable {V : ByteArray → Prop} {Q : α → Prop} {R : β → Prop}
theorem KS.bind {x : Pg α} {g : α → Pg β} (hx : KS V Q x) (hg : ∀ v, Q v → KS V R (g v)) : KS V R (x >>= g) := by
 induction x with
 | ret a => exact hg a hx
 | look k f ih => exact ⟨hx.1, fun v => ih v (hx.2 v)⟩
 | lay k v f ih => exact ⟨hx.1, ih hx.2⟩
 | under p f ih => exact ⟨hx.1, fun ks h => ih ks (hx.2 ks h)⟩
theorem KS.pure (a : α) (h : Q a) : KS V Q (Pure.pure a : Pg α) := h
theorem KS.ite {p : Prop} [Decidable p] {x y : Pg α} (hx : p → KS V Q x) (hy : ¬ p → KS V Q y) : KS V Q (if p then x else y) := by
 split
 ·exact hx (by assumption)
 ·exact hy (by assumption)
theorem KS.mono {Q' : α → Prop} {x : Pg α} (hx : KS V Q x) (h : ∀ v, Q v → Q' v) : KS V Q' x := by
 induction x with
 | ret a => exact h a hx
 | look k f ih => exact ⟨hx.1, fun v => ih v (hx.2 v)⟩
 | lay k v f ih => exact ⟨hx.1, ih hx.2⟩
 | under p f ih => exact ⟨hx.1, fun ks hk => ih ks (hx.2 ks hk)⟩
end Pg
open Pg
structure Vok (V : ByteArray → Prop) (I : Int → Prop) (N : ByteArray → Prop) : Prop where
 sm : ∀ i : Int, 0 ≤ i → i ≤ 999 → I i
 procS : ∀ i : Int, I i → V (procK i tS)
 procP : ∀ i : Int, I i → V (procK i tP)
 procX : ∀ i : Int, I i → V (procK i tX)
 procA : ∀ i : Int, I i → V (starK (procK i tSl))
 sigT : ∀ i : Int, I i → V (sigK i tT)
 sigH : ∀ i : Int, I i → V (sigK i tH)
 pipeO : ∀ i : Int, I i → V (pipeK i tO)
 pipeT : ∀ i : Int, I i → V (pipeK i tT)
 pipeH : ∀ i : Int, I i → V (pipeK i tH)
 timer : ∀ i : Int, I i → V (timerK i)
 pagesA : ∀ i : Int, I i → V (starK (pagesK i))
 links : ∀ i : Int, I i → V (linksK i)
 size : ∀ i : Int, I i → V (sizeK i)
 fileA : ∀ i : Int, I i → V (starK (fileK i))
 sigQ : ∀ i j : Int, I i → 0 ≤ j → j ≤ 1000 → V (sigQ i j)
 pipeQ : ∀ i j : Int, I i → 0 ≤ j → j ≤ 1000 → V (pipeQ i j)
 page : ∀ i j : Int, I i → 0 ≤ j → j ≤ 1000 → V (pageK i j)
 block : ∀ i j : Int, I i → 0 ≤ j → j ≤ 1000 → V (blockK i j)
 out : ∀ j : Int, 0 ≤ j → j ≤ 1000 → V (outK1 j)
 nam : ∀ s, N s → V (nK s)
 cfile : V (cFile)
 cpipe : V (cPipe)
 cproc : V (cProc)
 cclock : V (cClock)
 dn : V (dnK)
 nA : V (starK nHead)
 tA : V (starK tHead)
 rA : V (starK rHead)
 fork : ∀ (a b : Int) (k : ByteArray), 0 ≤ b → b ≤ 999 → V k → beginsB k (pagesK a) = true → V (pagesK b ++ k.extract (pagesK a).size k.size)
variable {V : ByteArray → Prop} {I : Int → Prop} {N : ByteArray → Prop} {α : Type}
theorem ks_num {k : ByteArray} (h : V k) : KS V Sm (numP k) := ⟨h, fun v => numOf_bounds v⟩
theorem ks_set {k : ByteArray} {n : Int} (h : V k) : KS V (fun _ => True) (setP k n) := ⟨h, trivial⟩
theorem ks_lay {k v : ByteArray} (h : V k) : KS V (fun _ => True) (layP k v) := ⟨h, trivial⟩
theorem ks_msg {k : ByteArray} (h : V k) : KS V (fun _ => True) (msgP k) := ⟨h, fun _ => trivial⟩
theorem ks_layAll : ∀ (ks : List ByteArray), (∀ k ∈ ks, V k) → KS V (fun _ => True) (layAll ks)
 | [], _ => trivial
 | k :: ks, h => ⟨h k List.mem_cons_self, ks_layAll ks (fun x hx => h x (List.mem_cons_of_mem _ hx))⟩
theorem ks_wipe {p : ByteArray} (h : V (starK p)) : KS V (fun _ => True) (wipeP p) := ⟨h, fun ks hk => ks_layAll ks (fun k hx => (hk k hx).1)⟩
theorem ks_fileOf (H : Vok V I N) {a : ByteArray} (ha : N a) : KS V Sm (fileOfP a) := by
 unfold fileOfP
 repeat' first | (with_reducible refine KS.pure _ ?_; first | exact True.intro | (constructor <;> omega) | (constructor <;> (dsimp only; omega))) | with_reducible exact (ks_num (by first | assumption | (with_reducible refine H.nam _ ?_; assumption))) | with_reducible refine KS.ite (fun _ => ?_) (fun _ => ?_)
theorem ks_bump {k : ByteArray} (h : V k) : KS V Sm (bumpP k) := by
 unfold bumpP;refine KS.bind (ks_num h) ?_;rintro v ⟨h1, h2⟩;refine KS.ite (fun _ => KS.pure _ ⟨by omega, by omega⟩) (fun hq => ?_);refine KS.bind (ks_set h) (fun _ _ => KS.pure _ ⟨by omega, by omega⟩)
theorem ks_make (H : Vok V I N) {a : ByteArray} (ha : N a) : KS V (fun _ => True) (makeP a) := by
 unfold makeP
 repeat' first | (with_reducible refine KS.pure _ ?_; first | exact True.intro | (constructor <;> omega) | (constructor <;> (dsimp only; omega))) | (with_reducible refine KS.bind (ks_num (by first | assumption | (with_reducible refine H.nam _ ?_; assumption) | with_reducible exact H.links _ (by first | assumption | exact H.sm _ (by omega) (by omega)) | with_reducible exact H.cfile)) ?_; rintro v ⟨_, _⟩) | with_reducible refine KS.bind (ks_set (by first | assumption | (with_reducible refine H.nam _ ?_; assumption) | with_reducible exact H.links _ (by first | assumption | exact H.sm _ (by omega) (by omega)) | with_reducible exact H.cfile)) (fun _ _ => ?_) | (with_reducible refine KS.bind (ks_fileOf H (by assumption)) ?_; rintro v ⟨_, _⟩) | (with_reducible refine KS.bind (ks_bump (by first | assumption | (with_reducible refine H.nam _ ?_; assumption) | with_reducible exact H.links _ (by first | assumption | exact H.sm _ (by omega) (by omega)) | with_reducible exact H.cfile)) ?_; rintro v ⟨_, _⟩) | with_reducible refine KS.ite (fun _ => ?_) (fun _ => ?_)
theorem ks_link (H : Vok V I N) {a b : ByteArray} (ha : N a) (hb : N b) : KS V (fun _ => True) (linkP a b) := by
 unfold linkP
 repeat' first | (with_reducible refine KS.pure _ ?_; first | exact True.intro | (constructor <;> omega) | (constructor <;> (dsimp only; omega))) | (with_reducible refine KS.bind (ks_num (by first | assumption | (with_reducible refine H.nam _ ?_; assumption) | with_reducible exact H.links _ (by first | assumption | exact H.sm _ (by omega) (by omega)))) ?_; rintro v ⟨_, _⟩) | with_reducible refine KS.bind (ks_set (by first | assumption | (with_reducible refine H.nam _ ?_; assumption) | with_reducible exact H.links _ (by first | assumption | exact H.sm _ (by omega) (by omega)))) (fun _ _ => ?_) | (with_reducible refine KS.bind (ks_fileOf H (by assumption)) ?_; rintro v ⟨_, _⟩) | with_reducible refine KS.ite (fun _ => ?_) (fun _ => ?_)
theorem ks_unlink (H : Vok V I N) {a : ByteArray} (ha : N a) : KS V (fun _ => True) (unlinkP a) := by
 unfold unlinkP
 repeat' first | (with_reducible refine KS.pure _ ?_; first | exact True.intro | (constructor <;> omega) | (constructor <;> (dsimp only; omega))) | (with_reducible refine KS.bind (ks_num (by first | assumption | (with_reducible refine H.nam _ ?_; assumption) | with_reducible exact H.links _ (by first | assumption | exact H.sm _ (by omega) (by omega)) | with_reducible exact H.fileA _ (by first | assumption | exact H.sm _ (by omega) (by omega)))) ?_; rintro v ⟨_, _⟩) | with_reducible refine KS.bind (ks_set (by first | assumption | (with_reducible refine H.nam _ ?_; assumption) | with_reducible exact H.links _ (by first | assumption | exact H.sm _ (by omega) (by omega)) | with_reducible exact H.fileA _ (by first | assumption | exact H.sm _ (by omega) (by omega)))) (fun _ _ => ?_) | with_reducible refine KS.bind (ks_lay (by first | assumption | (with_reducible refine H.nam _ ?_; assumption) | with_reducible exact H.links _ (by first | assumption | exact H.sm _ (by omega) (by omega)) | with_reducible exact H.fileA _ (by first | assumption | exact H.sm _ (by omega) (by omega)))) (fun _ _ => ?_) | (with_reducible refine KS.bind (ks_fileOf H (by assumption)) ?_; rintro v ⟨_, _⟩) | with_reducible refine KS.bind (ks_wipe (by first | assumption | (with_reducible refine H.nam _ ?_; assumption) | with_reducible exact H.links _ (by first | assumption | exact H.sm _ (by omega) (by omega)) | with_reducible exact H.fileA _ (by first | assumption | exact H.sm _ (by omega) (by omega)))) (fun _ _ => ?_) | with_reducible exact (ks_wipe (by first | assumption | (with_reducible refine H.nam _ ?_; assumption) | with_reducible exact H.links _ (by first | assumption | exact H.sm _ (by omega) (by omega)) | with_reducible exact H.fileA _ (by first | assumption | exact H.sm _ (by omega) (by omega)))) | with_reducible refine KS.ite (fun _ => ?_) (fun _ => ?_)
theorem ks_rename (H : Vok V I N) {a b : ByteArray} (ha : N a) (hb : N b) : KS V (fun _ => True) (renameP a b) := by
 unfold renameP
 repeat' first | (with_reducible refine KS.pure _ ?_; first | exact True.intro | (constructor <;> omega) | (constructor <;> (dsimp only; omega))) | with_reducible refine KS.bind (ks_set (by first | assumption | (with_reducible refine H.nam _ ?_; assumption))) (fun _ _ => ?_) | with_reducible refine KS.bind (ks_lay (by first | assumption | (with_reducible refine H.nam _ ?_; assumption))) (fun _ _ => ?_) | (with_reducible refine KS.bind (ks_fileOf H (by assumption)) ?_; rintro v ⟨_, _⟩) | with_reducible refine KS.bind (ks_unlink H (by assumption)) (fun _ _ => ?_) | with_reducible refine KS.ite (fun _ => ?_) (fun _ => ?_)
theorem ks_names (H : Vok V I N) : KS V (fun _ => True) namesP := ⟨H.nA, fun _ _ => trivial⟩
theorem ks_block (H : Vok V I N) {i j : Int} (hi : I i) (h0 : 0 ≤ j) (h1 : j ≤ 1000) : KS V (fun _ => True) (blockP i j) := ⟨H.block i j hi h0 h1, fun _ => trivial⟩
theorem ks_readL (H : Vok V I N) {i : Int} (hi : I i) (a e : Int) (he : e ≤ 2000) : ∀ (n : Nat) (p : Int) (s : ByteArray), 0 ≤ p → KS V (fun _ => True) (readL i a e n p s)
 | 0, _, _, _ => trivial
 | n + 1, p, s, hp => by
  unfold readL;refine KS.ite (fun _ => ?_) (fun _ => KS.pure _ trivial);exact KS.bind (ks_block H hi (by omega) (by omega)) (fun _ _ => ks_readL H hi a e he n _ _ (by omega))
theorem ks_read (H : Vok V I N) {i : Int} (hi : I i) (a n : Int) : KS V (fun _ => True) (readP i a n) := by
 unfold readP;refine KS.bind (ks_num (H.size _ hi)) ?_;rintro v ⟨h1, h2⟩;refine KS.ite (fun _ => KS.pure _ trivial) (fun hq => ?_);exact ks_readL H hi _ _ (by omega) _ _ _ (by omega)
theorem ks_writeL (H : Vok V I N) {i : Int} (hi : I i) (a e : Int) (t : ByteArray) (he : e ≤ 2000) : ∀ (n : Nat) (p : Int), 0 ≤ p → KS V (fun _ => True) (writeL i a e t n p)
 | 0, _, _ => trivial
 | n + 1, p, hp => by
  unfold writeL;refine KS.ite (fun _ => ?_) (fun _ => KS.pure _ trivial);exact KS.bind (ks_block H hi (by omega) (by omega)) (fun _ _ => KS.bind (ks_lay (H.block _ _ hi (by omega) (by omega))) (fun _ _ => ks_writeL H hi a e t he n _ (by omega)))
theorem ks_write (H : Vok V I N) {i : Int} (hi : I i) (a : Int) (t : ByteArray) : KS V (fun _ => True) (writeP i a t) := by
 unfold writeP;refine KS.bind (ks_num (H.size _ hi)) ?_;rintro v ⟨h1, h2⟩;refine KS.ite (fun hq => ?_) (fun _ => KS.pure _ trivial);rw [Bool.and_eq_true] at hq;have hb := inB_iff.1 hq.1;refine KS.ite (fun _ => KS.pure _ trivial) (fun hq2 => ?_);refine KS.bind (ks_writeL H hi _ _ _ (by omega) _ _ (by omega)) (fun _ _ => ?_);exact KS.ite (fun _ => KS.bind (ks_set (H.size _ hi)) (fun _ _ => KS.pure _ trivial)) (fun _ => KS.pure _ trivial)
theorem ks_cutL (H : Vok V I N) {i : Int} (hi : I i) (e : Int) (he : e ≤ 2000) : ∀ (n : Nat) (p : Int), 0 ≤ p → KS V (fun _ => True) (cutL i e n p)
 | 0, _, _ => trivial
 | n + 1, p, hp => by
  unfold cutL;refine KS.ite (fun _ => ?_) (fun _ => KS.pure _ trivial);exact ⟨H.block _ _ hi (by omega) (by omega), ks_cutL H hi e he n _ (by omega)⟩
theorem ks_cut (H : Vok V I N) {i : Int} (hi : I i) (n : Int) : KS V (fun _ => True) (cutP i n) := by
 unfold cutP;refine KS.bind (ks_num (H.size _ hi)) ?_;rintro v ⟨h1, h2⟩;refine KS.ite (fun hq => ?_) (fun _ => KS.pure _ trivial);have hb := inB_iff.1 hq;refine KS.ite (fun _ => ?_) (fun _ => ?_)
 ·exact KS.bind (ks_block H hi (by omega) (by omega)) (fun _ _ => KS.bind (ks_lay (H.block _ _ hi (by omega) (by omega))) (fun _ _ => KS.bind (ks_cutL H hi _ (by omega) _ _ (by omega)) (fun _ _ => KS.bind (ks_set (H.size _ hi)) (fun _ _ => KS.pure _ trivial))))
 ·exact KS.bind (ks_cutL H hi _ (by omega) _ _ (by omega)) (fun _ _ => KS.bind (ks_set (H.size _ hi)) (fun _ _ => KS.pure _ trivial))
theorem ks_mkPipe (H : Vok V I N)  : KS V (fun _ => True) (mkPipeP) := by
 unfold mkPipeP
 repeat' first | (with_reducible refine KS.pure _ ?_; first | exact True.intro | (constructor <;> omega) | (constructor <;> (dsimp only; omega))) | (with_reducible refine KS.bind (ks_num (by first | assumption | with_reducible exact H.cpipe | with_reducible exact H.pipeO _ (by first | assumption | exact H.sm _ (by omega) (by omega)))) ?_; rintro v ⟨_, _⟩) | with_reducible refine KS.bind (ks_set (by first | assumption | with_reducible exact H.cpipe | with_reducible exact H.pipeO _ (by first | assumption | exact H.sm _ (by omega) (by omega)))) (fun _ _ => ?_) | (with_reducible refine KS.bind (ks_bump (by first | assumption | with_reducible exact H.cpipe | with_reducible exact H.pipeO _ (by first | assumption | exact H.sm _ (by omega) (by omega)))) ?_; rintro v ⟨_, _⟩) | with_reducible refine KS.ite (fun _ => ?_) (fun _ => ?_)
theorem ks_isPipe (H : Vok V I N) {i : Int} (hi : I i) : KS V (fun _ => True) (isPipeP i) := KS.bind (ks_num (H.pipeO _ hi)) (fun _ _ => KS.pure _ trivial)
theorem ks_putPipe (H : Vok V I N) {i : Int} (hi : I i) (t : ByteArray) : KS V (fun _ => True) (putPipeP i t) := by
 unfold putPipeP
 repeat' first | (with_reducible refine KS.pure _ ?_; first | exact True.intro | (constructor <;> omega) | (constructor <;> (dsimp only; omega))) | (with_reducible refine KS.bind (ks_num (by first | assumption | with_reducible exact H.pipeT _ (by first | assumption | exact H.sm _ (by omega) (by omega)) | with_reducible exact H.pipeH _ (by first | assumption | exact H.sm _ (by omega) (by omega)) | with_reducible exact H.pipeQ _ _ (by first | assumption | exact H.sm _ (by omega) (by omega)) (by omega) (by omega))) ?_; rintro v ⟨_, _⟩) | with_reducible refine KS.bind (ks_set (by first | assumption | with_reducible exact H.pipeT _ (by first | assumption | exact H.sm _ (by omega) (by omega)) | with_reducible exact H.pipeH _ (by first | assumption | exact H.sm _ (by omega) (by omega)) | with_reducible exact H.pipeQ _ _ (by first | assumption | exact H.sm _ (by omega) (by omega)) (by omega) (by omega))) (fun _ _ => ?_) | with_reducible refine KS.bind (ks_lay (by first | assumption | with_reducible exact H.pipeT _ (by first | assumption | exact H.sm _ (by omega) (by omega)) | with_reducible exact H.pipeH _ (by first | assumption | exact H.sm _ (by omega) (by omega)) | with_reducible exact H.pipeQ _ _ (by first | assumption | exact H.sm _ (by omega) (by omega)) (by omega) (by omega))) (fun _ _ => ?_) | with_reducible refine KS.bind (ks_isPipe H (by first | assumption | exact H.sm _ (by omega) (by omega))) (fun _ _ => ?_) | with_reducible refine KS.ite (fun _ => ?_) (fun _ => ?_)
theorem ks_takePipe (H : Vok V I N) {i : Int} (hi : I i) : KS V (fun _ => True) (takePipeP i) := by
 unfold takePipeP
 repeat' first | (with_reducible refine KS.pure _ ?_; first | exact True.intro | (constructor <;> omega) | (constructor <;> (dsimp only; omega))) | (with_reducible refine KS.bind (ks_num (by first | assumption | with_reducible exact H.pipeT _ (by first | assumption | exact H.sm _ (by omega) (by omega)) | with_reducible exact H.pipeH _ (by first | assumption | exact H.sm _ (by omega) (by omega)) | with_reducible exact H.pipeQ _ _ (by first | assumption | exact H.sm _ (by omega) (by omega)) (by omega) (by omega))) ?_; rintro v ⟨_, _⟩) | with_reducible refine KS.bind (ks_set (by first | assumption | with_reducible exact H.pipeT _ (by first | assumption | exact H.sm _ (by omega) (by omega)) | with_reducible exact H.pipeH _ (by first | assumption | exact H.sm _ (by omega) (by omega)) | with_reducible exact H.pipeQ _ _ (by first | assumption | exact H.sm _ (by omega) (by omega)) (by omega) (by omega))) (fun _ _ => ?_) | with_reducible refine KS.bind (ks_lay (by first | assumption | with_reducible exact H.pipeT _ (by first | assumption | exact H.sm _ (by omega) (by omega)) | with_reducible exact H.pipeH _ (by first | assumption | exact H.sm _ (by omega) (by omega)) | with_reducible exact H.pipeQ _ _ (by first | assumption | exact H.sm _ (by omega) (by omega)) (by omega) (by omega))) (fun _ _ => ?_) | with_reducible refine KS.bind (ks_msg (by first | assumption | with_reducible exact H.pipeT _ (by first | assumption | exact H.sm _ (by omega) (by omega)) | with_reducible exact H.pipeH _ (by first | assumption | exact H.sm _ (by omega) (by omega)) | with_reducible exact H.pipeQ _ _ (by first | assumption | exact H.sm _ (by omega) (by omega)) (by omega) (by omega))) (fun _ _ => ?_) | with_reducible refine KS.bind (ks_isPipe H (by first | assumption | exact H.sm _ (by omega) (by omega))) (fun _ _ => ?_) | with_reducible refine KS.ite (fun _ => ?_) (fun _ => ?_)
theorem ks_spawn (H : Vok V I N) (p : Int) : KS V (fun x => Sm x.1) (spawnP p) := by
 unfold spawnP
 repeat' first | (with_reducible refine KS.pure _ ?_; first | exact True.intro | (constructor <;> omega) | (constructor <;> (dsimp only; omega))) | (with_reducible refine KS.bind (ks_num (by first | assumption | with_reducible exact H.cproc | with_reducible exact H.procS _ (by first | assumption | exact H.sm _ (by omega) (by omega)) | with_reducible exact H.procP _ (by first | assumption | exact H.sm _ (by omega) (by omega)))) ?_; rintro v ⟨_, _⟩) | with_reducible refine KS.bind (ks_set (by first | assumption | with_reducible exact H.cproc | with_reducible exact H.procS _ (by first | assumption | exact H.sm _ (by omega) (by omega)) | with_reducible exact H.procP _ (by first | assumption | exact H.sm _ (by omega) (by omega)))) (fun _ _ => ?_) | (with_reducible refine KS.bind (ks_bump (by first | assumption | with_reducible exact H.cproc | with_reducible exact H.procS _ (by first | assumption | exact H.sm _ (by omega) (by omega)) | with_reducible exact H.procP _ (by first | assumption | exact H.sm _ (by omega) (by omega)))) ?_; rintro v ⟨_, _⟩) | with_reducible refine KS.ite (fun _ => ?_) (fun _ => ?_)
theorem ks_end (H : Vok V I N) {i : Int} (hi : I i) (n : Int) : KS V (fun _ => True) (endP i n) := by
 unfold endP stateP
 repeat' first | (with_reducible refine KS.pure _ ?_; first | exact True.intro | (constructor <;> omega) | (constructor <;> (dsimp only; omega))) | (with_reducible refine KS.bind (ks_num (by first | assumption | with_reducible exact H.procS _ (by first | assumption | exact H.sm _ (by omega) (by omega)) | with_reducible exact H.procX _ (by first | assumption | exact H.sm _ (by omega) (by omega)))) ?_; rintro v ⟨_, _⟩) | with_reducible refine KS.bind (ks_set (by first | assumption | with_reducible exact H.procS _ (by first | assumption | exact H.sm _ (by omega) (by omega)) | with_reducible exact H.procX _ (by first | assumption | exact H.sm _ (by omega) (by omega)))) (fun _ _ => ?_) | with_reducible refine KS.ite (fun _ => ?_) (fun _ => ?_)
theorem ks_reap (H : Vok V I N) {i : Int} (hi : I i) (p : Int) : KS V (fun _ => True) (reapP p i) := by
 unfold reapP stateP
 repeat' first | (with_reducible refine KS.pure _ ?_; first | exact True.intro | (constructor <;> omega) | (constructor <;> (dsimp only; omega))) | (with_reducible refine KS.bind (ks_num (by first | assumption | with_reducible exact H.procP _ (by first | assumption | exact H.sm _ (by omega) (by omega)) | with_reducible exact H.procS _ (by first | assumption | exact H.sm _ (by omega) (by omega)) | with_reducible exact H.procX _ (by first | assumption | exact H.sm _ (by omega) (by omega)) | with_reducible exact H.procA _ (by first | assumption | exact H.sm _ (by omega) (by omega)))) ?_; rintro v ⟨_, _⟩) | with_reducible refine KS.bind (ks_wipe (by first | assumption | with_reducible exact H.procP _ (by first | assumption | exact H.sm _ (by omega) (by omega)) | with_reducible exact H.procS _ (by first | assumption | exact H.sm _ (by omega) (by omega)) | with_reducible exact H.procX _ (by first | assumption | exact H.sm _ (by omega) (by omega)) | with_reducible exact H.procA _ (by first | assumption | exact H.sm _ (by omega) (by omega)))) (fun _ _ => ?_) | with_reducible exact (ks_wipe (by first | assumption | with_reducible exact H.procP _ (by first | assumption | exact H.sm _ (by omega) (by omega)) | with_reducible exact H.procS _ (by first | assumption | exact H.sm _ (by omega) (by omega)) | with_reducible exact H.procX _ (by first | assumption | exact H.sm _ (by omega) (by omega)) | with_reducible exact H.procA _ (by first | assumption | exact H.sm _ (by omega) (by omega)))) | with_reducible refine KS.ite (fun _ => ?_) (fun _ => ?_)
theorem ks_kidsL (p : Int) : ∀ (ks : List ByteArray) (out : List Int), (∀ k ∈ ks, V k) → KS V (fun _ => True) (kidsL p ks out)
 | [], _, _ => trivial
 | k :: ks, out, h => by
  unfold kidsL;exact KS.ite (fun _ => KS.bind (ks_num (h k List.mem_cons_self)) (fun _ _ => ks_kidsL p ks _ (fun x hx => h x (List.mem_cons_of_mem _ hx)))) (fun _ => ks_kidsL p ks _ (fun x hx => h x (List.mem_cons_of_mem _ hx)))
theorem ks_kids (H : Vok V I N) (p : Int) : KS V (fun _ => True) (kidsP p) := ⟨H.rA, fun ks h => ks_kidsL p ks [] (fun k hk => (h k hk).1)⟩
theorem ks_send (H : Vok V I N) {i : Int} (hi : I i) (n : Int) : KS V (fun _ => True) (sendP i n) := by
 unfold sendP stateP
 repeat' first | (with_reducible refine KS.pure _ ?_; first | exact True.intro | (constructor <;> omega) | (constructor <;> (dsimp only; omega))) | (with_reducible refine KS.bind (ks_num (by first | assumption | with_reducible exact H.procS _ (by first | assumption | exact H.sm _ (by omega) (by omega)) | with_reducible exact H.sigT _ (by first | assumption | exact H.sm _ (by omega) (by omega)) | with_reducible exact H.sigH _ (by first | assumption | exact H.sm _ (by omega) (by omega)) | with_reducible exact H.sigQ _ _ (by first | assumption | exact H.sm _ (by omega) (by omega)) (by omega) (by omega))) ?_; rintro v ⟨_, _⟩) | with_reducible refine KS.bind (ks_set (by first | assumption | with_reducible exact H.procS _ (by first | assumption | exact H.sm _ (by omega) (by omega)) | with_reducible exact H.sigT _ (by first | assumption | exact H.sm _ (by omega) (by omega)) | with_reducible exact H.sigH _ (by first | assumption | exact H.sm _ (by omega) (by omega)) | with_reducible exact H.sigQ _ _ (by first | assumption | exact H.sm _ (by omega) (by omega)) (by omega) (by omega))) (fun _ _ => ?_) | with_reducible refine KS.ite (fun _ => ?_) (fun _ => ?_)
theorem ks_takeSig (H : Vok V I N) {i : Int} (hi : I i) : KS V (fun _ => True) (takeSigP i) := by
 unfold takeSigP
 repeat' first | (with_reducible refine KS.pure _ ?_; first | exact True.intro | (constructor <;> omega) | (constructor <;> (dsimp only; omega))) | (with_reducible refine KS.bind (ks_num (by first | assumption | with_reducible exact H.sigH _ (by first | assumption | exact H.sm _ (by omega) (by omega)) | with_reducible exact H.sigT _ (by first | assumption | exact H.sm _ (by omega) (by omega)) | with_reducible exact H.sigQ _ _ (by first | assumption | exact H.sm _ (by omega) (by omega)) (by omega) (by omega))) ?_; rintro v ⟨_, _⟩) | with_reducible refine KS.bind (ks_set (by first | assumption | with_reducible exact H.sigH _ (by first | assumption | exact H.sm _ (by omega) (by omega)) | with_reducible exact H.sigT _ (by first | assumption | exact H.sm _ (by omega) (by omega)) | with_reducible exact H.sigQ _ _ (by first | assumption | exact H.sm _ (by omega) (by omega)) (by omega) (by omega))) (fun _ _ => ?_) | with_reducible refine KS.bind (ks_lay (by first | assumption | with_reducible exact H.sigH _ (by first | assumption | exact H.sm _ (by omega) (by omega)) | with_reducible exact H.sigT _ (by first | assumption | exact H.sm _ (by omega) (by omega)) | with_reducible exact H.sigQ _ _ (by first | assumption | exact H.sm _ (by omega) (by omega)) (by omega) (by omega))) (fun _ _ => ?_) | with_reducible refine KS.ite (fun _ => ?_) (fun _ => ?_)
theorem ks_timer (H : Vok V I N) {i : Int} (hi : I i) (a : Int) : KS V (fun _ => True) (timerP i a) := by
 unfold timerP
 repeat' first | (with_reducible refine KS.pure _ ?_; first | exact True.intro | (constructor <;> omega) | (constructor <;> (dsimp only; omega))) | with_reducible refine KS.bind (ks_set (by first | assumption | with_reducible exact H.timer _ (by first | assumption | exact H.sm _ (by omega) (by omega)))) (fun _ _ => ?_) | with_reducible refine KS.ite (fun _ => ?_) (fun _ => ?_)
theorem ks_tickL (H : Vok V I N) (c : Int) : ∀ (ks : List ByteArray) (n : Int), (∀ k ∈ ks, V k) → KS V (fun _ => True) (tickL c ks n)
 | [], _, _ => trivial
 | k :: ks, n, h => by
  unfold tickL;have hk := h k List.mem_cons_self;have hb := numOf_bounds (drop2 k);refine KS.bind (ks_num hk) (fun _ _ => KS.ite (fun _ => ks_tickL H c ks _ (fun x hx => h x (List.mem_cons_of_mem _ hx))) (fun _ => ?_));exact KS.bind (ks_lay hk) (fun _ _ => KS.bind (ks_send H (H.sm _ hb.1 hb.2) 14) (fun _ _ => ks_tickL H c ks _ (fun x hx => h x (List.mem_cons_of_mem _ hx))))
theorem ks_tick (H : Vok V I N) (n : Int) : KS V (fun _ => True) (tickP n) := by
 unfold tickP;refine KS.ite (fun _ => KS.pure _ trivial) (fun _ => KS.bind (ks_num H.cclock) (fun _ _ => KS.ite (fun _ => KS.pure _ trivial) (fun _ => KS.bind (ks_set H.cclock) (fun _ _ => ?_))));refine KS.bind (Q := fun ks => ∀ k ∈ ks, V k) ⟨H.tA, fun ks h k hk => (h k hk).1⟩ (fun ks h => ?_);exact KS.bind (ks_tickL H _ ks _ h) (fun _ _ => KS.pure _ trivial)
theorem ks_store (H : Vok V I N) {i : Int} (hi : I i) (a : Int) (t : ByteArray) : KS V (fun _ => True) (storeP i a t) := by
 unfold storeP;refine KS.ite (fun hq => ?_) (fun _ => KS.pure _ trivial);rw [Bool.and_eq_true] at hq;have hb := inB_iff.1 hq.1;exact KS.bind (ks_lay (H.page _ _ hi (by omega) (by omega))) (fun _ _ => KS.pure _ trivial)
theorem ks_load (H : Vok V I N) {i : Int} (hi : I i) (a : Int) : KS V (fun _ => True) (loadP i a) := by
 unfold loadP;refine KS.ite (fun hq => ?_) (fun _ => KS.pure _ trivial);have hb := inB_iff.1 hq;exact KS.bind (ks_msg (H.page _ _ hi (by omega) (by omega))) (fun _ _ => KS.pure _ trivial)
theorem ks_forkL (H : Vok V I N) (a b : Int) (h0 : 0 ≤ b) (h1 : b ≤ 999) : ∀ ks : List ByteArray, (∀ k ∈ ks, V k ∧ beginsB k (pagesK a) = true) → KS V (fun _ => True) (forkL (pagesK a) (pagesK b) ks)
 | [], _ => trivial
 | k :: ks, h => by
  have hk := h k List.mem_cons_self;exact ⟨hk.1, fun v => ⟨H.fork a b k h0 h1 hk.1 hk.2, ks_forkL H a b h0 h1 ks (fun x hx => h x (List.mem_cons_of_mem _ hx))⟩⟩
theorem ks_fork (H : Vok V I N) {a b : Int} (ha : I a) (h0 : 0 ≤ b) (h1 : b ≤ 999) : KS V (fun _ => True) (forkP a b) := ⟨H.pagesA _ ha, fun ks h => ks_forkL H a b h0 h1 ks h⟩
theorem ks_putOut (H : Vok V I N) (t : ByteArray) : KS V (fun _ => True) (putOutP t) := by
 unfold putOutP
 repeat' first | (with_reducible refine KS.pure _ ?_; first | exact True.intro | (constructor <;> omega) | (constructor <;> (dsimp only; omega))) | (with_reducible refine KS.bind (ks_num (by first | assumption | with_reducible exact H.dn | with_reducible exact H.out _ (by omega) (by omega))) ?_; rintro v ⟨_, _⟩) | with_reducible refine KS.bind (ks_set (by first | assumption | with_reducible exact H.dn | with_reducible exact H.out _ (by omega) (by omega))) (fun _ _ => ?_) | with_reducible refine KS.bind (ks_lay (by first | assumption | with_reducible exact H.dn | with_reducible exact H.out _ (by omega) (by omega))) (fun _ _ => ?_) | with_reducible refine KS.ite (fun _ => ?_) (fun _ => ?_)
theorem ks_file (H : Vok V I N) (c : Cal) (hn : N c.name) : KS V (fun _ => True) (fileP c) := by
 unfold fileP;refine KS.bind (ks_fileOf H hn) ?_;rintro v ⟨h1, h2⟩;have hi := H.sm v h1 h2;refine KS.ite (fun _ => KS.pure _ trivial) (fun _ => KS.ite (fun _ => KS.bind (ks_read H hi _ _) (fun _ _ => KS.pure _ trivial)) (fun _ => KS.ite (fun _ => KS.bind (ks_write H hi _ _) (fun _ _ => KS.pure _ trivial)) (fun _ => KS.bind (ks_cut H hi _) (fun _ _ => KS.pure _ trivial))))
theorem ks_spawnAll (H : Vok V I N) {p : Int} (hp : I p) : KS V (fun _ => True) (spawnAllP p) := by
 unfold spawnAllP;refine KS.bind (ks_spawn H p) (fun x hx => KS.ite (fun _ => KS.bind (ks_fork H hp hx.1 hx.2) (fun _ _ => KS.pure _ trivial)) (fun _ => KS.pure _ trivial))
theorem ks_endAll (H : Vok V I N) {p : Int} (hp : I p) (n : Int) : KS V (fun _ => True) (endAllP p n) := by
 unfold endAllP dropPagesP;exact KS.bind (ks_end H hp n) (fun x hx => KS.ite (fun _ => KS.bind (ks_wipe (H.pagesA _ hp)) (fun _ _ => KS.pure _ trivial)) (fun _ => KS.pure _ trivial))
theorem ks_kind (H : Vok V I N) {p : Int} (c : Cal) (hp : I p) (ha : I c.a) (hn : N c.name) (hd : N c.dest) : KS V (fun _ => True) (kindP p c) := by
 unfold kindP;have Z : ∀ {β : Type} {x : Pg β} {g : β → Ans} {Q : β → Prop}, KS V Q x → KS V (fun _ => True) (x >>= fun v => pure (g v)) := fun h => KS.bind h (fun _ _ => KS.pure _ trivial);refine KS.ite (fun _ => Z (ks_make H hn)) (fun _ => ?_);refine KS.ite (fun _ => Z (ks_link H hn hd)) (fun _ => ?_);refine KS.ite (fun _ => Z (ks_unlink H hn)) (fun _ => ?_);refine KS.ite (fun _ => Z (ks_rename H hn hd)) (fun _ => ?_);refine KS.ite (fun _ => Z (ks_names H)) (fun _ => ?_);refine KS.ite (fun _ => ks_file H c hn) (fun _ => ?_);refine KS.ite (fun _ => Z (ks_mkPipe H)) (fun _ => ?_);refine KS.ite (fun _ => Z (ks_putPipe H ha _)) (fun _ => ?_);refine KS.ite (fun _ => Z (ks_takePipe H ha)) (fun _ => ?_);refine KS.ite (fun _ => ks_spawnAll H hp) (fun _ => ?_);refine KS.ite (fun _ => ks_endAll H hp _) (fun _ => ?_);refine KS.ite (fun _ => Z (ks_reap H ha _)) (fun _ => ?_);refine KS.ite (fun _ => Z (ks_kids H _)) (fun _ => ?_);refine KS.ite (fun _ => Z (ks_send H ha _)) (fun _ => ?_);refine KS.ite (fun _ => Z (ks_takeSig H hp)) (fun _ => ?_);refine KS.ite (fun _ => Z (ks_timer H hp _)) (fun _ => ?_);refine KS.ite (fun _ => Z (ks_tick H _)) (fun _ => ?_);refine KS.ite (fun _ => Z (ks_store H hp _ _)) (fun _ => ?_);refine KS.ite (fun _ => Z (ks_load H hp _)) (fun _ => ?_);exact Z (ks_putOut H _)
theorem ks_call (H : Vok V I N) {p : Int} (c : Cal) (hp : I p) (ha : I c.a) (hn : N c.name) (hd : N c.dest) : KS V (fun _ => True) (callP p c) := by
 unfold callP stateP;exact KS.bind (ks_num (H.procS _ hp)) (fun _ _ => KS.ite (fun _ => KS.ite (fun _ => ks_kind H c hp ha hn hd) (fun _ => KS.pure _ trivial)) (fun _ => KS.pure _ trivial))
end Go.Proofs.YtihghflppegnmaaGreatDoor
