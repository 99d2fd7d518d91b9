/- Lemmas and contracts that the last text leans on, joined: BootK, COut, Join, SG, RegI, EqCString, Touch, JoinS, BQ, BF, SGB, KS5. Conditions: as each theorem says. -/
import Derived.Test.YtihghflppegnmaaGreatDoorCw5
import Derived.Test.YtihghflppegnmaaGreatDoorCw7
import Derived.Test.YtihghflppegnmaaGreatDoorCw1
import Derived.Test.YtihghflppegnmaaGreatDoorProg
import Derived.WalkKit
import Derived.WalkSpells
import Derived.WalkLawsBesides
import Derived.Lib.Hide
import Derived.Deep.RegionHeld3
import Derived.Deep.DrawnRows
import Derived.Test.YtihghflppegnmaaGreatDoorCw2
import Derived.Deep.CutRange
import Derived.Deep.RegionWith
import Derived.Test.YtihghflppegnmaaGreatDoorCw6
set_option linter.unusedSimpArgs false
set_option linter.unusedVariables false
namespace Go.Proofs.YtihghflppegnmaaGreatDoor
open Go.ChangeShapes Go.WideShapes Go.ChangeAt Go.RowKit
attribute [local go_sem ↓] Go.wp_at_zero Go.wp_at_succ
theorem reads_set {α : Type} {W : World} {a : Option Addr} {k : Nat} {enc : α → List Value} {xs : List α} (h : Reads W a k enc xs) {c : Nat} (hc : ∀ b o, a = some ⟨b, o, none⟩ → b ≠ c) (i : Nat) (v : Value) : Reads (W.setCell ⟨c, i, none⟩ v) a k enc xs := by
 have gs := grownBy_setCell W c i v;rcases h with h | ⟨b', o', h', hlt, h2⟩
 ·exact .inl h
 ·refine Reads.grow (.inr ⟨b', o', h', hlt, h2⟩) gs.size (fun b o e => ?_);rw [h'] at e;have hb : b' = b := by cases e; rfl
  exact gs.block b (hb ▸ hlt) (fun e2 => hc b o (by rw [h', e]) (Option.some.inj e2))
end Go.Proofs.YtihghflppegnmaaGreatDoor
namespace Go.Proofs.YtihghflppegnmaaGreatDoor
open Go.ChangeShapes Go.WideShapes Go.ChangeAt Go.RowKit
structure COuts (m : Mch) (base : Nat) (u1 u2 u3 : Value) (W : World) : Prop where
 o1 : W.ownsRow base 99 2 u1 m.st.length (m.st.flatMap encC)
 o2 : W.ownsRow base 9 1 u2 m.rs.length (m.rs.flatMap encS)
 o3 : W.ownsRow base 9 1 u3 m.ws.length (m.ws.flatMap encS)
abbrev cTup (an : Ans) (u1 u2 u3 : Value) : Value := .tuple #[u1, .agg #[.int .i64 an.code, .int .i64 an.n, .string an.text], .agg #[u2, u3]]
def COutS (m : Mch) (an : Ans) (base : Nat) (u : Value) (W : World) : Prop := ∃ u1 u2 u3, u = cTup an u1 u2 u3 ∧ COuts m base u1 u2 u3 W
def COwn (u : Value) (k : Nat) : Prop := ∃ u1 x u2 u3, u = .tuple #[u1, x, .agg #[u2, u3]] ∧ (u1.ownBlock = some k ∨ u2.ownBlock = some k ∨ u3.ownBlock = some k)
def CRetS (m : Mch) (an : Ans) (w : World) (e : Ending) (w' : World) : Prop := ∃ u1 u2 u3, e = .returned (cTup an u1 u2 u3) ∧ Below w.heap.size w w' ∧ COuts m w.heap.size u1 u2 u3 w'
theorem COuts.below {m : Mch} {base : Nat} {u1 u2 u3 : Value} {W W' : World} (h : COuts m base u1 u2 u3 W) (hb : Below W.heap.size W W') : COuts m base u1 u2 u3 W' :=
 ⟨ownsRow_below h.o1 hb, ownsRow_below h.o2 hb, ownsRow_below h.o3 hb⟩
theorem COuts.base {m : Mch} {base base' : Nat} {u1 u2 u3 : Value} {W : World} (h : COuts m base u1 u2 u3 W) (hb : base' ≤ base) : COuts m base' u1 u2 u3 W :=
 ⟨ownsRow_base h.o1 hb, ownsRow_base h.o2 hb, ownsRow_base h.o3 hb⟩
theorem COutS.below {m : Mch} {an : Ans} {base : Nat} {u : Value} {W W' : World} (h : COutS m an base u W) (hb : Below W.heap.size W W') : COutS m an base u W' := by
 obtain ⟨u1, u2, u3, e, h⟩ := h;exact ⟨u1, u2, u3, e, h.below hb⟩
theorem COuts.set {m : Mch} {base : Nat} {u1 u2 u3 : Value} {W : World} (h : COuts m base u1 u2 u3 W) {b : Nat} (f : u1.ownBlock ≠ some b ∧ u2.ownBlock ≠ some b ∧ u3.ownBlock ≠ some b) (i : Nat) (v : Value) : COuts m base u1 u2 u3 (W.setCell ⟨b, i, none⟩ v) := by
 have gs := grownBy_setCell W b i v;exact ⟨h.o1.kept gs (.inr f.1), h.o2.kept gs (.inr f.2.1), h.o3.kept gs (.inr f.2.2)⟩
theorem cown_of {m : Mch} {an : Ans} {base : Nat} {u1 u2 u3 : Value} {W : World} (h : COuts m base u1 u2 u3 W) : ∀ k, COwn (cTup an u1 u2 u3) k → base ≤ k ∧ k < W.heap.size := by
 rintro k ⟨v1, x, v2, v3, e, hk⟩;cases e;rcases hk with e | e | e
 ·exact h.o1.lt k e
 ·exact h.o2.lt k e
 ·exact h.o3.lt k e
theorem crets_out {m : Mch} {an : Ans} {w w' : World} {e : Ending} {base : Nat} (h : CRetS m an w e w') (hb : base ≤ w.heap.size) : ∃ u, e = .returned u ∧ Below w.heap.size w w' ∧ COutS m an base u w' ∧ ∀ k, COwn u k → w.heap.size ≤ k ∧ k < w'.heap.size := by
 obtain ⟨u1, u2, u3, rfl, hbl, h⟩ := h;exact ⟨_, rfl, hbl, ⟨u1, u2, u3, rfl, h.base hb⟩, cown_of h⟩
theorem reads_owns2 {α : Type} {w : World} {base e K : Nat} {a : Option Addr} {n cap : Nat} {enc : α → List Value} {xs : List α} (hk : ∀ x, (enc x).length = K) (h : w.ownsRow base e K (.slice a n cap) xs.length (xs.flatMap enc)) : Reads w a K enc xs := by
 obtain ⟨a', c', hv, hr⟩ := reads_of_owns hk h;cases hv;exact hr
theorem COuts.vals {m : Mch} {base : Nat} {u1 u2 u3 : Value} {W : World} (h : COuts m base u1 u2 u3 W) : ∃ a1 c1 a2 c2 a3 c3, u1 = .slice a1 m.st.length c1 ∧ u2 = .slice a2 m.rs.length c2 ∧ u3 = .slice a3 m.ws.length c3 := by
 obtain ⟨a1, c1, h1, _⟩ := reads_of_owns encC_len h.o1;obtain ⟨a2, c2, h2, _⟩ := reads_of_owns encS_len h.o2;obtain ⟨a3, c3, h3, _⟩ := reads_of_owns encS_len h.o3;exact ⟨a1, c1, a2, c2, a3, c3, h1, h2, h3⟩
theorem COutS.outs {m : Mch} {an : Ans} {base : Nat} {u1 u2 u3 x : Value} {W : World} (h : COutS m an base (.tuple #[u1, x, .agg #[u2, u3]]) W) : COuts m base u1 u2 u3 W := by
 obtain ⟨v1, v2, v3, e, h⟩ := h;cases e;exact h
abbrev Off3 (u1 u2 u3 : Value) (b : Nat) : Prop := u1.ownBlock ≠ some b ∧ u2.ownBlock ≠ some b ∧ u3.ownBlock ≠ some b
theorem not_cown {u1 u2 u3 x : Value} {b : Nat} (h : ¬ COwn (.tuple #[u1, x, .agg #[u2, u3]]) b) : Off3 u1 u2 u3 b :=
 ⟨fun e => h ⟨_, _, _, _, rfl, .inl e⟩, fun e => h ⟨_, _, _, _, rfl, .inr (.inl e)⟩, fun e => h ⟨_, _, _, _, rfl, .inr (.inr e)⟩⟩
theorem below_set {B : Nat} {w W : World} (h : Below B w W) {b : Nat} (hb : B ≤ b) (i : Nat) (v : Value) : Below B w (W.setCell ⟨b, i, none⟩ v) := Below.setCell (p := ⟨b, i, none⟩) h hb v
structure TwoB (m : Mch) (base : Nat) (u1 u2 u3 : Value) (b1 b2 : Nat) (xs ys : List Value) (w0 W : World) : Prop where
 x1 : Box W b1 xs
 x2 : Box W b2 ys
 outs : COuts m base u1 u2 u3 W
 bel : Below base w0 W
 g1 : base ≤ b1
 g2 : base ≤ b2
 ne : b1 ≠ b2
 f1 : Off3 u1 u2 u3 b1
 f2 : Off3 u1 u2 u3 b2
section
variable {m : Mch} {base : Nat} {u1 u2 u3 : Value} {b1 b2 : Nat} {xs ys : List Value} {w0 W W' : World}
theorem TwoB.set1 (h : TwoB m base u1 u2 u3 b1 b2 xs ys w0 W) (i : Nat) (v : Value) : TwoB m base u1 u2 u3 b1 b2 (xs.set i v) ys w0 (W.setCell ⟨b1, i, none⟩ v) :=
 ⟨box_put h.x1 i v, box_far2 h.x2 h.ne.symm i v, h.outs.set h.f1 i v, below_set h.bel h.g1 i v, h.g1, h.g2, h.ne, h.f1, h.f2⟩
theorem TwoB.set2 (h : TwoB m base u1 u2 u3 b1 b2 xs ys w0 W) (i : Nat) (v : Value) : TwoB m base u1 u2 u3 b1 b2 xs (ys.set i v) w0 (W.setCell ⟨b2, i, none⟩ v) :=
 ⟨box_far2 h.x1 h.ne i v, box_put h.x2 i v, h.outs.set h.f2 i v, below_set h.bel h.g2 i v, h.g1, h.g2, h.ne, h.f1, h.f2⟩
end
end Go.Proofs.YtihghflppegnmaaGreatDoor
namespace Go.Proofs.YtihghflppegnmaaGreatDoor
open Go.RowKit
theorem mem_addS {y x : ByteArray} : ∀ {L : List ByteArray}, y ∈ addS L x ↔ y = x ∨ y ∈ L
 | [] => by simp [addS]
 | z :: L => by
  unfold addS;split
  ·rw [List.mem_cons, mem_addS, List.mem_cons];constructor
   ·rintro (h | h | h) <;> simp [h]
   ·rintro (h | h | h) <;> simp [h]
  ·split
   ·rename_i h;have := eqB_iff.1 h;subst this;simp
   ·simp
def RisingK (L : List ByteArray) : Prop := L.Pairwise (fun a b => ltB a b = true)
theorem rising_addS {x : ByteArray} : ∀ {L : List ByteArray}, RisingK L → RisingK (addS L x)
 | [], _ => List.pairwise_singleton _ _
 | z :: L, h => by
  have h1 := List.pairwise_cons.1 h;unfold addS;split
  ·rename_i hz;refine List.pairwise_cons.2 ⟨fun y hy => ?_, rising_addS h1.2⟩;rcases mem_addS.1 hy with rfl | hy
   ·exact hz
   ·exact h1.1 y hy
  ·rename_i hz;split
   ·exact h
   ·rename_i he;have hxz : ltB x z = true := ltB_tri' (by simpa using hz) (fun e => he (eqB_iff.2 e));refine List.pairwise_cons.2 ⟨fun y hy => ?_, h⟩;rcases List.mem_cons.1 hy with rfl | hy
    ·exact hxz
    ·exact ltB_trans hxz (h1.1 y hy)
theorem rising_cons_mem {a b : ByteArray} {L M : List ByteArray} (h1 : RisingK (a :: L)) (h2 : RisingK (b :: M)) (h : ∀ y, y ∈ a :: L ↔ y ∈ b :: M) : a = b := by
 have p1 := List.pairwise_cons.1 h1;have p2 := List.pairwise_cons.1 h2;rcases List.mem_cons.1 ((h a).1 List.mem_cons_self) with e | ha
 ·exact e
 ·rcases List.mem_cons.1 ((h b).2 List.mem_cons_self) with e | hb
  ·exact e.symm
  ·have q1 := p2.1 a ha;have q2 := p1.1 b hb;rw [ltB_asym q1] at q2;cases q2
theorem rising_ext : ∀ {L M : List ByteArray}, RisingK L → RisingK M → (∀ y, y ∈ L ↔ y ∈ M) → L = M
 | [], [], _, _, _ => rfl
 | [], b :: M, _, _, h => absurd ((h b).2 List.mem_cons_self) (by simp)
 | a :: L, [], _, _, h => absurd ((h a).1 List.mem_cons_self) (by simp)
 | a :: L, b :: M, h1, h2, h => by
  have e := rising_cons_mem h1 h2 h;subst e;have p1 := List.pairwise_cons.1 h1;have p2 := List.pairwise_cons.1 h2;have e : L = M := rising_ext p1.2 p2.2 (fun y => by
   constructor
   ·intro hy;rcases List.mem_cons.1 ((h y).1 (List.mem_cons_of_mem _ hy)) with e | h3
    ·have := p1.1 y hy;rw [e, ltB_irr] at this;cases this
    ·exact h3
   ·intro hy;rcases List.mem_cons.1 ((h y).2 (List.mem_cons_of_mem _ hy)) with e | h3
    ·have := p2.1 y hy;rw [e, ltB_irr] at this;cases this
    ·exact h3)
  rw [e]
def joinS (a b : List ByteArray) : List ByteArray := b.foldl addS a
theorem mem_joinS {y : ByteArray} : ∀ (b a : List ByteArray), y ∈ joinS a b ↔ y ∈ a ∨ y ∈ b
 | [], a => by simp [joinS]
 | x :: b, a => by
  show y ∈ joinS (addS a x) b ↔ _;rw [mem_joinS b, mem_addS, List.mem_cons];constructor
  ·rintro ((h | h) | h)
   ·exact .inr (.inl h)
   ·exact .inl h
   ·exact .inr (.inr h)
  ·rintro (h | h | h)
   ·exact .inl (.inr h)
   ·exact .inl (.inl h)
   ·exact .inr h
theorem rising_joinS : ∀ (b : List ByteArray) {a : List ByteArray}, RisingK a → RisingK (joinS a b)
 | [], _, h => h
 | _ :: b, _, h => rising_joinS b (rising_addS h)
theorem joinS_nil {a : List ByteArray} (h : RisingK a) : joinS [] a = a := rising_ext (rising_joinS _ List.Pairwise.nil) h (fun y => by rw [mem_joinS]; simp)
theorem joinS_assoc {a b c : List ByteArray} (h : RisingK a) (h2 : RisingK b) : joinS (joinS a b) c = joinS a (joinS b c) :=
 rising_ext (rising_joinS _ (rising_joinS _ h)) (rising_joinS _ h) (fun y => by
  rw [mem_joinS, mem_joinS, mem_joinS, mem_joinS, or_assoc])
theorem joinS_add {a : List ByteArray} (h : RisingK a) (k : ByteArray) (R : List ByteArray) : joinS (addS a k) R = joinS a (joinS (addS [] k) R) := by
 have e : addS a k = joinS a (addS [] k) := rfl;rw [e];exact joinS_assoc h (rising_addS List.Pairwise.nil)
theorem run_join {α : Type} (x : Pg α) : ∀ (s : Sto) (rs ws : List ByteArray), RisingK rs → RisingK ws →
 (x.run ⟨s, rs, ws⟩).1.rs = joinS rs (x.run ⟨s, [], []⟩).1.rs ∧ (x.run ⟨s, rs, ws⟩).1.ws = joinS ws (x.run ⟨s, [], []⟩).1.ws ∧ (x.run ⟨s, rs, ws⟩).1.st = (x.run ⟨s, [], []⟩).1.st ∧ (x.run ⟨s, rs, ws⟩).2 = (x.run ⟨s, [], []⟩).2 ∧ RisingK (x.run ⟨s, rs, ws⟩).1.rs ∧ RisingK (x.run ⟨s, rs, ws⟩).1.ws := by
 have rnil : RisingK [] := List.Pairwise.nil
 induction x with
 | ret a => intro s rs ws h1 h2; exact ⟨rfl, rfl, rfl, rfl, h1, h2⟩
 | look k f ih =>
  intro s rs ws h1 h2;obtain ⟨a1, a2, a3, a4, a5, a6⟩ := ih (getKeyS s k) s (addS rs k) ws (rising_addS h1) h2;obtain ⟨b1, b2, b3, b4, _, _⟩ := ih (getKeyS s k) s (addS [] k) [] (rising_addS rnil) rnil;exact ⟨a1.trans ((joinS_add h1 k _).trans (congrArg (joinS rs) b1.symm)), a2.trans (congrArg (joinS ws) ((b2.trans (joinS_nil (by have h := (ih (getKeyS s k) s [] [] rnil rnil).2.2.2.2.2; exact h))).symm)), a3.trans b3.symm, a4.trans b4.symm, a5, a6⟩
 | lay k v f ih =>
  intro s rs ws h1 h2;obtain ⟨a1, a2, a3, a4, a5, a6⟩ := ih (putKeyS s k v) rs (addS ws k) h1 (rising_addS h2);obtain ⟨b1, b2, b3, b4, _, _⟩ := ih (putKeyS s k v) [] (addS [] k) rnil (rising_addS rnil);exact ⟨a1.trans (congrArg (joinS rs) ((b1.trans (joinS_nil (by have h := (ih (putKeyS s k v) [] [] rnil rnil).2.2.2.2.1; exact h))).symm)), a2.trans ((joinS_add h2 k _).trans (congrArg (joinS ws) b2.symm)), a3.trans b3.symm, a4.trans b4.symm, a5, a6⟩
 | under p f ih =>
  intro s rs ws h1 h2;obtain ⟨a1, a2, a3, a4, a5, a6⟩ := ih (keysU s p) s (addS rs (starK p)) ws (rising_addS h1) h2;obtain ⟨b1, b2, b3, b4, _, _⟩ := ih (keysU s p) s (addS [] (starK p)) [] (rising_addS rnil) rnil;exact ⟨a1.trans ((joinS_add h1 (starK p) _).trans (congrArg (joinS rs) b1.symm)), a2.trans (congrArg (joinS ws) ((b2.trans (joinS_nil (by have h := (ih (keysU s p) s [] [] rnil rnil).2.2.2.2.2; exact h))).symm)), a3.trans b3.symm, a4.trans b4.symm, a5, a6⟩
noncomputable def stepI (p : Mch × List Ans) (x : Stp) : Mch × List Ans := (((callP x.proc x.call).run p.1).1, p.2 ++ [((callP x.proc x.call).run p.1).2])
noncomputable def runI (xs : List Stp) (m : Mch) : Mch × List Ans := xs.foldl stepI (m, [])
noncomputable def stepT (p : Mch × List Ans) (x : Stp) : Mch × List Ans :=
 (⟨((callP x.proc x.call).run ⟨p.1.st, [], []⟩).1.st, joinS p.1.rs ((callP x.proc x.call).run ⟨p.1.st, [], []⟩).1.rs, joinS p.1.ws ((callP x.proc x.call).run ⟨p.1.st, [], []⟩).1.ws⟩, p.2 ++ [((callP x.proc x.call).run ⟨p.1.st, [], []⟩).2])
noncomputable def runT (xs : List Stp) (m : Mch) : Mch × List Ans := xs.foldl stepT (m, [])
def RMch (m : Mch) : Prop := RisingK m.rs ∧ RisingK m.ws
theorem step_same (p : Mch × List Ans) (x : Stp) (h : RMch p.1) : stepI p x = stepT p x ∧ RMch (stepI p x).1 := by
 obtain ⟨⟨s, rs, ws⟩, qs⟩ := p;obtain ⟨a1, a2, a3, a4, a5, a6⟩ := run_join (callP x.proc x.call) s rs ws h.1 h.2;refine ⟨?_, a5, a6⟩;unfold stepI stepT;dsimp only;rw [← a1, ← a2, ← a3, ← a4]
theorem fold_same : ∀ (xs : List Stp) (p : Mch × List Ans), RMch p.1 → xs.foldl stepI p = xs.foldl stepT p ∧ RMch (xs.foldl stepI p).1
 | [], p, h => ⟨rfl, h⟩
 | x :: xs, p, h => by
  obtain ⟨e, h2⟩ := step_same p x h;obtain ⟨e2, h3⟩ := fold_same xs (stepI p x) h2;exact ⟨by rw [List.foldl_cons, List.foldl_cons, ← e, e2], h3⟩
theorem run_same (xs : List Stp) (s : Sto) : runI xs ⟨s, [], []⟩ = runT xs ⟨s, [], []⟩ := (fold_same xs (⟨s, [], []⟩, []) ⟨List.Pairwise.nil, List.Pairwise.nil⟩).1
theorem runI_snoc (xs : List Stp) (x : Stp) (m : Mch) : runI (xs ++ [x]) m = stepI (runI xs m) x := by unfold runI; rw [List.foldl_append]; rfl
theorem runT_snoc (xs : List Stp) (x : Stp) (m : Mch) : runT (xs ++ [x]) m = stepT (runT xs m) x := by unfold runT; rw [List.foldl_append]; rfl
theorem runI_len : ∀ (xs : List Stp) (p : Mch × List Ans), (xs.foldl stepI p).2.length = p.2.length + xs.length
 | [], p => by simp
 | x :: xs, p => by
  rw [List.foldl_cons, runI_len xs];show (p.2 ++ [_]).length + xs.length = _;rw [List.length_append, List.length_singleton, List.length_cons];omega
end Go.Proofs.YtihghflppegnmaaGreatDoor
namespace Go.Proofs.YtihghflppegnmaaGreatDoor
open Go.ChangeShapes Go.WideShapes Go.ChangeAt Go.RowKit
theorem pgz : (∀ {α β : Type} (x : Pg α) (g : α → Pg β) (m : Mch), (x >>= g).run m = (g (x.run m).2).run (x.run m).1) ∧ (∀ {α : Type} (a : α) (m : Mch), (pure a : Pg α).run m = (m, a)) ∧ (∀ {α : Type} (a : α) (m : Mch), (Pg.ret a).run m = (m, a)) ∧
 (decide True = true) ∧ (decide False = false) ∧ (∀ {α : Type} (a b : α), (a ≠ b) = ¬ (a = b)) ∧ (∀ {α : Type} (a : α), (a = a) = True) :=
 ⟨Pg.run_bind, Pg.run_pure, Pg.run_ret, by decide, by decide, fun _ _ => rfl, fun _ => eq_self _⟩
theorem leaf {α : Type} {x : Pg α} {m m' : Mch} {r : α} (H : Hid (x.run m = (m', r))) (a : Mch) (b : α) (h : x.run m = (a, b)) : a = m' ∧ b = r := Prod.mk.inj (h.symm.trans H.out)
theorem leaf3 {α β : Type} {x : Pg (α × β)} {m m' : Mch} {r : α} {s : β} (H : Hid (x.run m = (m', (r, s)))) (a : Mch) (b : α) (c : β) (h : x.run m = (a, (b, c))) : a = m' ∧ b = r ∧ c = s := by
 obtain ⟨h1, h2⟩ := Prod.mk.inj (h.symm.trans H.out);exact ⟨h1, Prod.mk.inj h2⟩
section
variable {P : Program} {ops : Array Oper} {Q : Exit → Act → World → Prop} {md : Region.Mode} {S : World → Prop} {Y : List Nat} {fuel : Nat} {listed : Array Bool} {a a' : Act} {w w' : World} {v : Value} {oi : Oper} (i : Nat)
theorem pL (hS : S w) (h : wpAnyY P md ops Q S Y fuel (listed.setIfInBounds i true) a' w) (hi : ops[i]? = some oi := by rfl)
 (hy : ∀ w, S w → (execOp a.eval oi).run P w = .ok (.value v) w := by intro w h; go_simp <;> with_reducible rfl)
 (ha : a.put oi.dst v = a' := by ((try simp only [Act.put, sqz]) <;> with_reducible rfl))
 (hs : Region.noSelect ops = true := by kernel_rfl) (hf : Region.free md ops listed i = true := by kernel_rfl) (hr : (Region.ready md ops listed).contains i = true := by kernel_rfl)
 (hst : (!(Y.contains i) && Y.all (fun y => waits md ops 12 y i) && closedB md ops listed && !(anyOf Y listed)) = true := by kernel_rfl)
 (hQ : ∀ c a v w, Q (.panic c) (a.put oi.dst v) w → Q (.panic c) a w := by exact fun _ _ _ _ h => h) (hg : Region.wanted oi (yielded ops a.tmps) = true := by rfl) : wpAnyY P md ops Q S Y (fuel + 1) listed a w := by
 subst ha;exact gL i hS ⟨v, hy, h⟩ hi hs hf hr hst hQ hg
theorem pU (hS : S w) (h : wpAnyY P md ops Q S Y fuel (listed.setIfInBounds i true) a' w) (hi : ops[i]? = some oi := by rfl)
 (hy : ∀ w, (execOp a.eval oi).run P w = .ok (.value v) w := by intro w; go_simp <;> with_reducible rfl)
 (ha : a.put oi.dst v = a' := by ((try simp only [Act.put, sqz]) <;> with_reducible rfl))
 (hs : Region.noSelect ops = true := by kernel_rfl) (hf : Region.free md ops listed i = true := by kernel_rfl) (hr : (Region.ready md ops listed).contains i = true := by kernel_rfl)
 (hst : Y.contains i = false := by kernel_rfl)
 (hQ : ∀ c a v w, Q (.panic c) (a.put oi.dst v) w → Q (.panic c) a w := by exact fun _ _ _ _ h => h) (hg : Region.wanted oi (yielded ops a.tmps) = true := by rfl) : wpAnyY P md ops Q S Y (fuel + 1) listed a w := by
 subst ha;exact gU1 i hS ⟨v, hy, h⟩ hi hs hf hr hst hQ hg
theorem pW (h : wpAnyY P md ops Q S Y fuel (listed.setIfInBounds i true) a' w) (hS : anyOf Y listed = true := by kernel_rfl) (hi : ops[i]? = some oi := by rfl)
 (hy : ∀ w, (execOp a.eval oi).run P w = .ok (.value v) w := by intro w; go_simp <;> with_reducible rfl)
 (ha : a.put oi.dst v = a' := by ((try simp only [Act.put, sqz]) <;> with_reducible rfl))
 (hs : Region.noSelect ops = true := by kernel_rfl) (hf : Region.free md ops listed i = true := by kernel_rfl) (hr : (Region.ready md ops listed).contains i = true := by kernel_rfl)
 (hst : Y.contains i = false := by kernel_rfl)
 (hQ : ∀ c a v w, Q (.panic c) (a.put oi.dst v) w → Q (.panic c) a w := by exact fun _ _ _ _ h => h) (hg : Region.wanted oi (yielded ops a.tmps) = true := by rfl) : wpAnyY P md ops Q S Y (fuel + 1) listed a w := by
 subst ha;exact gU0 i ⟨v, hy, h⟩ hS hi hs hf hr hst hQ hg
theorem pS (h : wpAnyY P md ops Q S Y fuel (listed.setIfInBounds i true) a' w') (hi : ops[i]? = some oi := by rfl)
 (hw : ∀ K : Act → World → Prop, Hid (K a' w') → if Region.wanted oi (yielded ops a.tmps) = true then Oper.wp P oi a w K Q else K (a.put oi.dst undef) w := by intro K hK; go_simp; (try simp only [Act.put, sqz]); with_reducible exact hK.out)
 (hc : anyOf Y (listed.setIfInBounds i true) = true := by kernel_rfl) (hr : Region.ready md ops listed = [i] := by kernel_rfl) : wpAnyY P md ops Q S Y (fuel + 1) listed a w :=
 wpO i (fun K hK => hw K (hK.out _ _ (.inl hc) h)) hr hi
theorem pT (hS : S w') (h : wpAnyY P md ops Q S Y fuel (listed.setIfInBounds i true) a' w') (hi : ops[i]? = some oi := by rfl)
 (hw : ∀ K : Act → World → Prop, Hid (K a' w') → if Region.wanted oi (yielded ops a.tmps) = true then Oper.wp P oi a w K Q else K (a.put oi.dst undef) w := by intro K hK; go_simp; (try simp only [Act.put, sqz]); with_reducible exact hK.out)
 (hr : Region.ready md ops listed = [i] := by kernel_rfl) : wpAnyY P md ops Q S Y (fuel + 1) listed a w :=
 wpO i (fun K hK => hw K (hK.out _ _ (.inr hS) h)) hr hi
theorem pV {f : FuncId} {args : Array Value} (hS : S w) (KV : Calls P f args w (fun e w' => e = .returned v ∧ Below w.heap.size w w')) (h : ∀ w', S w' → wpAnyY P md ops Q S Y fuel (listed.setIfInBounds i true) a' w') (hi : ops[i]? = some oi := by rfl)
 (hw : ∀ K : Act → World → Prop, Hid (∀ w', Below w.heap.size w w' → K a' w') → Hid (Calls P f args w (fun e w' => e = .returned v ∧ Below w.heap.size w w')) → if Region.wanted oi (yielded ops a.tmps) = true then Oper.wp P oi a w K Q else K (a.put oi.dst undef) w := by
  intro K hK hC; go_simp; refine hC.out.mono ?_; rintro e w' ⟨rfl, hb⟩; go_wp2_with fail; (try simp only [Act.put, sqz]); with_reducible exact hK.out _ hb)
 (hb : S w → ∀ w', Below w.heap.size w w' → S w' := by intro h w' hb; exact h.below hb) (hr : Region.ready md ops listed = [i] := by kernel_rfl) : wpAnyY P md ops Q S Y (fuel + 1) listed a w :=
 wpO i (fun K hK => hw K (fun w' h2 => hK.out _ _ (.inr (hb hS w' h2)) (h w' (hb hS w' h2))) KV) hr hi
end
structure Fr (w : World) (v1 v2 v3 : Value) (m : Mch) (S : Value → Value → Value → Mch → World → Prop) (FX : Value → Value → Value → World → Prop) : Prop where
 below : ∀ {u1 u2 u3 : Value} {k : Mch} {W W' : World}, S u1 u2 u3 k W → Below W.heap.size W W' → S u1 u2 u3 k W'
 put : ∀ {u1 u2 u3 x1 x2 x3 : Value} {k k2 : Mch} {W : World}, S u1 u2 u3 k W → MOut (w.heap.size + 2) W u1 u2 u3 k x1 x2 x3 k2 → S x1 x2 x3 k2 (((W.setCell ⟨w.heap.size, 0, none⟩ x1).setCell ⟨w.heap.size, 1, none⟩ x2).setCell ⟨w.heap.size, 2, none⟩ x3)
 rd : ∀ {u1 u2 u3 : Value} {k : Mch} {W : World}, S u1 u2 u3 k W → MRd W u1 u2 u3 k
 sz : ∀ {u1 u2 u3 : Value} {k : Mch} {W : World}, S u1 u2 u3 k W → w.heap.size + 2 ≤ W.heap.size
 fx : ∀ {u1 u2 u3 : Value} {k : Mch} {W : World}, S u1 u2 u3 k W → FX u1 u2 u3 W
 sh : ∀ {u1 u2 u3 : Value} {k : Mch} {W : World}, S u1 u2 u3 k W → SH w w.heap.size (w.heap.size + 2) v1 v2 v3 m u1 u2 u3 k W
section
variable {w : World} {v1 v2 v3 : Value} {m : Mch} {S : Value → Value → Value → Mch → World → Prop} {FX : Value → Value → Value → World → Prop} (fr : Fr w v1 v2 v3 m S FX)
variable {P : Program} {f : FuncId} {args : Array Value} {R : Ending → World → Prop} {W : World} {u1 u2 u3 : Value} {k k2 : Mch} (q : Hid (S u1 u2 u3 k W))
include fr q
theorem Fr.open_ {B : Nat} {y1 y2 y3 : Value} {w' : World} (hmo : MOut B w' u1 u2 u3 k y1 y2 y3 k2) (hb : Below W.heap.size W w') : ∃ a1 c1 a2 c2 a3 c3, y1 = .slice a1 k2.st.length c1 ∧ y2 = .slice a2 k2.rs.length c2 ∧ y3 = .slice a3 k2.ws.length c3 := hmo.openS (fr.rd q.out) hb
omit q in
theorem Fr.finR {x1 x2 x3 : Value} (q : S u1 u2 u3 k W) (h2 : MOut (w.heap.size + 2) W u1 u2 u3 k x1 x2 x3 k2) : MOut w.heap.size (((W.setCell ⟨(w.heap.size + 1), 0, none⟩ x1).setCell ⟨(w.heap.size + 1), 1, none⟩ x2).setCell ⟨(w.heap.size + 1), 2, none⟩ x3) v1 v2 v3 m x1 x2 x3 k2 ∧ Below w.heap.size w (((W.setCell ⟨(w.heap.size + 1), 0, none⟩ x1).setCell ⟨(w.heap.size + 1), 1, none⟩ x2).setCell ⟨(w.heap.size + 1), 2, none⟩ x3) := by
 have h := ((((fr.sh q).mo.trans h2 (Nat.le_refl _)).set (b := w.heap.size + 1) (by omega) 0 x1).set (b := w.heap.size + 1) (by omega) 1 x2).set (b := w.heap.size + 1) (by omega) 2 x3;have h2 := (((fr.sh q).set (b := w.heap.size + 1) (by omega) (by omega) (by omega) 0 x1).set (b := w.heap.size + 1) (by omega) (by omega) (by omega) 1 x2).set (b := w.heap.size + 1) (by omega) (by omega) (by omega) 2 x3;exact ⟨h.base (by omega), h2.bel⟩
omit q in
theorem Fr.fin (q : S u1 u2 u3 k W) : MOut w.heap.size (((W.setCell ⟨(w.heap.size + 1), 0, none⟩ u1).setCell ⟨(w.heap.size + 1), 1, none⟩ u2).setCell ⟨(w.heap.size + 1), 2, none⟩ u3) v1 v2 v3 m u1 u2 u3 k ∧ Below w.heap.size w (((W.setCell ⟨(w.heap.size + 1), 0, none⟩ u1).setCell ⟨(w.heap.size + 1), 1, none⟩ u2).setCell ⟨(w.heap.size + 1), 2, none⟩ u3) := fr.finR q MOut.refl
theorem nx1 (K : Calls P f args W (SRet1 u1 u2 u3 k k2 W))
 (h : ∀ (a1 : Option Addr) (c1 : Nat) (a2 : Option Addr) (c2 : Nat) (a3 : Option Addr) (c3 : Nat) w', Hid (S (.slice a1 k2.st.length c1) (.slice a2 k2.rs.length c2) (.slice a3 k2.ws.length c3) k2 (((w'.setCell ⟨w.heap.size, 0, none⟩ (.slice a1 k2.st.length c1)).setCell ⟨w.heap.size, 1, none⟩ (.slice a2 k2.rs.length c2)).setCell ⟨w.heap.size, 2, none⟩ (.slice a3 k2.ws.length c3))) → FX u1 u2 u3 w' → R (.returned (.agg #[.slice a1 k2.st.length c1, .slice a2 k2.rs.length c2, .slice a3 k2.ws.length c3])) w') : Calls P f args W R := K.mono (by
 rintro e w' ⟨y1, y2, y3, rfl, hmo, hb⟩;obtain ⟨a1, c1, a2, c2, a3, c3, rfl, rfl, rfl⟩ := fr.open_ q hmo hb;exact h _ _ _ _ _ _ _ (fr.put (fr.below q.out hb) (hmo.base (fr.sz q.out))) (fr.fx (fr.below q.out hb)))
theorem nx2 {r : Value} (K : Calls P f args W (SRet u1 u2 u3 k k2 r W))
 (h : ∀ (a1 : Option Addr) (c1 : Nat) (a2 : Option Addr) (c2 : Nat) (a3 : Option Addr) (c3 : Nat) w', Hid (S (.slice a1 k2.st.length c1) (.slice a2 k2.rs.length c2) (.slice a3 k2.ws.length c3) k2 (((w'.setCell ⟨w.heap.size, 0, none⟩ (.slice a1 k2.st.length c1)).setCell ⟨w.heap.size, 1, none⟩ (.slice a2 k2.rs.length c2)).setCell ⟨w.heap.size, 2, none⟩ (.slice a3 k2.ws.length c3))) → FX u1 u2 u3 w' → R (.returned (.tuple #[.agg #[.slice a1 k2.st.length c1, .slice a2 k2.rs.length c2, .slice a3 k2.ws.length c3], r])) w') : Calls P f args W R := K.mono (by
 rintro e w' ⟨y1, y2, y3, rfl, hmo, hb⟩;obtain ⟨a1, c1, a2, c2, a3, c3, rfl, rfl, rfl⟩ := fr.open_ q hmo hb;exact h _ _ _ _ _ _ _ (fr.put (fr.below q.out hb) (hmo.base (fr.sz q.out))) (fr.fx (fr.below q.out hb)))
theorem ne1 (K : Calls P f args W (SRet1 u1 u2 u3 k k2 W))
 (h : ∀ (a1 : Option Addr) (c1 : Nat) (a2 : Option Addr) (c2 : Nat) (a3 : Option Addr) (c3 : Nat) w', Hid (MOut w.heap.size (((w'.setCell ⟨(w.heap.size + 1), 0, none⟩ (.slice a1 k2.st.length c1)).setCell ⟨(w.heap.size + 1), 1, none⟩ (.slice a2 k2.rs.length c2)).setCell ⟨(w.heap.size + 1), 2, none⟩ (.slice a3 k2.ws.length c3)) v1 v2 v3 m (.slice a1 k2.st.length c1) (.slice a2 k2.rs.length c2) (.slice a3 k2.ws.length c3) k2 ∧ Below w.heap.size w (((w'.setCell ⟨(w.heap.size + 1), 0, none⟩ (.slice a1 k2.st.length c1)).setCell ⟨(w.heap.size + 1), 1, none⟩ (.slice a2 k2.rs.length c2)).setCell ⟨(w.heap.size + 1), 2, none⟩ (.slice a3 k2.ws.length c3))) → FX u1 u2 u3 w' → R (.returned (.agg #[.slice a1 k2.st.length c1, .slice a2 k2.rs.length c2, .slice a3 k2.ws.length c3])) w') : Calls P f args W R := K.mono (by
 rintro e w' ⟨y1, y2, y3, rfl, hmo, hb⟩;obtain ⟨a1, c1, a2, c2, a3, c3, rfl, rfl, rfl⟩ := fr.open_ q hmo hb;exact h _ _ _ _ _ _ _ (fr.finR (fr.below q.out hb) (hmo.base (fr.sz q.out))) (fr.fx (fr.below q.out hb)))
theorem ne2 {r : Value} (K : Calls P f args W (SRet u1 u2 u3 k k2 r W))
 (h : ∀ (a1 : Option Addr) (c1 : Nat) (a2 : Option Addr) (c2 : Nat) (a3 : Option Addr) (c3 : Nat) w', Hid (MOut w.heap.size (((w'.setCell ⟨(w.heap.size + 1), 0, none⟩ (.slice a1 k2.st.length c1)).setCell ⟨(w.heap.size + 1), 1, none⟩ (.slice a2 k2.rs.length c2)).setCell ⟨(w.heap.size + 1), 2, none⟩ (.slice a3 k2.ws.length c3)) v1 v2 v3 m (.slice a1 k2.st.length c1) (.slice a2 k2.rs.length c2) (.slice a3 k2.ws.length c3) k2 ∧ Below w.heap.size w (((w'.setCell ⟨(w.heap.size + 1), 0, none⟩ (.slice a1 k2.st.length c1)).setCell ⟨(w.heap.size + 1), 1, none⟩ (.slice a2 k2.rs.length c2)).setCell ⟨(w.heap.size + 1), 2, none⟩ (.slice a3 k2.ws.length c3))) → FX u1 u2 u3 w' → R (.returned (.tuple #[.agg #[.slice a1 k2.st.length c1, .slice a2 k2.rs.length c2, .slice a3 k2.ws.length c3], r])) w') : Calls P f args W R := K.mono (by
 rintro e w' ⟨y1, y2, y3, rfl, hmo, hb⟩;obtain ⟨a1, c1, a2, c2, a3, c3, rfl, rfl, rfl⟩ := fr.open_ q hmo hb;exact h _ _ _ _ _ _ _ (fr.finR (fr.below q.out hb) (hmo.base (fr.sz q.out))) (fr.fx (fr.below q.out hb)))
theorem ne3 {r r2 : Value} (K : Calls P f args W (SRet3 u1 u2 u3 k k2 r r2 W))
 (h : ∀ (a1 : Option Addr) (c1 : Nat) (a2 : Option Addr) (c2 : Nat) (a3 : Option Addr) (c3 : Nat) w', Hid (MOut w.heap.size (((w'.setCell ⟨(w.heap.size + 1), 0, none⟩ (.slice a1 k2.st.length c1)).setCell ⟨(w.heap.size + 1), 1, none⟩ (.slice a2 k2.rs.length c2)).setCell ⟨(w.heap.size + 1), 2, none⟩ (.slice a3 k2.ws.length c3)) v1 v2 v3 m (.slice a1 k2.st.length c1) (.slice a2 k2.rs.length c2) (.slice a3 k2.ws.length c3) k2 ∧ Below w.heap.size w (((w'.setCell ⟨(w.heap.size + 1), 0, none⟩ (.slice a1 k2.st.length c1)).setCell ⟨(w.heap.size + 1), 1, none⟩ (.slice a2 k2.rs.length c2)).setCell ⟨(w.heap.size + 1), 2, none⟩ (.slice a3 k2.ws.length c3))) → FX u1 u2 u3 w' → R (.returned (.tuple #[.agg #[.slice a1 k2.st.length c1, .slice a2 k2.rs.length c2, .slice a3 k2.ws.length c3], r, r2])) w') : Calls P f args W R := K.mono (by
 rintro e w' ⟨y1, y2, y3, rfl, hmo, hb⟩;obtain ⟨a1, c1, a2, c2, a3, c3, rfl, rfl, rfl⟩ := fr.open_ q hmo hb;exact h _ _ _ _ _ _ _ (fr.finR (fr.below q.out hb) (hmo.base (fr.sz q.out))) (fr.fx (fr.below q.out hb)))
theorem nxV {v : Value} (K : Calls P f args W (fun e w' => e = .returned v ∧ Below W.heap.size W w')) (h : ∀ w', Hid (S u1 u2 u3 k w') → FX u1 u2 u3 w' → R (.returned v) w') : Calls P f args W R := K.mono (by
 rintro e w' ⟨rfl, hb⟩;exact h _ (fr.below q.out hb) (fr.fx (fr.below q.out hb)))
theorem rt1 {fn : Func} {a : Act} (hr : (results fn a.tmps).run P (((W.setCell ⟨(w.heap.size + 1), 0, none⟩ u1).setCell ⟨(w.heap.size + 1), 1, none⟩ u2).setCell ⟨(w.heap.size + 1), 2, none⟩ u3) = .ok (.agg #[u1, u2, u3]) (((W.setCell ⟨(w.heap.size + 1), 0, none⟩ u1).setCell ⟨(w.heap.size + 1), 1, none⟩ u2).setCell ⟨(w.heap.size + 1), 2, none⟩ u3)) (hd : a.defers = [] := by rfl) : bodyPost P fn (SRet1 v1 v2 v3 m k w) .ret a (((W.setCell ⟨(w.heap.size + 1), 0, none⟩ u1).setCell ⟨(w.heap.size + 1), 1, none⟩ u2).setCell ⟨(w.heap.size + 1), 2, none⟩ u3) :=
 ⟨hd, _, hr, _, _, _, rfl, (fr.fin q.out).1, (fr.fin q.out).2⟩
omit fr q in
theorem re1 {fn : Func} {a : Act} (h : Hid (MOut w.heap.size W v1 v2 v3 m u1 u2 u3 k ∧ Below w.heap.size w W)) (hr : (results fn a.tmps).run P W = .ok (.agg #[u1, u2, u3]) W) (hd : a.defers = [] := by rfl) : bodyPost P fn (SRet1 v1 v2 v3 m k w) .ret a W :=
 ⟨hd, _, hr, _, _, _, rfl, h.out.1, h.out.2⟩
theorem rt2 {fn : Func} {a : Act} {r : Value} (hr : (results fn a.tmps).run P (((W.setCell ⟨(w.heap.size + 1), 0, none⟩ u1).setCell ⟨(w.heap.size + 1), 1, none⟩ u2).setCell ⟨(w.heap.size + 1), 2, none⟩ u3) = .ok (.tuple #[.agg #[u1, u2, u3], r]) (((W.setCell ⟨(w.heap.size + 1), 0, none⟩ u1).setCell ⟨(w.heap.size + 1), 1, none⟩ u2).setCell ⟨(w.heap.size + 1), 2, none⟩ u3)) (hd : a.defers = [] := by rfl) : bodyPost P fn (SRet v1 v2 v3 m k r w) .ret a (((W.setCell ⟨(w.heap.size + 1), 0, none⟩ u1).setCell ⟨(w.heap.size + 1), 1, none⟩ u2).setCell ⟨(w.heap.size + 1), 2, none⟩ u3) :=
 ⟨hd, _, hr, _, _, _, rfl, (fr.fin q.out).1, (fr.fin q.out).2⟩
omit fr q in
theorem re2 {fn : Func} {a : Act} {r : Value} (h : Hid (MOut w.heap.size W v1 v2 v3 m u1 u2 u3 k ∧ Below w.heap.size w W)) (hr : (results fn a.tmps).run P W = .ok (.tuple #[.agg #[u1, u2, u3], r]) W) (hd : a.defers = [] := by rfl) : bodyPost P fn (SRet v1 v2 v3 m k r w) .ret a W :=
 ⟨hd, _, hr, _, _, _, rfl, h.out.1, h.out.2⟩
omit fr q in
theorem rz2 {fn : Func} {a : Act} {r : Value} (hr : (results fn a.tmps).run P W = .ok (.tuple #[.agg #[v1, v2, v3], r]) W) (hb : Below w.heap.size w W) (hd : a.defers = [] := by rfl) : bodyPost P fn (SRet v1 v2 v3 m m r w) .ret a W :=
 ⟨hd, _, hr, _, _, _, rfl, MOut.refl, hb⟩
theorem rt3 {fn : Func} {a : Act} {r r2 : Value} (hr : (results fn a.tmps).run P (((W.setCell ⟨(w.heap.size + 1), 0, none⟩ u1).setCell ⟨(w.heap.size + 1), 1, none⟩ u2).setCell ⟨(w.heap.size + 1), 2, none⟩ u3) = .ok (.tuple #[.agg #[u1, u2, u3], r, r2]) (((W.setCell ⟨(w.heap.size + 1), 0, none⟩ u1).setCell ⟨(w.heap.size + 1), 1, none⟩ u2).setCell ⟨(w.heap.size + 1), 2, none⟩ u3)) (hd : a.defers = [] := by rfl) : bodyPost P fn (SRet3 v1 v2 v3 m k r r2 w) .ret a (((W.setCell ⟨(w.heap.size + 1), 0, none⟩ u1).setCell ⟨(w.heap.size + 1), 1, none⟩ u2).setCell ⟨(w.heap.size + 1), 2, none⟩ u3) :=
 ⟨hd, _, hr, _, _, _, rfl, (fr.fin q.out).1, (fr.fin q.out).2⟩
omit fr q in
theorem re3 {fn : Func} {a : Act} {r r2 : Value} (h : Hid (MOut w.heap.size W v1 v2 v3 m u1 u2 u3 k ∧ Below w.heap.size w W)) (hr : (results fn a.tmps).run P W = .ok (.tuple #[.agg #[u1, u2, u3], r, r2]) W) (hd : a.defers = [] := by rfl) : bodyPost P fn (SRet3 v1 v2 v3 m k r r2 w) .ret a W :=
 ⟨hd, _, hr, _, _, _, rfl, h.out.1, h.out.2⟩
omit fr q in
theorem rz3 {fn : Func} {a : Act} {r r2 : Value} (hr : (results fn a.tmps).run P W = .ok (.tuple #[.agg #[v1, v2, v3], r, r2]) W) (hb : Below w.heap.size w W) (hd : a.defers = [] := by rfl) : bodyPost P fn (SRet3 v1 v2 v3 m m r r2 w) .ret a W :=
 ⟨hd, _, hr, _, _, _, rfl, MOut.refl, hb⟩
end
def SK1 (u1 u2 u3 : Value) (k k2 : Mch) (W : World) (e : Ending) (w' : World) : Prop := ∃ a1 c1 a2 c2 a3 c3, e = .returned (.agg #[.slice a1 k2.st.length c1, .slice a2 k2.rs.length c2, .slice a3 k2.ws.length c3]) ∧ Below W.heap.size W w' ∧ MOut W.heap.size w' u1 u2 u3 k (.slice a1 k2.st.length c1) (.slice a2 k2.rs.length c2) (.slice a3 k2.ws.length c3) k2
theorem SK1.of {w : World} {v1 v2 v3 : Value} {m : Mch} {S : Value → Value → Value → Mch → World → Prop} {FX : Value → Value → Value → World → Prop} (fr : Fr w v1 v2 v3 m S FX) {P : Program} {f : FuncId} {args : Array Value} {W : World} {u1 u2 u3 : Value} {k k2 : Mch} (q : S u1 u2 u3 k W) (KM : Calls P f args W (SRet1 u1 u2 u3 k k2 W)) : Calls P f args W (SK1 u1 u2 u3 k k2 W) := KM.mono (by
 rintro e w' ⟨y1, y2, y3, rfl, hmo, hb⟩;obtain ⟨a1, c1, a2, c2, a3, c3, rfl, rfl, rfl⟩ := hmo.openS (fr.rd q) hb;exact ⟨a1, c1, a2, c2, a3, c3, rfl, hb, hmo⟩)
def SK2 (u1 u2 u3 : Value) (k k2 : Mch) (r : Value) (W : World) (e : Ending) (w' : World) : Prop := ∃ a1 c1 a2 c2 a3 c3, e = .returned (.tuple #[.agg #[.slice a1 k2.st.length c1, .slice a2 k2.rs.length c2, .slice a3 k2.ws.length c3], r]) ∧ Below W.heap.size W w' ∧ MOut W.heap.size w' u1 u2 u3 k (.slice a1 k2.st.length c1) (.slice a2 k2.rs.length c2) (.slice a3 k2.ws.length c3) k2
theorem SK2.of {w : World} {v1 v2 v3 : Value} {m : Mch} {S : Value → Value → Value → Mch → World → Prop} {FX : Value → Value → Value → World → Prop} (fr : Fr w v1 v2 v3 m S FX) {P : Program} {f : FuncId} {args : Array Value} {W : World} {u1 u2 u3 : Value} {k k2 : Mch} (q : S u1 u2 u3 k W) {r : Value} (KM : Calls P f args W (SRet u1 u2 u3 k k2 r W)) : Calls P f args W (SK2 u1 u2 u3 k k2 r W) := KM.mono (by
 rintro e w' ⟨y1, y2, y3, rfl, hmo, hb⟩;obtain ⟨a1, c1, a2, c2, a3, c3, rfl, rfl, rfl⟩ := hmo.openS (fr.rd q) hb;exact ⟨a1, c1, a2, c2, a3, c3, rfl, hb, hmo⟩)
section
variable {w : World} {v1 v2 v3 : Value} {m : Mch} {S : Value → Value → Value → Mch → World → Prop} {FX : Value → Value → Value → World → Prop} (fr : Fr w v1 v2 v3 m S FX) {P : Program} {f : FuncId} {args : Array Value} {W : World} {u1 u2 u3 : Value} {k k2 : Mch}
include fr
theorem pM1 {ops : Array Oper} {Q : Exit → Act → World → Prop} {md : Region.Mode} {Y : List Nat} {fuel : Nat} {listed : Array Bool} {a : Act} {a' : Option Addr → Nat → Option Addr → Nat → Option Addr → Nat → Act} {oi : Oper} (i : Nat) (q : S u1 u2 u3 k W) (KM : Calls P f args W (SRet1 u1 u2 u3 k k2 W))
 (h : ∀ (a1 : Option Addr) (c1 : Nat) (a2 : Option Addr) (c2 : Nat) (a3 : Option Addr) (c3 : Nat) w', S u1 u2 u3 k w' → MOut (w.heap.size + 2) w' u1 u2 u3 k (.slice a1 k2.st.length c1) (.slice a2 k2.rs.length c2) (.slice a3 k2.ws.length c3) k2 → FX u1 u2 u3 w' → wpAnyY P md ops Q (S u1 u2 u3 k) Y fuel (listed.setIfInBounds i true) (a' a1 c1 a2 c2 a3 c3) w') (hi : ops[i]? = some oi := by rfl)
 (hw : ∀ K : Act → World → Prop, Hid (∀ (a1 : Option Addr) (c1 : Nat) (a2 : Option Addr) (c2 : Nat) (a3 : Option Addr) (c3 : Nat) w', Below W.heap.size W w' → MOut W.heap.size w' u1 u2 u3 k (.slice a1 k2.st.length c1) (.slice a2 k2.rs.length c2) (.slice a3 k2.ws.length c3) k2 → K (a' a1 c1 a2 c2 a3 c3) w') → Hid (Calls P f args W (SK1 u1 u2 u3 k k2 W)) → if Region.wanted oi (yielded ops a.tmps) = true then Oper.wp P oi a W K Q else K (a.put oi.dst undef) W := by
  intro K hK hC; go_simp; refine hC.out.mono ?_; rintro e w' ⟨a1, c1, a2, c2, a3, c3, rfl, hb, hm⟩; go_wp2_with fail; (try simp only [Act.put, sqz]); with_reducible exact hK.out _ _ _ _ _ _ _ hb hm)
 (hr : Region.ready md ops listed = [i] := by kernel_rfl) : wpAnyY P md ops Q (S u1 u2 u3 k) Y (fuel + 1) listed a W :=
 wpO i (fun K hK => hw K (fun a1 c1 a2 c2 a3 c3 w' hb hm => hK.out _ _ (.inr (fr.below q hb)) (h a1 c1 a2 c2 a3 c3 w' (fr.below q hb) (hm.base (fr.sz q)) (fr.fx (fr.below q hb)))) (SK1.of fr q KM)) hr hi
theorem pM2 {ops : Array Oper} {Q : Exit → Act → World → Prop} {md : Region.Mode} {Y : List Nat} {fuel : Nat} {listed : Array Bool} {a : Act} {a' : Option Addr → Nat → Option Addr → Nat → Option Addr → Nat → Act} {oi : Oper} (i : Nat) (q : S u1 u2 u3 k W) {r : Value} (KM : Calls P f args W (SRet u1 u2 u3 k k2 r W))
 (h : ∀ (a1 : Option Addr) (c1 : Nat) (a2 : Option Addr) (c2 : Nat) (a3 : Option Addr) (c3 : Nat) w', S u1 u2 u3 k w' → MOut (w.heap.size + 2) w' u1 u2 u3 k (.slice a1 k2.st.length c1) (.slice a2 k2.rs.length c2) (.slice a3 k2.ws.length c3) k2 → FX u1 u2 u3 w' → wpAnyY P md ops Q (S u1 u2 u3 k) Y fuel (listed.setIfInBounds i true) (a' a1 c1 a2 c2 a3 c3) w') (hi : ops[i]? = some oi := by rfl)
 (hw : ∀ K : Act → World → Prop, Hid (∀ (a1 : Option Addr) (c1 : Nat) (a2 : Option Addr) (c2 : Nat) (a3 : Option Addr) (c3 : Nat) w', Below W.heap.size W w' → MOut W.heap.size w' u1 u2 u3 k (.slice a1 k2.st.length c1) (.slice a2 k2.rs.length c2) (.slice a3 k2.ws.length c3) k2 → K (a' a1 c1 a2 c2 a3 c3) w') → Hid (Calls P f args W (SK2 u1 u2 u3 k k2 r W)) → if Region.wanted oi (yielded ops a.tmps) = true then Oper.wp P oi a W K Q else K (a.put oi.dst undef) W := by
  intro K hK hC; go_simp; refine hC.out.mono ?_; rintro e w' ⟨a1, c1, a2, c2, a3, c3, rfl, hb, hm⟩; go_wp2_with fail; (try simp only [Act.put, sqz]); with_reducible exact hK.out _ _ _ _ _ _ _ hb hm)
 (hr : Region.ready md ops listed = [i] := by kernel_rfl) : wpAnyY P md ops Q (S u1 u2 u3 k) Y (fuel + 1) listed a W :=
 wpO i (fun K hK => hw K (fun a1 c1 a2 c2 a3 c3 w' hb hm => hK.out _ _ (.inr (fr.below q hb)) (h a1 c1 a2 c2 a3 c3 w' (fr.below q hb) (hm.base (fr.sz q)) (fr.fx (fr.below q hb)))) (SK2.of fr q KM)) hr hi
end
theorem SQ.fr {w : World} {v1 v2 v3 : Value} {m : Mch} : Fr w v1 v2 v3 m (SQ w v1 v2 v3 m) (fun u1 u2 u3 W => W.cell? ⟨w.heap.size, 0, none⟩ = some u1 ∧ W.cell? ⟨w.heap.size, 1, none⟩ = some u2 ∧ W.cell? ⟨w.heap.size, 2, none⟩ = some u3 ∧ W.frozen? ⟨w.heap.size, 0, none⟩ = false ∧ W.frozen? ⟨w.heap.size, 1, none⟩ = false ∧ W.frozen? ⟨w.heap.size, 2, none⟩ = false ∧ W.cell? ⟨w.heap.size + 1, 0, none⟩ = some (.slice none 0 0) ∧ W.cell? ⟨w.heap.size + 1, 1, none⟩ = some (.slice none 0 0) ∧ W.cell? ⟨w.heap.size + 1, 2, none⟩ = some (.slice none 0 0) ∧ W.frozen? ⟨w.heap.size + 1, 0, none⟩ = false ∧ W.frozen? ⟨w.heap.size + 1, 1, none⟩ = false ∧ W.frozen? ⟨w.heap.size + 1, 2, none⟩ = false) where
 below h := h.below
 put h := h.put
 rd h := h.rd
 sz h := h.sz
 fx h := h.fx
 sh h := h.h
theorem MRd.start {w : World} {v1 v2 v3 : Value} {m : Mch} (h : MRd w v1 v2 v3 m) : ∃ a1 c1 a2 c2 a3 c3, v1 = .slice a1 m.st.length c1 ∧ v2 = .slice a2 m.rs.length c2 ∧ v3 = .slice a3 m.ws.length c3 ∧
 Hid (SQ w v1 v2 v3 m v1 v2 v3 m ((w.alloc (.cells #[v1, v2, v3] 87)).alloc (.cells #[.slice none 0 0, .slice none 0 0, .slice none 0 0] 87))) := by
 obtain ⟨a1, q1, a2, q2, a3, q3, rfl, rfl, rfl⟩ := h.open3;exact ⟨a1, q1, a2, q2, a3, q3, rfl, rfl, rfl, SQ.first h⟩
end Go.Proofs.YtihghflppegnmaaGreatDoor
namespace Go.Proofs.YtihghflppegnmaaGreatDoor
open Go Go.ChangeShapes Go.WideShapes Go.ChangeAt Go.RowKit
def left (l : Array Bool) : Nat := l.toList.countP (fun b => !b)
theorem countP_set_true : ∀ (l : List Bool) (i : Nat), l[i]? = some false → (l.set i true).countP (fun b => !b) + 1 = l.countP (fun b => !b)
 | [], i, h => by simp at h
 | x :: l, 0, h => by
  simp only [List.getElem?_cons_zero, Option.some.injEq] at h;subst h;simp
 | x :: l, i + 1, h => by
  simp only [List.getElem?_cons_succ] at h;have := countP_set_true l i h;cases x <;> simp <;> omega
theorem left_set {l : Array Bool} {i : Nat} (h : l.getD i true = false) : left (l.setIfInBounds i true) + 1 = left l := by
 unfold left;rw [Array.toList_setIfInBounds];apply countP_set_true;rw [Array.getElem?_toList];rw [Array.getD_eq_getD_getElem?] at h;cases hx : l[i]? with
 | none => rw [hx] at h; cases h
 | some b => rw [hx] at h; simp at h; rw [h]
theorem ready_at {ops : Array Oper} {l : Array Bool} {i : Nat} (h : i ∈ Region.ready .any ops l) : l.getD i true = false ∧ ∃ o, ops[i]? = some o ∧ (o.after.all fun e => !Region.binds .any e || l.getD e.on false) = true := by
 unfold Region.ready at h;simp only [List.mem_filter, List.mem_range, Bool.and_eq_true, Bool.not_eq_true'] at h;obtain ⟨hi, h1, h2⟩ := h;refine ⟨h1, ops[i], by simp [hi], ?_⟩;simpa [hi] using h2
theorem wpAny_inv {P : Program} {ops : Array Oper} {Q : Exit → Act → World → Prop} (R : Array Bool → Act → World → Prop)
 (hs : ∀ l a w, R l a w → ∀ i, i < ops.size → l.getD i true = false → (∀ o, ops[i]? = some o → (o.after.all fun e => !Region.binds .any e || l.getD e.on false) = true) → wpOp P ops Q i (fun a' w' => R (l.setIfInBounds i true) a' w') a w)
 (he : ∀ l a w, R l a w → Region.ready .any ops l = [] → Q .normal a w) : ∀ (n : Nat) (l : Array Bool) (a : Act) (w : World), R l a w → left l ≤ n → wpAny P .any ops Q n l a w
 | 0, l, a, w, h, hn => by
  have hr : Region.ready .any ops l = [] := by
   cases hr : Region.ready .any ops l with
   | nil => rfl
   | cons i r =>
    have := left_set (ready_at (i := i) (by rw [hr]; exact List.mem_cons_self ..)).1;omega
  exact ⟨hr, he l a w h hr⟩
 | n + 1, l, a, w, h, hn => ⟨he l a w h, fun i hi => by
  obtain ⟨h1, o, ho, h2⟩ := ready_at hi;have hlt : i < ops.size := (Array.getElem?_eq_some_iff.1 ho).1;refine wpOp_mono (fun a' w' hR => ?_) (hs l a w h i hlt h1 (fun o' ho' => by rw [ho] at ho'; cases ho'; exact h2));exact wpAny_inv R hs he n _ _ _ hR (by have := left_set h1; omega)⟩
theorem left_new (n : Nat) : left (Array.replicate n false) ≤ n := by
 unfold left;rw [Array.toList_replicate];exact Nat.le_trans (List.countP_le_length ..) (by simp)
theorem wp_region_inv {P : Program} {ops : Array Oper} {Q : Exit → Act → World → Prop} {id : Nat} {a : Act} {w : World} (R : Array Bool → Act → World → Prop) (hm : P.follows .mixedOrders = true) (h0 : R (Array.replicate ops.size false) a w.drew)
 (hs : ∀ l a w, R l a w → ∀ i, i < ops.size → l.getD i true = false → (∀ o, ops[i]? = some o → (o.after.all fun e => !Region.binds .any e || l.getD e.on false) = true) → wpOp P ops Q i (fun a' w' => R (l.setIfInBounds i true) a' w') a w)
 (he : ∀ l a w, R l a w → Region.ready .any ops l = [] → Q .normal a w) : (Code.region id ops true).wp P Q a w :=
 wp_region_any hm (wpAny_inv R hs he _ _ _ _ h0 (left_new _))
def early (ops : Array Oper) : Bool := (List.range ops.size).all (fun i => match ops[i]? with | some o => o.after.all (fun e => Nat.blt e.on i) | none => true)
theorem all_listed {ops : Array Oper} {l : Array Bool} (h : early ops = true) (hz : l.size = ops.size) (hr : Region.ready .any ops l = []) : ∀ i, i < ops.size → l.getD i true = true := by
 intro i
 induction i using Nat.strongRecOn with
 | ind i ih =>
  intro hi;cases hl : l.getD i true with
  | true => rfl
  | false =>
   exfalso;have he := List.all_eq_true.1 h i (List.mem_range.2 hi);have hx : ops[i]? = some ops[i] := by simp [hi]
   rw [hx] at he;have hm : i ∈ Region.ready .any ops l := by
    unfold Region.ready;simp only [List.mem_filter, List.mem_range, Bool.and_eq_true, Bool.not_eq_true'];refine ⟨hi, hl, ?_⟩;rw [hx];simp only [Option.map_some, Option.getD_some, Array.all_eq_true] at he ⊢;intro j hj;have h1 := he j hj;have h2 : (ops[i].after[j]).on < i := by simpa using h1
    have h3 := ih _ h2 (Nat.lt_trans h2 hi);have h4 : (ops[i].after[j]).on < l.size := by omega
    simp only [Array.getD_eq_getD_getElem?, Array.getElem?_eq_getElem h4, Option.getD_some] at h3 ⊢;simp [h3]
   rw [hr] at hm;cases hm
theorem wp_region_run {P : Program} {ops : Array Oper} {Q : Exit → Act → World → Prop} {id : Nat} {a : Act} {w : World} (R : Array Bool → Act → World → Prop) (hm : P.follows .mixedOrders = true) (ho : early ops = true) (h0 : R (Array.replicate ops.size false) a w.drew)
 (hs : ∀ l a w, R l a w → ∀ i, i < ops.size → l.getD i true = false → (∀ o, ops[i]? = some o → ∀ j (hj : j < o.after.size), Region.binds .any o.after[j] = true → l.getD (o.after[j]).on false = true) → wpOp P ops Q i (fun a' w' => R (l.setIfInBounds i true) a' w' ∨ ((∀ j, j < ops.size → (l.setIfInBounds i true).getD j true = true) ∧ Q .normal a' w')) a w)
 (he : ∀ l a w, R l a w → l.size = ops.size ∧ ∃ i, i < ops.size ∧ l.getD i true = false) : (Code.region id ops true).wp P Q a w :=
 wp_region_inv (fun l a w => R l a w ∨ ((∀ j, j < ops.size → l.getD j true = true) ∧ Q .normal a w)) hm (.inl h0)
  (fun l a w h i hi h1 h2 => by
   rcases h with h | h
   ·exact hs l a w h i hi h1 (fun o ho j hj hb => by
     have := Array.all_eq_true.1 (h2 o ho) j hj;simpa [hb] using this)
   ·rw [h.1 i hi] at h1;cases h1)
  (fun l a w h hr => by
   rcases h with h | h
   ·obtain ⟨hz, i, hi, h1⟩ := he l a w h;rw [all_listed ho hz hr i hi] at h1;cases h1
   ·exact h.2)
theorem wpOp_ok {P : Program} {ops : Array Oper} {Q : Exit → Act → World → Prop} {K : Act → World → Prop} {a : Act} {w w' : World} {i : Nat} {o : Oper} {v : Value} (hi : ops[i]? = some o) (hg : o.guard = none) (he : (execOp a.eval o).run P w = .ok (.value v) w') (hK : K (a.put o.dst v) w') : wpOp P ops Q i K a w :=
 wpOp_step hi (fun K' hK' => by
  rw [if_pos (by simp [Region.wanted, hg])];unfold Oper.wp;rw [he];exact hK' _ _ hK)
def Way (W : World) (B : Nat) (b0 b3 : Bool) (x8 x11 : Value) (L : List ByteArray) (o : Option Nat) : Prop :=
 match b3 with
 | true => W.ownsRow B 9 1 x11 L.length (L.flatMap encS) ∧ x11.ownBlock = o
 | false => match b0 with
  | true => W.ownsRow B 9 1 x8 0 [] ∧ x8.ownBlock = o
  | false => o = none
def Boxed (W : World) (B : Nat) (b9 : Bool) (x5 : Value) (Z : List Value) (o : Option Nat) : Prop :=
 match b9 with
 | true => ∃ k, x5 = .pointer (some ⟨k, 0, none⟩) ∧ Box W k Z ∧ B ≤ k ∧ o = some k
 | false => o = none
def Apart (o o' : Option Nat) : Prop := ∀ k, o = some k → o' ≠ some k
theorem Apart.symm {o o' : Option Nat} (h : Apart o o') : Apart o' o := fun k h1 h2 => h k h2 h1
section
variable {W W' : World} {B : Nat} {b0 b3 b9 : Bool} {x8 x11 x5 : Value} {L : List ByteArray} {Z : List Value} {o o' o2 row : Option Nat}
theorem Way.kept (h : Way W B b0 b3 x8 x11 L o) (hg : W.grownBy W' row) (hr : Apart o row) : Way W' B b0 b3 x8 x11 L o := by
 have key : ∀ {v : Value} {n : Nat} {xs : List Value}, W.ownsRow B 9 1 v n xs → v.ownBlock = o → W'.ownsRow B 9 1 v n xs := fun {v n xs} h1 h2 => by
  refine h1.kept hg ?_;cases hv : v.ownBlock with
  | none => exact .inl rfl
  | some k => exact .inr (fun e => hr k (by rw [← h2, hv]) e.symm)
 cases b3
 ·cases b0
  ·exact h
  ·exact ⟨key h.1 h.2, h.2⟩
 ·exact ⟨key h.1 h.2, h.2⟩
theorem Way.lt (h : Way W B b0 b3 x8 x11 L o) : ∀ k, o = some k → B ≤ k ∧ k < W.heap.size := fun k hk => by
 cases b3
 ·cases b0
  ·cases h.symm.trans hk
  ·exact h.1.lt k (h.2.trans hk)
 ·exact h.1.lt k (h.2.trans hk)
theorem Boxed.kept (h : Boxed W B b9 x5 Z o) (hg : W.grownBy W' row) (hr : Apart o row) : Boxed W' B b9 x5 Z o := by
 cases b9
 ·exact h
 ·obtain ⟨k, rfl, ⟨h1, T, h2⟩, h3, rfl⟩ := h;exact ⟨k, rfl, ⟨Nat.lt_of_lt_of_le h1 hg.size, T, (hg.block k h1 (fun e => hr k rfl e.symm)).trans h2⟩, h3, rfl⟩
theorem Boxed.lt (h : Boxed W B b9 x5 Z o) : ∀ k, o = some k → B ≤ k ∧ k < W.heap.size := fun k hk => by
 cases b9
 ·cases h.symm.trans hk
 ·obtain ⟨j, rfl, h2, h3, rfl⟩ := h;cases hk;exact ⟨h3, h2.1⟩
theorem Apart.upd (h : Apart o o2) (hn : o' = o ∨ ∀ k, o' = some k → W.heap.size ≤ k) (hl : ∀ k, o2 = some k → B ≤ k ∧ k < W.heap.size) : Apart o' o2 := by
 rcases hn with rfl | hn
 ·exact h
 ·intro k h1 h2;have := hn k h1;have := (hl k h2).2;omega
end
structure JF (W0 : World) (L M : List ByteArray) (Z : List Value) (b0 b3 b4 b7 b9 : Bool) (x8 x11 x12 x15 x5 : Value) (W : World) : Prop where
 ex : ∃ o1 o2 o3, Way W W0.heap.size b0 b3 x8 x11 L o1 ∧ Way W W0.heap.size b4 b7 x12 x15 M o2 ∧ Boxed W W0.heap.size b9 x5 Z o3 ∧ Apart o1 o2 ∧ Apart o1 o3 ∧ Apart o2 o3 ∧ Below W0.heap.size W0 W
section
variable {W0 W W' : World} {L M : List ByteArray} {Z : List Value} {b0 b3 b4 b7 b9 : Bool} {x8 x11 x12 x15 x5 v v' : Value}
theorem JF.bel (h : JF W0 L M Z b0 b3 b4 b7 b9 x8 x11 x12 x15 x5 W) : Below W0.heap.size W0 W := by
 obtain ⟨_, _, _, _, _, _, _, _, _, h⟩ := h.ex;exact h
theorem apart_none (o : Option Nat) : Apart o none := fun _ _ h => by cases h
theorem JF.swap (h : JF W0 L M Z b0 b3 b4 b7 b9 x8 x11 x12 x15 x5 W) : JF W0 M L Z b4 b7 b0 b3 b9 x12 x15 x8 x11 x5 W := by
 obtain ⟨o1, o2, o3, h1, h2, h3, h4, h5, h6, h7⟩ := h.ex;exact ⟨o2, o1, o3, h2, h1, h3, h4.symm, h6, h5, h7⟩
theorem JF.move {b0' b3' : Bool} {x8' x11' : Value} (h : JF W0 L M Z b0 b3 b4 b7 b9 x8 x11 x12 x15 x5 W)
 (hn : ∀ o1, Way W W0.heap.size b0 b3 x8 x11 L o1 → ∃ o1', W.grownBy W' o1 ∧ Way W' W0.heap.size b0' b3' x8' x11' L o1' ∧ (o1' = o1 ∨ ∀ k, o1' = some k → W.heap.size ≤ k)) : JF W0 L M Z b0' b3' b4 b7 b9 x8' x11' x12 x15 x5 W' := by
 obtain ⟨o1, o2, o3, h1, h2, h3, h4, h5, h6, h7⟩ := h.ex;obtain ⟨o1', g, q1, q2⟩ := hn o1 h1;refine ⟨o1', o2, o3, q1, h2.kept g h4.symm, h3.kept g h5.symm, h4.upd q2 h2.lt, h5.upd q2 h3.lt, h6, h7.grown g h7.size (fun k hk => (h1.lt k hk).1)⟩
theorem grown_new (W : World) (o : Obj) (r : Option Nat) : W.grownBy (W.alloc o) r := grownBy_of_below ((Below.refl _ _).alloc (Nat.le_refl _) o) r
theorem JF.empty (h : JF W0 L M Z false false b4 b7 b9 x8 x11 x12 x15 x5 W) : JF W0 L M Z true false b4 b7 b9 (.slice (some ⟨W.heap.size, 0, none⟩) 0 0) x11 x12 x15 x5 (W.alloc (.cells #[] 9)) :=
 h.move (fun o1 _ => ⟨some W.heap.size, grown_new _ _ _, ⟨World.ownsRow_made W #[] 0 h.bel.size (Nat.zero_le _) (by simp), rfl⟩, .inr (fun k hk => by cases hk; exact Nat.le_refl _)⟩)
theorem JF.row (h : JF W0 L M Z true false b4 b7 b9 x8 x11 x12 x15 x5 W) (ho : W'.ownsRow W0.heap.size 9 1 v (0 + L.length) ([] ++ L.flatMap encS)) (hg : W.grownBy W' x8.ownBlock) (hor : OwnOr W x8 v) : JF W0 L M Z true true b4 b7 b9 x8 v x12 x15 x5 W' :=
 h.move (fun o1 h1 => ⟨v.ownBlock, h1.2 ▸ hg, ⟨by simpa using ho, rfl⟩, h1.2 ▸ hor⟩)
theorem JF.own (h : JF W0 L M Z true false b4 b7 b9 x8 x11 x12 x15 x5 W) : W.ownsRow W0.heap.size 9 1 x8 0 [] := by
 obtain ⟨o1, _, _, h1, _⟩ := h.ex;exact h1.1
theorem JF.row1 (h : JF W0 L M Z b0 true b4 b7 b9 x8 x11 x12 x15 x5 W) : W.ownsRow W0.heap.size 9 1 x11 L.length (L.flatMap encS) := by
 obtain ⟨o1, _, _, h1, _⟩ := h.ex;exact h1.1
theorem JF.box (T : TypeId) (h : JF W0 L M Z b0 b3 b4 b7 false x8 x11 x12 x15 x5 W) : JF W0 L M Z b0 b3 b4 b7 true x8 x11 x12 x15 (.pointer (some ⟨W.heap.size, 0, none⟩)) (W.alloc (.cells Z.toArray T)) := by
 obtain ⟨o1, o2, o3, h1, h2, h3, h4, h5, h6, h7⟩ := h.ex;have g := grown_new W (.cells Z.toArray T) none;have f : ∀ {o : Option Nat}, (∀ k, o = some k → W0.heap.size ≤ k ∧ k < W.heap.size) → Apart o (some W.heap.size) := fun hl k h1 h2 => by cases h2; exact Nat.lt_irrefl _ (hl _ h1).2
 exact ⟨o1, o2, some W.heap.size, h1.kept g (apart_none _), h2.kept g (apart_none _), ⟨_, rfl, Box.new W Z T, h7.size, rfl⟩, h4, f h1.lt, f h2.lt, h7.trans ((Below.refl _ _).alloc h7.size _)⟩
end
end Go.Proofs.YtihghflppegnmaaGreatDoor
namespace Go.Proofs.YtihghflppegnmaaGreatDoor
open Go.RowKit
attribute [local go_sem ↓] Go.wp_at_zero Go.wp_at_succ
theorem readqCString {w wr : World} {a : Option Addr} {xs : List ByteArray} (hr : Reads w a 1 encS xs) (hb : Below w.heap.size w wr) {k : Nat} {x : ByteArray} (hx : xs[k]? = some x) :
 ∃ b off, a = some ⟨b, off, none⟩ ∧ wr.cell? ⟨b, off + k, none⟩ = some (.string x) := by
 rcases hr.below hb with rfl | ⟨b, off, h1, _, h3⟩
 ·simp at hx
 ·exact ⟨b, off, h1, by simpa [Nat.add_assoc] using h3 k x hx 0 _ rfl⟩
end Go.Proofs.YtihghflppegnmaaGreatDoor
namespace Go.Proofs.YtihghflppegnmaaGreatDoor
open Go.RowKit
theorem boxS (w : World) (b : Nat) (xs : List Value) (i : Nat) (v : Value) (h : Box w b xs) : Box (w.setCell ⟨b, i, none⟩ v) b (xs.set i v) := by
 obtain ⟨h1, T, h2⟩ := h;refine ⟨by simpa [World.setCell] using h1, T, ?_⟩;have := heap_setCell_same w b i xs.toArray T v h2;simpa using this
set_option maxHeartbeats 1600000 in
theorem eqTouch_c (a b a' b' : Option Addr) (c d c' d' : Nat) (rs ws rs' ws' : List ByteArray) (w : World) (l1 : rs.length ≤ maxLen) (l2 : ws.length ≤ maxLen) (h1 : Reads w a 1 encS rs) (h2 : Reads w b 1 encS ws) (h3 : Reads w a' 1 encS rs') (h4 : Reads w b' 1 encS ws') :
 Calls Tryz.prog 31 #[.agg #[.slice a rs.length c, .slice b ws.length d], .agg #[.slice a' rs'.length c', .slice b' ws'.length d']] w fun e w' => e = .returned (.bool (same rs rs' && same ws ws')) ∧ Below w.heap.size w w' := by
 have HB : Below w.heap.size w ((w.alloc (.cells #[.slice a rs.length c, .slice b ws.length d] 31)).alloc (.cells #[.slice a' rs'.length c', .slice b' ws'.length d'] 31)) := ((Below.refl _ _).alloc (Nat.le_refl _) _).alloc (by simp) _;have K1 := Lib.hid (eqStringS_c a a' c c' rs rs' _ l1 (h1.below HB) (h3.below HB));have H2 := Lib.hid (h2.below HB);have H4 := Lib.hid (h4.below HB);have X0 := (Box.new w [.slice a rs.length c, .slice b ws.length d] 31).alloc (.cells #[.slice a' rs'.length c', .slice b' ws'.length d'] 31);have X1 := Box.new (w.alloc (.cells #[.slice a rs.length c, .slice b ws.length d] 31)) [.slice a' rs'.length c', .slice b' ws'.length d'] 31;have H0 := Lib.hid X0;have H1 := Lib.hid X1;have HL := Lib.hid l2;have HBB := Lib.hid HB;clear h1 h2 h3 h4 l1 l2 X0 X1 HB;cases hr : same rs rs'
 ·go_enter Tryz.func31, Tryz.ntmps31;go_wp2_with fail;refine K1.out.mono ?_;rintro e w1 ⟨rfl, hb1⟩;go_wp2;go_ret;exact ⟨rfl, HBB.out.trans (hb1.mono HBB.out.size)⟩
 ·go_enter Tryz.func31, Tryz.ntmps31;go_wp2_with fail;refine K1.out.mono ?_;rintro e w1 ⟨rfl, hb1⟩;have Y0 := H0.out.below hb1;have Y1 := H1.out.below hb1;simp only [World.size_alloc] at Y1;have f0 := Y0.cell 1 _ rfl;have f1 := Y1.cell 1 _ rfl;clear Y0 Y1;go_wp2_with fail;refine (eqStringS_c b b' d d' ws ws' _ HL.out (H2.out.below hb1) (H4.out.below hb1)).mono ?_;rintro e w2 ⟨rfl, hb2⟩;cases hw : same ws ws'
  ·go_wp2;go_ret;exact ⟨by rw [hw]; rfl, (HBB.out.trans (hb1.mono HBB.out.size)).trans (hb2.mono (Nat.le_trans HBB.out.size hb1.size))⟩
  ·go_wp2;go_ret;exact ⟨by rw [hw]; rfl, (HBB.out.trans (hb1.mono HBB.out.size)).trans (hb2.mono (Nat.le_trans HBB.out.size hb1.size))⟩
end Go.Proofs.YtihghflppegnmaaGreatDoor
namespace Go.Proofs.YtihghflppegnmaaGreatDoor
open Go.ChangeShapes Go.WideShapes Go.ChangeAt Go.RowKit
attribute [local go_sem ↓] Go.wp_at_zero Go.wp_at_succ
theorem step_append_reads {P : Program} {α : Type} {enc : α → List Value} (w : World) {ops : Array Oper} {o : Oper} {a : Act} {K : Act → World → Prop} {Q : Exit → Act → World → Prop} {E : Prop} (hgd : o.guard = none) (s x : Operand) (t : TypeId)
 (ho : o.op = .call { callee := .builtin .append, args := #[s, x], argTypes := #[t, t] })
 (base : Nat) (e : TypeId) (i : TypeInfo) (z : Value) (size bytes : Nat) (ht : P.underlying t = some (.slice e)) (hi : P.info? e = some i) (hz : i.zero = some z)
 (hsize : i.size = size) (hby : i.bytes = bytes) (hzs : z.cells.size = size) (hsz : 0 < size) (hk : ∀ x, (enc x).length = size) (h1 : ∀ x, ∀ u ∈ enc x, u.oneCell' = true)
 (v : Value) (n : Nat) (xs : List Value) (hs : a.eval s = v) (hown : w.ownsRow base e size v n xs)
 (A : Option Addr) (m c : Nat) (ys : List α) (hx : a.eval x = .slice A m c) (hm : m = ys.length) (hr : Reads w A size enc ys)
 (h63 : n + ys.length ≤ maxLen) (hbytes : (n + ys.length) * bytes ≤ 140737488355328) (hbase : base ≤ w.heap.size)
 (h : ∀ v' w', w'.ownsRow base e size v' (n + ys.length) (xs ++ ys.flatMap enc) → w.grownBy w' v.ownBlock → OwnOr w v v' → K (a.put o.dst v') w') :
 if Region.wanted o (yielded ops a.tmps) = true then Oper.wp P o a w K Q else E := by
 subst hm;have hw : Region.wanted o (yielded ops a.tmps) = true := by simp [Region.wanted, hgd]
 rw [if_pos hw];obtain ⟨v', w', hrun, h2, h3, h4⟩ := run_append_reads (P := P) w base t o.type e i z size bytes ht hi hz hsize hby hzs hsz hk h1 v n xs hown A c ys hr h63 hbytes hbase;unfold Oper.wp execOp;simp only [ho, resolve, invoke, builtin, Sem.run_bind, Sem.run_pure, Result.andThen_ok, List.map_toArray, List.map_cons, List.map_nil, hs, hx, hrun];exact h v' w' h2 h3 h4
def JT (base b5 : Nat) (L M : List ByteArray) (W : World) : Prop := ∃ v1 v2, Box W b5 [v1, v2] ∧ base ≤ b5 ∧ W.ownsRow base 9 1 v1 L.length (L.flatMap encS) ∧ W.ownsRow base 9 1 v2 M.length (M.flatMap encS) ∧ v1.ownBlock ≠ some b5 ∧ v2.ownBlock ≠ some b5
theorem own_setJ {W : World} {base T n : Nat} {v u : Value} {xs : List Value} {b i : Nat} (h : W.ownsRow base T 1 v n xs) (hne : v.ownBlock ≠ some b) : (W.setCell ⟨b, i, none⟩ u).ownsRow base T 1 v n xs := h.kept (grownBy_setCell W b i u) (.inr hne)
theorem own_lowJ {W : World} {base base' T K n : Nat} {v : Value} {xs : List Value} (h : W.ownsRow base T K v n xs) (hb : base' ≤ base) : W.ownsRow base' T K v n xs := by
 rcases h with ⟨h1, h2 | ⟨g, cap, cur, h2, h3, h4⟩⟩
 ·exact ⟨h1, .inl h2⟩
 ·exact ⟨h1, .inr ⟨g, cap, cur, h2, Nat.le_trans hb h3, h4⟩⟩
theorem JT.next {base b5 : Nat} {L M L' : List ByteArray} {W W' : World} {v : Value} (h : JT base b5 L M W) (hz : base ≤ W.heap.size) (hb : Below W.heap.size W W') (ho : W'.ownsRow W.heap.size 9 1 v L'.length (L'.flatMap encS)) : JT base b5 L' M (W'.setCell ⟨b5, 0, none⟩ v) := by
 obtain ⟨v1, v2, x, hb5, o1, o2, n1, n2⟩ := h;have hv : v.ownBlock ≠ some b5 := fun e => by have := (ho.lt b5 e).1; have := x.1; omega
 exact ⟨v, v2, boxS _ _ _ 0 v (x.below hb), hb5, own_setJ (own_lowJ ho hz) hv, own_setJ (ownsRow_below o2 hb) n2, hv, n2⟩
theorem JT.next2 {base b5 : Nat} {L M M' : List ByteArray} {W W' : World} {v : Value} (h : JT base b5 L M W) (hz : base ≤ W.heap.size) (hb : Below W.heap.size W W') (ho : W'.ownsRow W.heap.size 9 1 v M'.length (M'.flatMap encS)) : JT base b5 L M' (W'.setCell ⟨b5, 1, none⟩ v) := by
 obtain ⟨v1, v2, x, hb5, o1, o2, n1, n2⟩ := h;have hv : v.ownBlock ≠ some b5 := fun e => by have := (ho.lt b5 e).1; have := x.1; omega
 exact ⟨v1, v, boxS _ _ _ 1 v (x.below hb), hb5, own_setJ (ownsRow_below o1 hb) n1, own_setJ (own_lowJ ho hz) hv, n1, hv⟩
theorem joinS_len : ∀ (b a : List ByteArray), (joinS a b).length ≤ a.length + b.length
 | [], a => by simp [joinS]
 | x :: b, a => by
  have h := joinS_len b (addS a x);have h2 := addS_len a x;show (joinS (addS a x) b).length ≤ _;simp only [List.length_cons];omega
theorem joinS_take {a b : List ByteArray} {k : Nat} {x : ByteArray} (h : b[k]? = some x) : joinS a (b.take (k + 1)) = addS (joinS a (b.take k)) x := by
 unfold joinS;rw [take_snoc_of h, List.foldl_append];rfl
theorem all11 : ∀ j, j < 11 → (#[true, true, true, true, true, true, true, true, true, true, false].setIfInBounds 10 true).getD j true = true := by decide
theorem way_jt {W W0 : World} {kb : Nat} {L M : List ByteArray} {x8 x11 x12 x15 : Value} {o1 o2 : Option Nat} (q1 : Way W W0.heap.size true true x8 x11 L o1) (q2 : Way W W0.heap.size true true x12 x15 M o2) (qb : Box W kb [.slice none 0 0, .slice none 0 0]) (p1 : Apart o1 (some kb)) (p2 : Apart o2 (some kb)) (hk : W0.heap.size ≤ kb) (hB : Below W0.heap.size W0 W) :
 Below W0.heap.size W0 ((W.setCell ⟨kb, 0, none⟩ x11).setCell ⟨kb, 1, none⟩ x15) ∧ JT W0.heap.size kb L M ((W.setCell ⟨kb, 0, none⟩ x11).setCell ⟨kb, 1, none⟩ x15) := by
 have n1 : x11.ownBlock ≠ some kb := fun e => p1 kb (q1.2.symm.trans e) rfl;have n2 : x15.ownBlock ≠ some kb := fun e => p2 kb (q2.2.symm.trans e) rfl;exact ⟨(hB.setCell hk _).setCell hk _, x11, x15, boxS _ _ _ 1 _ (boxS _ _ _ 0 _ qb), hk, own_setJ (own_setJ q1.1 n1) n1, own_setJ (own_setJ q2.1 n2) n2, n1, n2⟩
def JRet (L M : List ByteArray) (w : World) (e : Ending) (w' : World) : Prop := ∃ a5 c5 a6 c6, e = .returned (.agg #[.slice a5 L.length c5, .slice a6 M.length c6]) ∧ Below w.heap.size w w' ∧ w'.ownsRow w.heap.size 9 1 (.slice a5 L.length c5) L.length (L.flatMap encS) ∧ w'.ownsRow w.heap.size 9 1 (.slice a6 M.length c6) M.length (M.flatMap encS)
set_option maxRecDepth 100000 in
set_option maxHeartbeats 40000000 in
theorem specJoin_c (a b a2 b2 : Option Addr) (c d c2 d2 : Nat) (rs ws rs2 ws2 : List ByteArray) (w : World) (l1 : rs.length + rs2.length ≤ 1000000000000) (l2 : ws.length + ws2.length ≤ 1000000000000) (h1 : Reads w a 1 encS rs) (h2 : Reads w b 1 encS ws) (h3 : Reads w a2 1 encS rs2) (h4 : Reads w b2 1 encS ws2) :
 Calls Tryz.prog 145 #[.agg #[.slice a rs.length c, .slice b ws.length d], .agg #[.slice a2 rs2.length c2, .slice b2 ws2.length d2]] w (JRet (joinS rs rs2) (joinS ws ws2) w) := by
 obtain ⟨i0, hi0, hzz⟩ := Option.map_eq_some_iff.1 infoString;simp only [Prod.mk.injEq] at hzz;have HI := Lib.hid hi0;have HZ := Lib.hid hzz;clear hi0 hzz;obtain ⟨W0, hW0⟩ : ∃ W0, W0 = ((w.alloc (.cells #[.slice a rs.length c, .slice b ws.length d] 31)).alloc (.cells #[.slice a2 rs2.length c2, .slice b2 ws2.length d2] 31)).alloc (.cells #[.slice none 0 0, .slice none 0 0] 31) := ⟨_, rfl⟩;have HB0 := Lib.hid (show Below w.heap.size w W0 from by subst hW0; exact (by repeat (first | exact Below.refl _ _ | refine Below.drew ?_ | refine below_drewN ?_ _ | refine Below.allocC ?_ _ | refine Below.setCell ?_ (by first | (simp; done) | (simp; omega)) _ | refine Below.chain ?_ (by assumption))));have X2 := Lib.hid (show Box W0 w.heap.size [.slice a rs.length c, .slice b ws.length d] from by subst hW0; exact ((Box.new w _ _).alloc _).alloc _);have X3 := Lib.hid (show Box W0 (w.heap.size + 1) [.slice a2 rs2.length c2, .slice b2 ws2.length d2] from by
  subst hW0;have h := (Box.new (w.alloc (.cells #[.slice a rs.length c, .slice b ws.length d] 31)) [.slice a2 rs2.length c2, .slice b2 ws2.length d2] 31).alloc (.cells #[.slice none 0 0, .slice none 0 0] 31);simpa using h)
 have X4 := Lib.hid (show Box W0 (w.heap.size + 1 + 1) [.slice none 0 0, .slice none 0 0] from by
  subst hW0;have h := Box.new ((w.alloc (.cells #[.slice a rs.length c, .slice b ws.length d] 31)).alloc (.cells #[.slice a2 rs2.length c2, .slice b2 ws2.length d2] 31)) [.slice none 0 0, .slice none 0 0] 31;simpa using h)
 have R3 := Lib.hid (h3.below HB0.out);have R4 := Lib.hid (h4.below HB0.out);have hs0 : W0.heap.size = w.heap.size + 3 := by subst hW0; simp
 have R1 := Lib.hid (h1.below HB0.out);have R2 := Lib.hid (h2.below HB0.out);clear h1 h2 h3 h4;go_enter Tryz.func145, Tryz.ntmps145;go_upto_region 1 with fail;rw [← hW0];clear hW0;go_cut [5] from 8 to 17 (fun sx wx => Hid (∃ b5, sx = .pointer (some ⟨b5, 0, none⟩) ∧ Below W0.heap.size W0 wx ∧ JT W0.heap.size b5 rs ws wx))
 case first =>
  have hbel := Lib.hid (fun X (h : Below W0.heap.size W0 X) => (X2.out.below h : Box X w.heap.size [.slice a rs.length c, .slice b ws.length d]));have hRa := Lib.hid (fun X (h : Below W0.heap.size W0 X) => (R1.out.below h : Reads X a 1 encS rs));have hRb := Lib.hid (fun X (h : Below W0.heap.size W0 X) => (R2.out.below h : Reads X b 1 encS ws));clear R1 R2 X2 HB0;refine wp_region_run (fun l A W => Hid (∃ g0 g1 g2 g3 g4 g5 g6 g7 g8 g9 x5 x8 x9 x10 x11 x12 x13 x14 x15 x16, l = #[g0, g1, g2, g3, g4, g5, g6, g7, g8, g9, false] ∧ A = { tmps := #[.agg #[.slice a rs.length c, .slice b ws.length d], .agg #[.slice a2 rs2.length c2, .slice b2 ws2.length d2], .pointer (some ⟨w.heap.size, 0, none⟩), .pointer (some ⟨w.heap.size + 1, 0, none⟩), .pointer (some ⟨w.heap.size + 1 + 1, 0, none⟩), x5, undef, undef, x8, x9, x10, x11, x12, x13, x14, x15, x16, undef, undef, undef, undef, undef, undef, undef, undef, undef, undef, undef, undef, undef, undef, undef, undef, undef, undef, undef, undef, undef, undef, undef, undef, undef, undef, undef, undef, undef, undef, undef, undef, undef], defers := [] } ∧ JF W0 rs ws [.slice none 0 0, .slice none 0 0] g0 g3 g4 g7 g9 x8 x11 x12 x15 x5 W ∧ ((g3 = true → g0 = true) ∧ (g7 = true → g4 = true) ∧ (g8 = true → g3 = true ∧ g7 = true)) ∧ (g1 = true → x9 = .pointer (some ⟨w.heap.size, 0, none⟩)) ∧ (g2 = true → x10 = .slice a rs.length c) ∧ (g5 = true → x13 = .pointer (some ⟨w.heap.size, 1, none⟩)) ∧ (g6 = true → x14 = .slice b ws.length d) ∧ (g8 = true → x16 = .agg #[x11, x15]))) (by kernel_rfl) (by kernel_rfl) ?_ ?_ ?_
  ·exact Lib.hid ⟨false, false, false, false, false, false, false, false, false, false, undef, undef, undef, undef, undef, undef, undef, undef, undef, undef, rfl, rfl, ⟨⟨none, none, none, rfl, rfl, rfl, apart_none _, apart_none _, apart_none _, (Below.refl _ _).drew⟩⟩, ⟨fun h => h, fun h => h, fun h => ⟨h, h⟩⟩, by simp, by simp, by simp, by simp, by simp⟩
  ·rintro l A W hR i hi hl hr;obtain ⟨g0, g1, g2, g3, g4, g5, g6, g7, g8, g9, x5, x8, x9, x10, x11, x12, x13, x14, x15, x16, rfl, rfl, hF, ⟨h30, h74, h83⟩, h9, h10, h13, h14, h16⟩ := hR.out;have hB := hF.bel;clear hR;have hi' : i < 11 := hi;obtain rfl | rfl | rfl | rfl | rfl | rfl | rfl | rfl | rfl | rfl | rfl : i = 0 ∨ i = 1 ∨ i = 2 ∨ i = 3 ∨ i = 4 ∨ i = 5 ∨ i = 6 ∨ i = 7 ∨ i = 8 ∨ i = 9 ∨ i = 10 := by omega
   ·have hl : g0 = false := hl;subst hl;clear hr hi hi';have e : g3 = false := by cases h : g3 with | false => rfl | true => exact absurd (h30 h) (by decide)
    subst e;refine wpOp_ok (v := .slice (some ⟨W.heap.size, 0, none⟩) 0 0) (w' := W.alloc (.cells #[] 9)) rfl rfl (by go_simp) ?_;exact .inl (Lib.hid ⟨true, g1, g2, false, g4, g5, g6, g7, g8, g9, x5, _, x9, x10, x11, x12, x13, x14, x15, x16, rfl, rfl, hF.empty, ⟨(fun _ => rfl), h74, h83⟩, h9, h10, h13, h14, h16⟩)
   ·have hl : g1 = false := hl;subst hl;clear hr hi hi';refine wpOp_ok (v := .pointer (some ⟨w.heap.size, 0, none⟩)) (w' := W) rfl rfl (by go_simp) ?_;exact .inl (Lib.hid ⟨g0, true, g2, g3, g4, g5, g6, g7, g8, g9, x5, x8, _, x10, x11, x12, x13, x14, x15, x16, rfl, rfl, hF, ⟨h30, h74, h83⟩, (fun _ => rfl), h10, h13, h14, h16⟩)
   ·have hl : g2 = false := hl;have d1 : g1 = true := hr _ rfl 0 (by decide) rfl;subst d1;subst hl;clear hr hi hi';have e := h9 rfl;subst e;have k0 := (hbel.out W hB).cell 0 _ rfl;refine wpOp_ok (v := .slice a rs.length c) (w' := W) rfl rfl (by clear h10 h14 h16 h9 h13 h30 h74 h83; go_simp) ?_;exact .inl (Lib.hid ⟨g0, true, true, g3, g4, g5, g6, g7, g8, g9, x5, x8, _, _, x11, x12, x13, x14, x15, x16, rfl, rfl, hF, ⟨h30, h74, h83⟩, (fun _ => rfl), (fun _ => rfl), h13, h14, h16⟩)
   ·have hl : g3 = false := hl;have d0 : g0 = true := hr _ rfl 0 (by decide) rfl;have d2 : g2 = true := hr _ rfl 1 (by decide) rfl;subst d0;subst d2;subst hl;clear hr hi hi';have e := h10 rfl;subst e;have hX := Lib.hid (hRa.out W hB);refine wpOp_step rfl (fun K2 hK2 => ?_);refine step_append_reads W (by rfl) _ _ _ (by rfl) W0.heap.size 9 i0 (.string ⟨#[]⟩) 1 16 Tryz.underlying29 HI.out HZ.out.1 HZ.out.2.1 HZ.out.2.2 rfl (by decide) encS_len encS_one _ 0 [] (by rfl) hF.own a _ c rs (by rfl) rfl hX.out (by unfold maxLen; omega) (by omega) hB.size ?_;intro v1 w1 ho hg hor;refine hK2 _ _ ?_;exact .inl (Lib.hid ⟨true, g1, true, true, g4, g5, g6, g7, g8, g9, x5, x8, x9, _, _, x12, x13, x14, x15, x16, rfl, rfl, (hF.row ho hg hor), ⟨(fun _ => rfl), h74, (fun h => absurd (h83 h).1 (by decide))⟩, h9, h10, h13, h14, (fun h => absurd (h83 h).1 (by decide))⟩)
   ·have hl : g4 = false := hl;subst hl;clear hr hi hi';have e : g7 = false := by cases h : g7 with | false => rfl | true => exact absurd (h74 h) (by decide)
    subst e;refine wpOp_ok (v := .slice (some ⟨W.heap.size, 0, none⟩) 0 0) (w' := W.alloc (.cells #[] 9)) rfl rfl (by go_simp) ?_;exact .inl (Lib.hid ⟨g0, g1, g2, g3, true, g5, g6, false, g8, g9, x5, x8, x9, x10, x11, _, x13, x14, x15, x16, rfl, rfl, hF.swap.empty.swap, ⟨h30, (fun _ => rfl), h83⟩, h9, h10, h13, h14, h16⟩)
   ·have hl : g5 = false := hl;subst hl;clear hr hi hi';refine wpOp_ok (v := .pointer (some ⟨w.heap.size, 1, none⟩)) (w' := W) rfl rfl (by go_simp) ?_;exact .inl (Lib.hid ⟨g0, g1, g2, g3, g4, true, g6, g7, g8, g9, x5, x8, x9, x10, x11, x12, _, x14, x15, x16, rfl, rfl, hF, ⟨h30, h74, h83⟩, h9, h10, (fun _ => rfl), h14, h16⟩)
   ·have hl : g6 = false := hl;have d5 : g5 = true := hr _ rfl 0 (by decide) rfl;subst d5;subst hl;clear hr hi hi';have e := h13 rfl;subst e;have k1 := (hbel.out W hB).cell 1 _ rfl;refine wpOp_ok (v := .slice b ws.length d) (w' := W) rfl rfl (by clear h10 h14 h16 h9 h13 h30 h74 h83; go_simp) ?_;exact .inl (Lib.hid ⟨g0, g1, g2, g3, g4, true, true, g7, g8, g9, x5, x8, x9, x10, x11, x12, _, _, x15, x16, rfl, rfl, hF, ⟨h30, h74, h83⟩, h9, h10, (fun _ => rfl), (fun _ => rfl), h16⟩)
   ·have hl : g7 = false := hl;have d4 : g4 = true := hr _ rfl 0 (by decide) rfl;have d6 : g6 = true := hr _ rfl 1 (by decide) rfl;subst d4;subst d6;subst hl;clear hr hi hi';have e := h14 rfl;subst e;have hX := Lib.hid (hRb.out W hB);refine wpOp_step rfl (fun K2 hK2 => ?_);refine step_append_reads W (by rfl) _ _ _ (by rfl) W0.heap.size 9 i0 (.string ⟨#[]⟩) 1 16 Tryz.underlying29 HI.out HZ.out.1 HZ.out.2.1 HZ.out.2.2 rfl (by decide) encS_len encS_one _ 0 [] (by rfl) hF.swap.own b _ d ws (by rfl) rfl hX.out (by unfold maxLen; omega) (by omega) hB.size ?_;intro v1 w1 ho hg hor;refine hK2 _ _ ?_;exact .inl (Lib.hid ⟨g0, g1, g2, g3, true, g5, true, true, g8, g9, x5, x8, x9, x10, x11, x12, x13, _, _, x16, rfl, rfl, (hF.swap.row ho hg hor).swap, ⟨h30, (fun _ => rfl), (fun h => absurd (h83 h).2 (by decide))⟩, h9, h10, h13, h14, (fun h => absurd (h83 h).2 (by decide))⟩)
   ·have hl : g8 = false := hl;have d3 : g3 = true := hr _ rfl 0 (by decide) rfl;have d7 : g7 = true := hr _ rfl 1 (by decide) rfl;subst d3;subst d7;subst hl;clear hr hi hi';obtain ⟨y1, e1, hv1, -⟩ := reads_of_owns (enc := encS) (K := 1) encS_len hF.row1;obtain ⟨y2, e2, hv2, -⟩ := reads_of_owns (enc := encS) (K := 1) encS_len hF.swap.row1;subst hv1;subst hv2;refine wpOp_ok (v := .agg #[.slice y1 rs.length e1, .slice y2 ws.length e2]) (w' := W) rfl rfl (by clear h10 h14 h16 h9 h13 h30 h74 h83; go_simp) ?_;exact .inl (Lib.hid ⟨g0, g1, g2, true, g4, g5, g6, true, true, g9, x5, x8, x9, x10, _, x12, x13, x14, _, _, rfl, rfl, hF, ⟨h30, h74, (fun _ => ⟨rfl, rfl⟩)⟩, h9, h10, h13, h14, (fun _ => rfl)⟩)
   ·have hl : g9 = false := hl;subst hl;clear hr hi hi';refine wpOp_ok (v := .pointer (some ⟨W.heap.size, 0, none⟩)) (w' := W.alloc (.cells #[.slice none 0 0, .slice none 0 0] 31)) rfl rfl (by go_simp) ?_;exact .inl (Lib.hid ⟨g0, g1, g2, g3, g4, g5, g6, g7, g8, true, _, x8, x9, x10, x11, x12, x13, x14, x15, x16, rfl, rfl, hF.box 31, ⟨h30, h74, h83⟩, h9, h10, h13, h14, h16⟩)
   ·have hl : false = false := hl;have d9 : g9 = true := hr _ rfl 0 (by decide) rfl;have d8 : g8 = true := hr _ rfl 1 (by decide) rfl;have d7 : g7 = true := hr _ rfl 2 (by decide) rfl;have d0 : g0 = true := hr _ rfl 3 (by decide) rfl;have d1 : g1 = true := hr _ rfl 4 (by decide) rfl;have d2 : g2 = true := hr _ rfl 5 (by decide) rfl;have d3 : g3 = true := hr _ rfl 6 (by decide) rfl;have d4 : g4 = true := hr _ rfl 7 (by decide) rfl;have d5 : g5 = true := hr _ rfl 8 (by decide) rfl;have d6 : g6 = true := hr _ rfl 9 (by decide) rfl;subst d9;subst d8;subst d7;subst d0;subst d1;subst d2;subst d3;subst d4;subst d5;subst d6;clear hr hi hi';have e := h16 rfl;subst e;obtain ⟨y1, e1, hv1, -⟩ := reads_of_owns (enc := encS) (K := 1) encS_len hF.row1;obtain ⟨y2, e2, hv2, -⟩ := reads_of_owns (enc := encS) (K := 1) encS_len hF.swap.row1;subst hv1;subst hv2;obtain ⟨o1, o2, o3, q1, q2, ⟨kb, rfl, qb, hkb, rfl⟩, p12, p13, p23, hB2⟩ := hF.ex;clear h9 h10 h13 h14 h16 h30 h74 h83 hF;refine wpOp_step rfl (fun K2 hK2 => ?_);have HK2 := Lib.hid hK2;clear hK2;have Q1 := Lib.hid q1;have Q2 := Lib.hid q2;have QB := Lib.hid qb;have P13 := Lib.hid p13;have P23 := Lib.hid p23;have P12 := Lib.hid p12;have HB2 := Lib.hid hB2;have f0 := qb.free 0;have f1 := qb.free 1;have c0 := qb.cell 0 _ rfl;have c1 := qb.cell 1 _ rfl;clear q1 q2 qb p12 p13 p23 hB2 hB;go_simp;have hj := way_jt Q1.out Q2.out QB.out P13.out P23.out hkb HB2.out;refine HK2.out _ _ (.inr ⟨all11, ?_⟩);have HJ := Lib.hid hj;clear hj HK2 K2 c0 c1 f0 f1 Q1 Q2 QB P13 P23 P12 HB2;generalize (World.setCell _ _ _).setCell _ _ = WW at HJ ⊢;go_wp2;go_meet;exact Lib.hid ⟨kb, rfl, HJ.out.1, HJ.out.2⟩
  ·rintro l A W hR;obtain ⟨g0, g1, g2, g3, g4, g5, g6, g7, g8, g9, x5, x8, x9, x10, x11, x12, x13, x14, x15, x16, rfl, rfl, -⟩ := hR.out;exact ⟨rfl, 10, by decide, rfl⟩
 case rest =>
  obtain ⟨b5, rfl, hbx, hj⟩ := hcut.out;have B00 := Lib.hid hbx;have J00 := Lib.hid hj;clear hbx hj hcut R1 R2 X2;go_wp2_with fail;go_loopw [6] (fun i wr => ∃ k : Nat, k ≤ rs2.length ∧ i = .int .i64 k ∧ Hid (Below W0.heap.size W0 wr ∧ JT W0.heap.size b5 (joinS rs (rs2.take k)) ws wr)) (fun i _ => rs2.length - (intOf i).toNat)
  case atStart => exact ⟨0, Nat.zero_le _, rfl, Lib.hid ⟨B00.out, J00.out⟩⟩
  case round =>
   obtain ⟨k, hk, rfl, HJ⟩ := hrel;obtain ⟨hB, hj⟩ := HJ.out;have hB' := Lib.hid hB.drew;have HJ2 := Lib.hid (show JT W0.heap.size b5 (joinS rs (rs2.take k)) ws wr.drew from hj);obtain ⟨v1, v2, xb, hb5, o1, o2, n1, n2⟩ := hj;obtain ⟨y1, e1, hv1, r1, q1, q2⟩ := reads_of_owns' encS_len o1;obtain ⟨y2, e2, hv2, -⟩ := reads_of_owns encS_len o2;subst hv1;subst hv2;have x30 := (X3.out.below hB).cell 0 _ rfl;have XB := Lib.hid xb.drew;have c0 := xb.cell 0 _ rfl;by_cases hlt : k < rs2.length
   ·obtain ⟨x, hx⟩ := some_of_lt hlt;obtain ⟨bq, off, hab, cx⟩ := readqCString (R3.out.below hB) (Below.refl _ _) hx;have hab' := hab;subst hab';have p1 : (0 : Int) ≤ (k : Int) := by omega
    have p2 : (k : Int) < (rs2.length : Int) := by omega
    have HX := Lib.hid hx;have hle : (joinS rs (rs2.take k)).length ≤ 2100000000000 := by
     have h := joinS_len (rs2.take k) rs;rw [List.length_take, Nat.min_eq_left hk] at h;omega
    have K1 := Lib.hid (specAddSpan_c y1 e1 (joinS rs (rs2.take k)) x wr.drew hle r1 q1 q2);clear hx hlt hab r1 q1 q2 o1 o2 n1 n2 xb hB HJ hle;go_wp2_with fail;go_region_with (refine K1.out.mono ?_; rintro e w2 ⟨v3, rfl, ho3, hb3⟩; obtain ⟨y3, e3, hv3, -⟩ := reads_of_owns encS_len ho3; subst hv3; have f9 := (XB.out.below hb3).free 0; have c9 := (XB.out.below hb3).cell 0 _ rfl; have HN := Lib.hid (And.intro ((hB'.out.trans (hb3.mono hB'.out.size)).setCell hb5 _ : Below W0.heap.size W0 (w2.setCell ⟨b5, 0, none⟩ (.slice y3 (addS (joinS rs (List.take k rs2)) x).length e3))) (HJ2.out.next hB'.out.size hb3 ho3)); clear c0 x30 cx ho3 hb3)
    all_goals go_wp2
    all_goals exact ⟨⟨k + 1, by omega, by go_num, Lib.hid ⟨HN.out.1, by rw [joinS_take HX.out]; exact HN.out.2⟩⟩, by simp [intOf]; omega⟩
   ·obtain rfl : k = rs2.length := by omega
    have p2 : ¬ ((rs2.length : Nat) : Int) < (rs2.length : Int) := by omega
    obtain ⟨hB2, hj2⟩ := HJ.out;rw [List.take_length] at hj2;have B0 := Lib.hid hB2;have J0 := Lib.hid hj2;clear o1 o2 n1 n2 r1 q1 q2 xb XB c0 hB HJ HJ2 hB' hB2 hj2 hlt R3;go_wp2_with fail;clear x30;go_loopw [7] (fun i wr => ∃ k : Nat, k ≤ ws2.length ∧ i = .int .i64 k ∧ Hid (Below W0.heap.size W0 wr ∧ JT W0.heap.size b5 (joinS rs rs2) (joinS ws (ws2.take k)) wr)) (fun i _ => ws2.length - (intOf i).toNat)
    case atStart => exact ⟨0, Nat.zero_le _, rfl, Lib.hid ⟨B0.out, J0.out⟩⟩
    case round =>
     obtain ⟨k, hk, rfl, HJ⟩ := hrel;obtain ⟨hB, hj⟩ := HJ.out;have hB' := Lib.hid hB.drew;have HJ2 := Lib.hid (show JT W0.heap.size b5 (joinS rs rs2) (joinS ws (ws2.take k)) wr.drew from hj);obtain ⟨v1, v2, xb, hb5, o1, o2, n1, n2⟩ := hj;obtain ⟨y1, e1, hv1, -⟩ := reads_of_owns encS_len o1;obtain ⟨y2, e2, hv2, r1, q1, q2⟩ := reads_of_owns' encS_len o2;subst hv1;subst hv2;have x31 := (X3.out.below hB).cell 1 _ rfl;have XB := Lib.hid xb.drew;have c0 := xb.cell 1 _ rfl;by_cases hlt : k < ws2.length
     ·obtain ⟨x, hx⟩ := some_of_lt hlt;obtain ⟨bq, off, hab, cx⟩ := readqCString (R4.out.below hB) (Below.refl _ _) hx;have hab' := hab;subst hab';have p1 : (0 : Int) ≤ (k : Int) := by omega
      have p2 : (k : Int) < (ws2.length : Int) := by omega
      have HX := Lib.hid hx;have hle : (joinS ws (ws2.take k)).length ≤ 2100000000000 := by
       have h := joinS_len (ws2.take k) ws;rw [List.length_take, Nat.min_eq_left hk] at h;omega
      have K1 := Lib.hid (specAddSpan_c y2 e2 (joinS ws (ws2.take k)) x wr.drew hle r1 q1 q2);clear hx hlt hab r1 q1 q2 o1 o2 n1 n2 xb hB HJ hle;go_wp2_with fail;go_region_with (refine K1.out.mono ?_; rintro e w2 ⟨v3, rfl, ho3, hb3⟩; obtain ⟨y3, e3, hv3, -⟩ := reads_of_owns encS_len ho3; subst hv3; have f9 := (XB.out.below hb3).free 1; have c9 := (XB.out.below hb3).cell 1 _ rfl; have HN := Lib.hid (And.intro ((hB'.out.trans (hb3.mono hB'.out.size)).setCell hb5 _ : Below W0.heap.size W0 (w2.setCell ⟨b5, 1, none⟩ (.slice y3 (addS (joinS ws (List.take k ws2)) x).length e3))) (HJ2.out.next2 hB'.out.size hb3 ho3)); clear c0 x31 cx ho3 hb3)
      all_goals go_wp2
      all_goals exact ⟨⟨k + 1, by omega, by go_num, Lib.hid ⟨HN.out.1, by rw [joinS_take HX.out]; exact HN.out.2⟩⟩, by simp [intOf]; omega⟩
     ·obtain rfl : k = ws2.length := by omega
      have p2 : ¬ ((ws2.length : Nat) : Int) < (ws2.length : Int) := by omega
      rw [List.take_length] at o2;have c1 := c0;have c0 := xb.cell 0 _ rfl;have z0 := (X4.out.below hB).cell 0 _ rfl;have z1 := (X4.out.below hB).cell 1 _ rfl;have g0 := (X4.out.below hB).free 0;have g1 := (X4.out.below hB).free 1;rw [List.take_length] at c1;have HE := Lib.hid (show Below w.heap.size w ((wr.setCell ⟨w.heap.size + 1 + 1, 0, none⟩ (.slice y1 (joinS rs rs2).length e1)).setCell ⟨w.heap.size + 1 + 1, 1, none⟩ (.slice y2 (joinS ws ws2).length e2)) ∧ World.ownsRow ((wr.setCell ⟨w.heap.size + 1 + 1, 0, none⟩ (.slice y1 (joinS rs rs2).length e1)).setCell ⟨w.heap.size + 1 + 1, 1, none⟩ (.slice y2 (joinS ws ws2).length e2)) w.heap.size 9 1 (.slice y1 (joinS rs rs2).length e1) (joinS rs rs2).length ((joinS rs rs2).flatMap encS) ∧ World.ownsRow ((wr.setCell ⟨w.heap.size + 1 + 1, 0, none⟩ (.slice y1 (joinS rs rs2).length e1)).setCell ⟨w.heap.size + 1 + 1, 1, none⟩ (.slice y2 (joinS ws ws2).length e2)) w.heap.size 9 1 (.slice y2 (joinS ws ws2).length e2) (joinS ws ws2).length ((joinS ws ws2).flatMap encS) from by
       rw [List.take_length] at n2;have m1 : (Value.slice y1 (joinS rs rs2).length e1).ownBlock ≠ some (w.heap.size + 1 + 1) := fun e => by have := (o1.lt _ e).1; omega
       have m2 : (Value.slice y2 (joinS ws ws2).length e2).ownBlock ≠ some (w.heap.size + 1 + 1) := fun e => by have := (o2.lt _ e).1; omega
       refine ⟨((HB0.out.trans (hB.mono HB0.out.size)).setCell (by show w.heap.size ≤ w.heap.size + 1 + 1; omega) _).setCell (by show w.heap.size ≤ w.heap.size + 1 + 1; omega) _, ?_, ?_⟩
       ·exact own_lowJ (own_setJ (own_setJ o1 m1) m1) (by omega)
       ·exact own_lowJ (own_setJ (own_setJ o2 m2) m2) (by omega))
      clear o1 o2 n1 n2 r1 q1 q2 xb XB hB HJ HJ2 hB' hlt R4 HB0;go_wp2_with fail;refine bodyPost_ret (v := .agg #[.slice y1 (joinS rs rs2).length e1, .slice y2 (joinS ws ws2).length e2]) (by simp [results, Tryz.results145, go_sem, z0, z1]) rfl ⟨y1, e1, y2, e2, rfl, HE.out⟩
end Go.Proofs.YtihghflppegnmaaGreatDoor
namespace Go.Proofs.YtihghflppegnmaaGreatDoor
open Go.ChangeShapes Go.WideShapes Go.ChangeAt Go.RowKit
def OffB (b : Nat) (u : Value) (old : Prop) : Prop := old ∨ u.ownBlock ≠ some b
structure BQ (w : World) (v1 v2 v3 : Value) (m : Mch) (bs : List (Nat × List Value)) (u1 u2 u3 : Value) (k : Mch) (W : World) : Prop where
 h : SH w w.heap.size (w.heap.size + 1) v1 v2 v3 m u1 u2 u3 k W
 r0 : MRd w v1 v2 v3 m
 bx : ∀ (i : Nat) (x : Nat × List Value), bs[i]? = some x → Box W x.1 x.2 ∧ w.heap.size < x.1 ∧ OffB x.1 u1 (u1 = v1 ∧ k.st = m.st) ∧ OffB x.1 u2 (u2 = v2 ∧ k.rs = m.rs) ∧ OffB x.1 u3 (u3 = v3 ∧ k.ws = m.ws)
 nd : ∀ (i j : Nat) (x y : Nat × List Value), bs[i]? = some x → bs[j]? = some y → x.1 = y.1 → i = j
section
variable {w W W' : World} {v1 v2 v3 u1 u2 u3 x1 x2 x3 : Value} {m k k2 : Mch} {bs : List (Nat × List Value)}
theorem BQ.lt (q : BQ w v1 v2 v3 m bs u1 u2 u3 k W) : w.heap.size < W.heap.size := q.h.x.1
theorem BQ.bel (q : BQ w v1 v2 v3 m bs u1 u2 u3 k W) : Below w.heap.size w W := q.h.bel
theorem BQ.mo (q : BQ w v1 v2 v3 m bs u1 u2 u3 k W) : MOut w.heap.size W v1 v2 v3 m u1 u2 u3 k := q.h.mo.base (Nat.le_succ _)
theorem BQ.rd (q : BQ w v1 v2 v3 m bs u1 u2 u3 k W) : MRd W u1 u2 u3 k := q.h.mo.rd q.r0 q.h.bel
theorem BQ.box (q : BQ w v1 v2 v3 m bs u1 u2 u3 k W) (i : Nat) (x : Nat × List Value) (hx : bs[i]? = some x) : Box W x.1 x.2 := (q.bx i x hx).1
theorem BQ.below (q : BQ w v1 v2 v3 m bs u1 u2 u3 k W) (hb : Below W.heap.size W W') : BQ w v1 v2 v3 m bs u1 u2 u3 k W' :=
 ⟨q.h.below hb, q.r0, fun i x hx => by obtain ⟨h1, h2⟩ := q.bx i x hx; exact ⟨h1.below hb, h2⟩, q.nd⟩
theorem BQ.one (r : MRd w v1 v2 v3 m) (T : TypeId) : BQ w v1 v2 v3 m [] v1 v2 v3 m (w.alloc (.cells #[v1, v2, v3] T)) :=
 ⟨⟨Box.new w [v1, v2, v3] T, (by repeat (first | exact Below.refl _ _ | refine Below.drew ?_ | refine below_drewN ?_ _ | refine Below.allocC ?_ _ | refine Below.setCell ?_ (by first | (simp; done) | (simp; omega)) _ | refine Below.chain ?_ (by assumption))), MOut.refl⟩, r, fun i x hx => by simp at hx, fun i j x y hx => by simp at hx⟩
theorem out_offB {α : Type} {B T K b : Nat} {enc : α → List Value} {v0 v : Value} {xs0 xs : List α} (h : Out B W T K enc v0 xs0 v xs) (e : W.heap.size = b) : OffB b v (v = v0 ∧ xs = xs0) := by
 rcases h with h | h
 ·exact .inl h
 ·refine .inr (fun e2 => ?_);have := (h.lt b e2).2;omega
theorem BQ.new (q : BQ w v1 v2 v3 m bs u1 u2 u3 k W) (n : Nat) (hn : W.heap.size = n) (vs : List Value) (T : TypeId) : BQ w v1 v2 v3 m ((n, vs) :: bs) u1 u2 u3 k (W.alloc (.cells vs.toArray T)) := by
 have hb : Below W.heap.size W (W.alloc (.cells vs.toArray T)) := (by repeat (first | exact Below.refl _ _ | refine Below.drew ?_ | refine below_drewN ?_ _ | refine Below.allocC ?_ _ | refine Below.setCell ?_ (by first | (simp; done) | (simp; omega)) _ | refine Below.chain ?_ (by assumption)));have hl := q.lt;refine ⟨q.h.below hb, q.r0, fun i x hx => ?_, fun i j x y hx hy e => ?_⟩
 ·cases i with
  | zero =>
   simp only [List.getElem?_cons_zero, Option.some.injEq] at hx;subst hx;refine ⟨by have h := Box.new W vs T; rw [hn] at h; exact h, by simp only; omega, out_offB q.h.mo.o1 hn, out_offB q.h.mo.o2 hn, out_offB q.h.mo.o3 hn⟩
  | succ i =>
   rw [List.getElem?_cons_succ] at hx;obtain ⟨h1, h2⟩ := q.bx i x hx;exact ⟨h1.below hb, h2⟩
 ·cases i with
  | zero =>
   simp only [List.getElem?_cons_zero, Option.some.injEq] at hx;subst hx;cases j with
   | zero => rfl
   | succ j =>
    rw [List.getElem?_cons_succ] at hy;have := (q.bx j y hy).1.1;simp only at e;omega
  | succ i =>
   rw [List.getElem?_cons_succ] at hx;cases j with
   | zero =>
    simp only [List.getElem?_cons_zero, Option.some.injEq] at hy;subst hy;have := (q.bx i x hx).1.1;simp only at e;omega
   | succ j =>
    rw [List.getElem?_cons_succ] at hy;rw [q.nd i j x y hx hy e]
theorem offB_num {α : Type} {T K b B : Nat} {enc : α → List Value} {v0 v u : Value} {xs0 xs ys : List α} (hlt : b < B) (h : OffB b v (v = v0 ∧ xs = xs0)) (h2 : Out B W T K enc v xs u ys) : OffB b u (u = v0 ∧ ys = xs0) := by
 rcases h2 with ⟨rfl, rfl⟩ | h2
 ·exact h
 ·refine .inr (fun e => ?_);have := (h2.lt b e).1;omega
theorem BQ.put (q : BQ w v1 v2 v3 m bs u1 u2 u3 k W) (hmo : MOut W.heap.size W' u1 u2 u3 k x1 x2 x3 k2) (hb : Below W.heap.size W W') : BQ w v1 v2 v3 m bs x1 x2 x3 k2 (((W'.setCell ⟨w.heap.size, 0, none⟩ x1).setCell ⟨w.heap.size, 1, none⟩ x2).setCell ⟨w.heap.size, 2, none⟩ x3) := by
 have hl := q.lt;refine ⟨(q.h.below hb).put3 (Nat.le_refl _) (by omega) hl (hmo), q.r0, fun i x hx => ?_, q.nd⟩;obtain ⟨h1, h2, f1, f2, f3⟩ := q.bx i x hx;exact ⟨box_far (box_far (box_far (h1.below hb) (by omega) 0 x1) (by omega) 1 x2) (by omega) 2 x3, h2, offB_num h1.1 f1 hmo.o1, offB_num h1.1 f2 hmo.o2, offB_num h1.1 f3 hmo.o3⟩
theorem out_setB {α : Type} {B T K b : Nat} {enc : α → List Value} {v0 v : Value} {xs0 xs : List α} (h : Out B W T K enc v0 xs0 v xs) (ho : OffB b v (v = v0 ∧ xs = xs0)) (i : Nat) (u : Value) : Out B (W.setCell ⟨b, i, none⟩ u) T K enc v0 xs0 v xs := by
 rcases ho with ho | ho
 ·exact .inl ho
 ·rcases h with h | h
  ·exact .inl h
  ·exact .inr (h.kept (grownBy_setCell W b i u) (.inr ho))
theorem BQ.set (q : BQ w v1 v2 v3 m bs u1 u2 u3 k W) (i : Nat) (x : Nat × List Value) (hx : bs[i]? = some x) (j : Nat) (v : Value) : BQ w v1 v2 v3 m (bs.set i (x.1, x.2.set j v)) u1 u2 u3 k (W.setCell ⟨x.1, j, none⟩ v) := by
 obtain ⟨h1, h2, f1, f2, f3⟩ := q.bx i x hx;have hl := q.lt;have hg := grownBy_setCell W x.1 j v;refine ⟨⟨box_far2 q.h.x (by omega) j v, q.h.bel.trans (below_of_grown hg (by omega) q.h.bel.size), ⟨out_setB q.h.mo.o1 f1 j v, out_setB q.h.mo.o2 f2 j v, out_setB q.h.mo.o3 f3 j v⟩⟩, q.r0, fun l y hy => ?_, fun a b y z hy hz e => ?_⟩
 ·rw [List.getElem?_set] at hy;split at hy
  ·split at hy
   ·cases hy;exact ⟨box_put h1 j v, h2, f1, f2, f3⟩
   ·cases hy
  ·rename_i hne;obtain ⟨g1, g2⟩ := q.bx l y hy;exact ⟨box_far2 g1 (fun e => hne (q.nd i l x y hx hy e.symm)) j v, g2⟩
 ·have key : ∀ (c : Nat) (y : Nat × List Value), (bs.set i (x.1, x.2.set j v))[c]? = some y → ∃ y', bs[c]? = some y' ∧ y'.1 = y.1 := fun c y hy => by
   rw [List.getElem?_set] at hy;split at hy
   ·rename_i hc;subst hc;split at hy
    ·cases hy; exact ⟨x, hx, rfl⟩
    ·cases hy
   ·exact ⟨y, hy, rfl⟩
  obtain ⟨y', e1, e2⟩ := key a y hy;obtain ⟨z', e3, e4⟩ := key b z hz;exact q.nd a b y' z' e1 e3 (by rw [e2, e4, e])
theorem BQ.set1 (q : BQ w v1 v2 v3 m bs u1 u2 u3 k W) (i b : Nat) (vs : List Value) (hx : bs[i]? = some (b, vs)) (j : Nat) (v : Value) : BQ w v1 v2 v3 m (bs.set i (b, vs.set j v)) u1 u2 u3 k (W.setCell ⟨b, j, none⟩ v) := q.set i (b, vs) hx j v
theorem BQ.set3 (q : BQ w v1 v2 v3 m bs u1 u2 u3 k W) (i b : Nat) (vs : List Value) (hx : bs[i]? = some (b, vs)) (x y z : Value) : BQ w v1 v2 v3 m (bs.set i (b, ((vs.set 0 x).set 1 y).set 2 z)) u1 u2 u3 k (((W.setCell ⟨b, 0, none⟩ x).setCell ⟨b, 1, none⟩ y).setCell ⟨b, 2, none⟩ z) := by
 have hi : i < bs.length := (List.getElem?_eq_some_iff.1 hx).1;have g : ∀ y : Nat × List Value, (bs.set i y)[i]? = some y := fun y => by rw [List.getElem?_set_self hi]
 have h1 := q.set i (b, vs) hx 0 x;have h2 := h1.set i (b, vs.set 0 x) (g _) 1 y;have h3 := h2.set i (b, (vs.set 0 x).set 1 y) (by rw [List.set_set]; exact g _) 2 z;rw [List.set_set, List.set_set] at h3;exact h3
theorem BQ.drew (q : BQ w v1 v2 v3 m bs u1 u2 u3 k W) : BQ w v1 v2 v3 m bs u1 u2 u3 k W.drew := q.below (by repeat (first | exact Below.refl _ _ | refine Below.drew ?_ | refine below_drewN ?_ _ | refine Below.allocC ?_ _ | refine Below.setCell ?_ (by first | (simp; done) | (simp; omega)) _ | refine Below.chain ?_ (by assumption)))
end
section
variable {w W W' : World} {v1 v2 v3 u1 u2 u3 x1 x2 x3 : Value} {m k k2 : Mch} {bs : List (Nat × List Value)}
theorem BQ.fx (q : BQ w v1 v2 v3 m bs u1 u2 u3 k W) : W.cell? ⟨w.heap.size, 0, none⟩ = some u1 ∧ W.cell? ⟨w.heap.size, 1, none⟩ = some u2 ∧ W.cell? ⟨w.heap.size, 2, none⟩ = some u3 ∧ W.frozen? ⟨w.heap.size, 0, none⟩ = false ∧ W.frozen? ⟨w.heap.size, 1, none⟩ = false ∧ W.frozen? ⟨w.heap.size, 2, none⟩ = false :=
 ⟨q.h.x.cell 0 _ rfl, q.h.x.cell 1 _ rfl, q.h.x.cell 2 _ rfl, q.h.x.free 0, q.h.x.free 1, q.h.x.free 2⟩
theorem BQ.b3 (q : BQ w v1 v2 v3 m bs u1 u2 u3 k W) (i b : Nat) (y1 y2 y3 : Value) (hx : bs[i]? = some (b, [y1, y2, y3])) : W.cell? ⟨b, 0, none⟩ = some y1 ∧ W.cell? ⟨b, 1, none⟩ = some y2 ∧ W.cell? ⟨b, 2, none⟩ = some y3 ∧ W.frozen? ⟨b, 0, none⟩ = false ∧ W.frozen? ⟨b, 1, none⟩ = false ∧ W.frozen? ⟨b, 2, none⟩ = false := by
 have h := q.box i _ hx;exact ⟨h.cell 0 _ rfl, h.cell 1 _ rfl, h.cell 2 _ rfl, h.free 0, h.free 1, h.free 2⟩
theorem BQ.onW (_q : BQ w v1 v2 v3 m bs u1 u2 u3 k W) {R : World → Prop} (f : ∀ W, BQ w v1 v2 v3 m bs u1 u2 u3 k W → R W) : ∀ W, BQ w v1 v2 v3 m bs u1 u2 u3 k W → R W := f
def BQs (w : World) (v1 v2 v3 : Value) (m : Mch) (bs : List (Nat × List Value)) (im bm : Nat) (u1 u2 u3 : Value) (k : Mch) (W : World) : Prop := ∃ ys : List Value, ys.length = 3 ∧ BQ w v1 v2 v3 m (bs.set im (bm, ys)) u1 u2 u3 k W
theorem BQ.dres {P : Program} {ops : Array Oper} {Q : Exit → Act → World → Prop} {id : Nat} {t : Act} (q : BQ w v1 v2 v3 m bs u1 u2 u3 k W) (im ib : Nat) (Y : List Nat) {bm bb : Nat} {z1 z2 z3 y1 y2 y3 : Value} (hm : bs[im]? = some (bm, [z1, z2, z3])) (hb : bs[ib]? = some (bb, [y1, y2, y3])) (hne : im ≠ ib)
 (h : BQs w v1 v2 v3 m bs im bm u1 u2 u3 k W.drew → (∀ W, BQs w v1 v2 v3 m bs im bm u1 u2 u3 k W → W.cell? ⟨w.heap.size, 0, none⟩ = some u1) → (∀ W, BQs w v1 v2 v3 m bs im bm u1 u2 u3 k W → W.cell? ⟨w.heap.size, 1, none⟩ = some u2) → (∀ W, BQs w v1 v2 v3 m bs im bm u1 u2 u3 k W → W.cell? ⟨w.heap.size, 2, none⟩ = some u3) →
  (∀ W, BQs w v1 v2 v3 m bs im bm u1 u2 u3 k W → W.cell? ⟨bb, 0, none⟩ = some y1) → (∀ W, BQs w v1 v2 v3 m bs im bm u1 u2 u3 k W → W.cell? ⟨bb, 1, none⟩ = some y2) → (∀ W, BQs w v1 v2 v3 m bs im bm u1 u2 u3 k W → W.cell? ⟨bb, 2, none⟩ = some y3) →
  wpAnyY P .any ops Q (BQs w v1 v2 v3 m bs im bm u1 u2 u3 k) Y ops.size (Array.replicate ops.size false) t W.drew) (hmx : P.follows .mixedOrders = true := by kernel_rfl) : (Code.region id ops true).wp P Q t W := by
 have hb' : ∀ ys, (bs.set im (bm, ys))[ib]? = some (bb, [y1, y2, y3]) := fun ys => by rw [List.getElem?_set_ne hne]; exact hb
 have hs : BQs w v1 v2 v3 m bs im bm u1 u2 u3 k W.drew := ⟨[z1, z2, z3], rfl, by
  have e : bs.set im (bm, [z1, z2, z3]) = bs := by
   apply List.ext_getElem?;intro j;rw [List.getElem?_set];split
   ·rename_i e;subst e;rw [hm];split
    ·rfl
    ·rename_i h2;exact absurd (List.getElem?_eq_some_iff.1 hm).1 h2
   ·rfl
  rw [e];exact q.drew⟩
 refine wp_region_Y _ Y hmx hs (fun hS => h hS ?_ ?_ ?_ ?_ ?_ ?_)
 ·rintro W ⟨ys, _, q⟩; exact q.h.x.cell 0 _ rfl
 ·rintro W ⟨ys, _, q⟩; exact q.h.x.cell 1 _ rfl
 ·rintro W ⟨ys, _, q⟩; exact q.h.x.cell 2 _ rfl
 ·rintro W ⟨ys, _, q⟩; exact (q.box ib _ (hb' ys)).cell 0 _ rfl
 ·rintro W ⟨ys, _, q⟩; exact (q.box ib _ (hb' ys)).cell 1 _ rfl
 ·rintro W ⟨ys, _, q⟩; exact (q.box ib _ (hb' ys)).cell 2 _ rfl
end
section
variable {w W W' : World} {v1 v2 v3 u1 u2 u3 x1 x2 x3 : Value} {m k k2 : Mch} {bs : List (Nat × List Value)}
theorem bx1 {P : Program} {f : FuncId} {args : Array Value} {R : Ending → World → Prop} (q : Hid (BQ w v1 v2 v3 m bs u1 u2 u3 k W)) (K : Calls P f args W (SRet1 u1 u2 u3 k k2 W))
 (h : ∀ (a1 : Option Addr) (c1 : Nat) (a2 : Option Addr) (c2 : Nat) (a3 : Option Addr) (c3 : Nat) w', Hid (BQ w v1 v2 v3 m bs u1 u2 u3 k w') → Hid (MOut W.heap.size w' u1 u2 u3 k (.slice a1 k2.st.length c1) (.slice a2 k2.rs.length c2) (.slice a3 k2.ws.length c3) k2) → Hid (BQ w v1 v2 v3 m bs (.slice a1 k2.st.length c1) (.slice a2 k2.rs.length c2) (.slice a3 k2.ws.length c3) k2 (((w'.setCell ⟨w.heap.size, 0, none⟩ (.slice a1 k2.st.length c1)).setCell ⟨w.heap.size, 1, none⟩ (.slice a2 k2.rs.length c2)).setCell ⟨w.heap.size, 2, none⟩ (.slice a3 k2.ws.length c3))) → w'.cell? ⟨w.heap.size, 0, none⟩ = some u1 ∧ w'.cell? ⟨w.heap.size, 1, none⟩ = some u2 ∧ w'.cell? ⟨w.heap.size, 2, none⟩ = some u3 ∧ w'.frozen? ⟨w.heap.size, 0, none⟩ = false ∧ w'.frozen? ⟨w.heap.size, 1, none⟩ = false ∧ w'.frozen? ⟨w.heap.size, 2, none⟩ = false → R (.returned (.agg #[.slice a1 k2.st.length c1, .slice a2 k2.rs.length c2, .slice a3 k2.ws.length c3])) w') : Calls P f args W R := K.mono (by
 rintro e w' ⟨y1, y2, y3, rfl, hmo, hb⟩;obtain ⟨a1, c1, a2, c2, a3, c3, rfl, rfl, rfl⟩ := hmo.openS q.out.rd hb;exact h _ _ _ _ _ _ _ (q.out.below hb) hmo (q.out.put hmo hb) (q.out.below hb).fx)
theorem bx2 {P : Program} {f : FuncId} {args : Array Value} {R : Ending → World → Prop} {r : Value} (q : Hid (BQ w v1 v2 v3 m bs u1 u2 u3 k W)) (K : Calls P f args W (SRet u1 u2 u3 k k2 r W))
 (h : ∀ (a1 : Option Addr) (c1 : Nat) (a2 : Option Addr) (c2 : Nat) (a3 : Option Addr) (c3 : Nat) w', Hid (BQ w v1 v2 v3 m bs u1 u2 u3 k w') → Hid (MOut W.heap.size w' u1 u2 u3 k (.slice a1 k2.st.length c1) (.slice a2 k2.rs.length c2) (.slice a3 k2.ws.length c3) k2) → Hid (BQ w v1 v2 v3 m bs (.slice a1 k2.st.length c1) (.slice a2 k2.rs.length c2) (.slice a3 k2.ws.length c3) k2 (((w'.setCell ⟨w.heap.size, 0, none⟩ (.slice a1 k2.st.length c1)).setCell ⟨w.heap.size, 1, none⟩ (.slice a2 k2.rs.length c2)).setCell ⟨w.heap.size, 2, none⟩ (.slice a3 k2.ws.length c3))) → w'.cell? ⟨w.heap.size, 0, none⟩ = some u1 ∧ w'.cell? ⟨w.heap.size, 1, none⟩ = some u2 ∧ w'.cell? ⟨w.heap.size, 2, none⟩ = some u3 ∧ w'.frozen? ⟨w.heap.size, 0, none⟩ = false ∧ w'.frozen? ⟨w.heap.size, 1, none⟩ = false ∧ w'.frozen? ⟨w.heap.size, 2, none⟩ = false → R (.returned (.tuple #[.agg #[.slice a1 k2.st.length c1, .slice a2 k2.rs.length c2, .slice a3 k2.ws.length c3], r])) w') : Calls P f args W R := K.mono (by
 rintro e w' ⟨y1, y2, y3, rfl, hmo, hb⟩;obtain ⟨a1, c1, a2, c2, a3, c3, rfl, rfl, rfl⟩ := hmo.openS q.out.rd hb;exact h _ _ _ _ _ _ _ (q.out.below hb) hmo (q.out.put hmo hb) (q.out.below hb).fx)
theorem bx3 {P : Program} {f : FuncId} {args : Array Value} {R : Ending → World → Prop} {r r2 : Value} (q : Hid (BQ w v1 v2 v3 m bs u1 u2 u3 k W)) (K : Calls P f args W (SRet3 u1 u2 u3 k k2 r r2 W))
 (h : ∀ (a1 : Option Addr) (c1 : Nat) (a2 : Option Addr) (c2 : Nat) (a3 : Option Addr) (c3 : Nat) w', Hid (BQ w v1 v2 v3 m bs u1 u2 u3 k w') → Hid (MOut W.heap.size w' u1 u2 u3 k (.slice a1 k2.st.length c1) (.slice a2 k2.rs.length c2) (.slice a3 k2.ws.length c3) k2) → Hid (BQ w v1 v2 v3 m bs (.slice a1 k2.st.length c1) (.slice a2 k2.rs.length c2) (.slice a3 k2.ws.length c3) k2 (((w'.setCell ⟨w.heap.size, 0, none⟩ (.slice a1 k2.st.length c1)).setCell ⟨w.heap.size, 1, none⟩ (.slice a2 k2.rs.length c2)).setCell ⟨w.heap.size, 2, none⟩ (.slice a3 k2.ws.length c3))) → w'.cell? ⟨w.heap.size, 0, none⟩ = some u1 ∧ w'.cell? ⟨w.heap.size, 1, none⟩ = some u2 ∧ w'.cell? ⟨w.heap.size, 2, none⟩ = some u3 ∧ w'.frozen? ⟨w.heap.size, 0, none⟩ = false ∧ w'.frozen? ⟨w.heap.size, 1, none⟩ = false ∧ w'.frozen? ⟨w.heap.size, 2, none⟩ = false → R (.returned (.tuple #[.agg #[.slice a1 k2.st.length c1, .slice a2 k2.rs.length c2, .slice a3 k2.ws.length c3], r, r2])) w') : Calls P f args W R := K.mono (by
 rintro e w' ⟨y1, y2, y3, rfl, hmo, hb⟩;obtain ⟨a1, c1, a2, c2, a3, c3, rfl, rfl, rfl⟩ := hmo.openS q.out.rd hb;exact h _ _ _ _ _ _ _ (q.out.below hb) hmo (q.out.put hmo hb) (q.out.below hb).fx)
theorem bt2 {P : Program} {fn : Func} {a : Act} {r : Value} (q : BQ w v1 v2 v3 m bs u1 u2 u3 k W) (hr : (results fn a.tmps).run P W = .ok (.tuple #[.agg #[u1, u2, u3], r]) W) (hd : a.defers = [] := by rfl) : bodyPost P fn (SRet v1 v2 v3 m k r w) .ret a W := ⟨hd, _, hr, _, _, _, rfl, q.mo, q.bel⟩
theorem BQ.b6 (q : BQ w v1 v2 v3 m bs u1 u2 u3 k W) (i b : Nat) (y1 y2 y3 y4 y5 y6 : Value) (hx : bs[i]? = some (b, [y1, y2, y3, y4, y5, y6])) : W.cell? ⟨b, 0, none⟩ = some y1 ∧ W.cell? ⟨b, 1, none⟩ = some y2 ∧ W.cell? ⟨b, 2, none⟩ = some y3 ∧ W.cell? ⟨b, 3, none⟩ = some y4 ∧ W.cell? ⟨b, 4, none⟩ = some y5 ∧ W.cell? ⟨b, 5, none⟩ = some y6 := by
 have h := q.box i _ hx;exact ⟨h.cell 0 _ rfl, h.cell 1 _ rfl, h.cell 2 _ rfl, h.cell 3 _ rfl, h.cell 4 _ rfl, h.cell 5 _ rfl⟩
theorem BQ.setm (q : BQ w v1 v2 v3 m bs u1 u2 u3 k W) (i b : Nat) (vs : List Value) (hx : bs[i]? = some (b, vs)) : BQ w v1 v2 v3 m (bs.set i (b, ((vs.set 0 u1).set 1 u2).set 2 u3)) u1 u2 u3 k (((W.setCell ⟨b, 0, none⟩ u1).setCell ⟨b, 1, none⟩ u2).setCell ⟨b, 2, none⟩ u3) := q.set3 i b vs hx u1 u2 u3
theorem BQ.copy (q : BQ w v1 v2 v3 m bs u1 u2 u3 k W) (i b : Nat) (vs : List Value) (hx : bs[i]? = some (b, vs)) (j b2 : Nat) (y1 y2 y3 : Value) (_ : bs[j]? = some (b2, [y1, y2, y3])) : BQ w v1 v2 v3 m (bs.set i (b, ((vs.set 0 y1).set 1 y2).set 2 y3)) u1 u2 u3 k (((W.setCell ⟨b, 0, none⟩ y1).setCell ⟨b, 1, none⟩ y2).setCell ⟨b, 2, none⟩ y3) := q.set3 i b vs hx y1 y2 y3
theorem BQ.out2 {B : Nat} (q : BQ w v1 v2 v3 m bs u1 u2 u3 k W) (hmo : MOut B W u1 u2 u3 k x1 x2 x3 k2) (i b : Nat) (vs : List Value) (hi : bs[i]? = some (b, vs)) (j b2 : Nat) (vs2 : List Value) (hj : bs[j]? = some (b2, vs2)) (hij : i ≠ j) (y1 y2 y3 z1 z2 z3 : Value) (hB : b < B := by (simp; omega)) (hB2 : b2 < B := by (simp; omega)) (hw : w.heap.size ≤ B := by (simp; omega)) :
 MOut w.heap.size ((((((W.setCell ⟨b, 0, none⟩ y1).setCell ⟨b, 1, none⟩ y2).setCell ⟨b, 2, none⟩ y3).setCell ⟨b2, 0, none⟩ z1).setCell ⟨b2, 1, none⟩ z2).setCell ⟨b2, 2, none⟩ z3) v1 v2 v3 m x1 x2 x3 k2 ∧ Below w.heap.size w ((((((W.setCell ⟨b, 0, none⟩ y1).setCell ⟨b, 1, none⟩ y2).setCell ⟨b, 2, none⟩ y3).setCell ⟨b2, 0, none⟩ z1).setCell ⟨b2, 1, none⟩ z2).setCell ⟨b2, 2, none⟩ z3) := by
 have q1 := q.set3 i b vs hi y1 y2 y3;have hj2 : (bs.set i (b, ((vs.set 0 y1).set 1 y2).set 2 y3))[j]? = some (b2, vs2) := by rw [List.getElem?_set_ne hij]; exact hj
 have q2 := q1.set3 j b2 vs2 hj2 z1 z2 z3;exact ⟨q2.mo.trans (((((((hmo.set hB 0 y1).set hB 1 y2).set hB 2 y3).set hB2 0 z1).set hB2 1 z2).set hB2 2 z3)) hw, q2.bel⟩
theorem bo2 {P : Program} {fn : Func} {t : Act} {r : Value} {B : Nat} (q : BQ w v1 v2 v3 m bs u1 u2 u3 k W) (hmo : MOut B W u1 u2 u3 k x1 x2 x3 k2) (i b : Nat) (vs : List Value) (hi : bs[i]? = some (b, vs)) (j b2 : Nat) (vs2 : List Value) (hj : bs[j]? = some (b2, vs2)) (hij : i ≠ j) {y1 y2 y3 z1 z2 z3 : Value}
 (hr : (results fn t.tmps).run P ((((((W.setCell ⟨b, 0, none⟩ y1).setCell ⟨b, 1, none⟩ y2).setCell ⟨b, 2, none⟩ y3).setCell ⟨b2, 0, none⟩ z1).setCell ⟨b2, 1, none⟩ z2).setCell ⟨b2, 2, none⟩ z3) = .ok (.tuple #[.agg #[x1, x2, x3], r]) ((((((W.setCell ⟨b, 0, none⟩ y1).setCell ⟨b, 1, none⟩ y2).setCell ⟨b, 2, none⟩ y3).setCell ⟨b2, 0, none⟩ z1).setCell ⟨b2, 1, none⟩ z2).setCell ⟨b2, 2, none⟩ z3))
 (hB : b < B) (hB2 : b2 < B) (hw : w.heap.size ≤ B) (hd : t.defers = [] := by rfl) : bodyPost P fn (SRet v1 v2 v3 m k2 r w) .ret t ((((((W.setCell ⟨b, 0, none⟩ y1).setCell ⟨b, 1, none⟩ y2).setCell ⟨b, 2, none⟩ y3).setCell ⟨b2, 0, none⟩ z1).setCell ⟨b2, 1, none⟩ z2).setCell ⟨b2, 2, none⟩ z3) :=
 have h := q.out2 hmo i b vs hi j b2 vs2 hj hij y1 y2 y3 z1 z2 z3 hB hB2 hw
 ⟨hd, _, hr, _, _, _, rfl, h.1, h.2⟩
end
theorem apart4 {a b : Nat} (h : a + 4 ≤ b) : (¬ b = a ∧ ¬ b = a + 1 ∧ ¬ b = a + 2 ∧ ¬ b = a + 3) ∧ (¬ a = b ∧ ¬ a + 1 = b ∧ ¬ a + 2 = b ∧ ¬ a + 3 = b) ∧ (a < b ∧ a + 1 < b ∧ a + 2 < b ∧ a + 3 < b) := by omega
end Go.Proofs.YtihghflppegnmaaGreatDoor
namespace Go.Proofs.YtihghflppegnmaaGreatDoor
open Go.ChangeShapes Go.WideShapes Go.ChangeAt Go.RowKit
attribute [local go_sem ↓] Go.wp_at_zero Go.wp_at_succ
set_option maxRecDepth 100000 in
set_option maxHeartbeats 16000000 in
theorem tLoad_c (v1 v2 v3 : Value) (m m' : Mch) (x : ByteArray) (y : Int) (id : Int) (page : Int) (w : World) (h : MRd w v1 v2 v3 m) (O0 : Hid (MOk 1700000000000 m)) (hn : I64 id) (HE : Hid ((loadP id page).run m = (m', (x, y)))) :
 Calls Tryz.prog 142 #[.agg #[v1, v2, v3], .int .i64 id, .int .i64 page] w (SRet3 v1 v2 v3 m m' (.string x) (.int .i64 y) w) := by
 obtain ⟨a1, q1, a2, q2, a3, q3, rfl, rfl, rfl, Q0⟩ := h.start;clear h;go_enter Tryz.func142, Tryz.ntmps142;by_cases c1 : inB page 0 3 = true
 ·have C1 := Lib.hid c1;clear c1;have hb := inB_iff.1 C1.out;have hpg : I64 page := ⟨by omega, by omega⟩;have KW := Lib.hid (fun W => l01In_c page 0 3 W);rw [C1.out] at KW;obtain ⟨m1, x1, HE1, O1⟩ := Pg.Cost.hop (lookP (pageK id page)) (lookP_cost _) O0;have sx1 := lookS_sz O0.out HE1.out;go_wp2_with (first | (go_at_call 70; refine (KW.out _).mono ?_; rintro e w' ⟨rfl, rfl⟩) | fail);refine Q0.out.region [9] fun hS cr0 cr1 cr2 => ?_;refine pL 0 hS ?_;refine pU 1 hS ?_;refine pU 3 hS ?_;refine pV 2 hS (l11Head_c id _ hn) fun _ hS => ?_;refine pV 4 hS (tPageKey_c id page _ hn hpg) fun _ hS => ?_;refine pM2 SQ.fr 5 hS (tLook_c _ _ _ _ _ _ (pageK id page) _ hS.rd (O0.out.mono (by omega)) HE1.out) fun _ _ _ _ _ _ w1 hS hmo F1 => ?_;refine pU 6 hS ?_;refine pU 7 hS ?_;refine pU 8 hS ?_;refine pS 9 ?_;refine pW 10 ?_;refine wpAnyY_done (by kernel_rfl) ?_ _;have Q1 := Lib.hid (hS.put hmo);clear hS hmo Q0 cr0 cr1 cr2;have EM := Lib.hid (msg_run HE1.out);by_cases c2 : Lib.hasPrefix x1.data.toList [45] = true
  ·have C2 := Lib.hid c2;clear c2;obtain ⟨h0, h45⟩ := hyphen_size C2.out;have t1 : ∀ t, binOp .neq t (.string x1) (.string ⟨#[]⟩) = pure (.bool true) := fun t => neq_empty (by omega);have t0 : (0 : Int) < (x1.size : Int) := by omega
   have t2 : ∀ t, binOp .eql t (.int .u8 (x1[0].toNat : Int)) (.int .u8 45) = pure (.bool true) := fun t => byte_eq (b := 45) h45;have t3 : (1 : Int) ≤ (x1.size : Int) := by omega
   go_wp2_with fail;refine nxV SQ.fr Q1 (tUnhexM_c x1 _ C2.out sx1) fun w2 Q2 F2 => ?_;clear F1 Q1;obtain ⟨rfl, rfl, rfl⟩ := leaf3 HE m1 (msgV x1) (0) (by unfold loadP; simp only [pgz, ↓reduceIte, bz, C1.out, HE1.out, EM.out, C2.out]);go_wp2_with fail;exact rt3 SQ.fr Q2 (by simp [results, Tryz.results142, go_sem, noB, *])
  ·have C2 := Lib.hid (Bool.eq_false_iff.2 c2);clear c2;have EV := Lib.hid (msg_no C2.out);by_cases c3 : 0 < x1.size
   ·have C3 := Lib.hid c3;clear c3;have h45 := no_hyphen C2.out C3.out;have h0 : 0 < x1.size := C3.out;have t1 : ∀ t, binOp .neq t (.string x1) (.string ⟨#[]⟩) = pure (.bool true) := fun t => neq_empty h0;have t0 : (0 : Int) < (x1.size : Int) := by omega
    have t2 : ∀ t, binOp .eql t (.int .u8 (x1[0].toNat : Int)) (.int .u8 45) = pure (.bool false) := fun t => byte_ne (b := 45) h45;obtain ⟨rfl, rfl, rfl⟩ := leaf3 HE m1 (noB) (0) (by unfold loadP; simp only [pgz, ↓reduceIte, bz, C1.out, HE1.out, EM.out, C2.out, EV.out, C3.out]);go_wp2_with fail;exact rt3 SQ.fr Q1 (by simp [results, Tryz.results142, go_sem, noB, *])
   ·have C3 := Lib.hid c3;clear c3;have t1 : ∀ t, binOp .neq t (.string x1) (.string ⟨#[]⟩) = pure (.bool false) := fun t => eq_empty (Nat.eq_zero_of_not_pos C3.out);obtain ⟨rfl, rfl, rfl⟩ := leaf3 HE m1 (noB) (0) (by unfold loadP; simp only [pgz, ↓reduceIte, bz, C1.out, HE1.out, EM.out, C2.out, EV.out, C3.out]);go_wp2_with fail;exact rt3 SQ.fr Q1 (by simp [results, Tryz.results142, go_sem, noB, *])
 ·have C1 := Lib.hid (Bool.eq_false_iff.2 c1);clear c1;have KW := Lib.hid (fun W => l01In_c page 0 3 W);rw [C1.out] at KW;obtain ⟨rfl, rfl, rfl⟩ := leaf3 HE m (noB) (4) (by unfold loadP; simp only [pgz, ↓reduceIte, bz, C1.out]);go_wp2_with (first | (go_at_call 70; refine (KW.out _).mono ?_; rintro e w' ⟨rfl, rfl⟩) | fail);exact rz3 (by simp [results, Tryz.results142, go_sem, noB, *]) (by repeat (first | exact Below.refl _ _ | refine Below.drew ?_ | refine below_drewN ?_ _ | refine Below.allocC ?_ _ | refine Below.setCell ?_ (by first | (simp; done) | (simp; omega)) _ | refine Below.chain ?_ (by assumption)))
set_option maxRecDepth 100000 in
set_option maxHeartbeats 16000000 in
theorem tStore_c (v1 v2 v3 : Value) (m m' : Mch) (x : Int) (id : Int) (page : Int) (text : ByteArray) (w : World) (h : MRd w v1 v2 v3 m) (O0 : Hid (MOk 1700000000000 m)) (hn : I64 id) (HE : Hid ((storeP id page text).run m = (m', x))) :
 Calls Tryz.prog 141 #[.agg #[v1, v2, v3], .int .i64 id, .int .i64 page, .string text] w (SRet v1 v2 v3 m m' (.int .i64 x) w) := by
 obtain ⟨a1, q1, a2, q2, a3, q3, rfl, rfl, rfl, Q0⟩ := h.start;clear h;go_enter Tryz.func141, Tryz.ntmps141;by_cases c1 : inB page 0 3 = true
 ·have C1 := Lib.hid c1;clear c1;have hb := inB_iff.1 C1.out;have hpg : I64 page := ⟨by omega, by omega⟩;have KW := Lib.hid (fun W => l01In_c page 0 3 W);rw [C1.out] at KW;by_cases c2 : text.size ≤ 20
  ·have p1 : ¬ (20 : Int) < (text.size : Int) := by omega
   have hst : text.size ≤ maxLen := by unfold maxLen; omega
   by_cases c3 : text.size = 0
   ·have C3 := Lib.hid c3;clear c3;have hne := fun t => eql_empty (t := t) C3.out;obtain ⟨m1, u1, HE1, O1⟩ := Pg.Cost.hop (layP (pageK id page) (noB)) (layP_cost _ _) O0;go_wp2_with (first | (go_at_call 70; refine (KW.out _).mono ?_; rintro e w' ⟨rfl, rfl⟩) | fail);refine Q0.out.region [6] fun hS cr0 cr1 cr2 => ?_;refine pL 0 hS ?_;refine pU 1 hS ?_;refine pU 3 hS ?_;refine pV 2 hS (l11Head_c id _ hn) fun _ hS => ?_;refine pV 4 hS (tPageKey_c id page _ hn hpg) fun _ hS => ?_;refine pM1 SQ.fr 5 hS (tLay_c _ _ _ _ _ _ (pageK id page) (noB) _ hS.rd (O0.out.mono (by omega)) (Nat.le_trans (pageK_size hn hpg) (by decide : (1000 : Nat) ≤ maxLen)) (by decide) HE1.out) fun _ _ _ _ _ _ w1 hS hmo F1 => ?_;refine pS 6 ?_;refine pW 7 ?_;refine wpAnyY_done (by kernel_rfl) ?_ _;have SE := Lib.hid (SQ.fr.finR hS hmo);clear hS hmo Q0 cr0 cr1 cr2;obtain ⟨rfl, rfl⟩ := leaf HE m1 (0) (by unfold storeP; simp only [pgz, ↓reduceIte, bz, Nat.zero_le, C1.out, (show text.size ≤ 20 from by first | exact c2 | omega | simpa using c2), C3.out, HE1.out]);go_wp2_with fail;exact re2 SE (by simp [results, Tryz.results141, go_sem, *])
   ·have C3 := Lib.hid c3;clear c3;have hne := fun t => eql_some (t := t) (Nat.pos_of_ne_zero C3.out);have hz := hexV_size text;have nh : ¬ 9223372036854775807 < 1 + (hexV text).size := by omega
    go_wp2_with (first | (go_at_call 70; refine (KW.out _).mono ?_; rintro e w' ⟨rfl, rfl⟩) | fail);refine nxV SQ.fr Q0 (specHex_c text _ hst) fun w1 Q1 F1 => ?_;clear Q0;obtain ⟨m1, u1, HE1, O1⟩ := Pg.Cost.hop (layP (pageK id page) (hyphenS (hexV text))) (layP_cost _ _) O0;go_wp2_with fail;refine Q1.out.region [8] fun hS cr0 cr1 cr2 => ?_;clear F1;refine pL 0 hS ?_;refine pU 1 hS ?_;refine pU 3 hS ?_;refine pU 5 hS ?_;refine pU 6 hS ?_;refine pV 2 hS (l11Head_c id _ hn) fun _ hS => ?_;refine pV 4 hS (tPageKey_c id page _ hn hpg) fun _ hS => ?_;refine pM1 SQ.fr 7 hS (tLay_c _ _ _ _ _ _ (pageK id page) (hyphenS (hexV text)) _ hS.rd (O0.out.mono (by omega)) (Nat.le_trans (pageK_size hn hpg) (by decide : (1000 : Nat) ≤ maxLen)) (by rw [hyphenS_size]; have := hexV_size text; unfold maxLen; omega) HE1.out) fun _ _ _ _ _ _ w2 hS hmo F2 => ?_;refine pS 8 ?_;refine pW 9 ?_;refine wpAnyY_done (by kernel_rfl) ?_ _;have SE := Lib.hid (SQ.fr.finR hS hmo);clear hS hmo Q1 cr0 cr1 cr2;obtain ⟨rfl, rfl⟩ := leaf HE m1 (0) (by unfold storeP; simp only [pgz, ↓reduceIte, bz, Nat.zero_le, C1.out, (show text.size ≤ 20 from by first | exact c2 | omega | simpa using c2), C3.out, HE1.out]);go_wp2_with fail;exact re2 SE (by simp [results, Tryz.results141, go_sem, *])
  ·have p1 : (20 : Int) < (text.size : Int) := by omega
   obtain ⟨rfl, rfl⟩ := leaf HE m (4) (by unfold storeP; simp only [pgz, ↓reduceIte, bz, Nat.zero_le, C1.out, (show ¬ (text.size ≤ 20) from by first | exact c2 | omega | simpa using c2)]);go_wp2_with (first | (go_at_call 70; refine (KW.out _).mono ?_; rintro e w' ⟨rfl, rfl⟩) | fail);exact rz2 (by simp [results, Tryz.results141, go_sem, *]) (by repeat (first | exact Below.refl _ _ | refine Below.drew ?_ | refine below_drewN ?_ _ | refine Below.allocC ?_ _ | refine Below.setCell ?_ (by first | (simp; done) | (simp; omega)) _ | refine Below.chain ?_ (by assumption)))
 ·have C1 := Lib.hid (Bool.eq_false_iff.2 c1);clear c1;have KW := Lib.hid (fun W => l01In_c page 0 3 W);rw [C1.out] at KW;obtain ⟨rfl, rfl⟩ := leaf HE m (4) (by unfold storeP; simp only [pgz, ↓reduceIte, bz, Nat.zero_le, C1.out]);go_wp2_with (first | (go_at_call 70; refine (KW.out _).mono ?_; rintro e w' ⟨rfl, rfl⟩) | fail);exact rz2 (by simp [results, Tryz.results141, go_sem, *]) (by repeat (first | exact Below.refl _ _ | refine Below.drew ?_ | refine below_drewN ?_ _ | refine Below.allocC ?_ _ | refine Below.setCell ?_ (by first | (simp; done) | (simp; omega)) _ | refine Below.chain ?_ (by assumption)))
set_option maxRecDepth 100000 in
set_option maxHeartbeats 16000000 in
theorem tPutOut_c (v1 v2 v3 : Value) (m m' : Mch) (x : Int) (text : ByteArray) (w : World) (h : MRd w v1 v2 v3 m) (O0 : Hid (MOk 1700000000000 m)) (HE : Hid ((putOutP text).run m = (m', x))) :
 Calls Tryz.prog 143 #[.agg #[v1, v2, v3], .string text] w (SRet v1 v2 v3 m m' (.int .i64 x) w) := by
 obtain ⟨a1, q1, a2, q2, a3, q3, rfl, rfl, rfl, Q0⟩ := h.start;clear h;go_enter Tryz.func143, Tryz.ntmps143;by_cases c1 : text.size = 0
 ·have C1 := Lib.hid c1;clear c1;have EI := Lib.hid (show inB ((0 : Nat) : Int) 1 20 = false from by decide);have hne := fun t => eql_empty (t := t) C1.out;obtain ⟨rfl, rfl⟩ := leaf HE m (4) (by unfold putOutP; simp only [pgz, ↓reduceIte, bz, C1.out, EI.out]);go_wp2;exact rz2 (by simp [results, Tryz.results143, go_sem, *]) (by repeat (first | exact Below.refl _ _ | refine Below.drew ?_ | refine below_drewN ?_ _ | refine Below.allocC ?_ _ | refine Below.setCell ?_ (by first | (simp; done) | (simp; omega)) _ | refine Below.chain ?_ (by assumption)))
 ·have C1 := Lib.hid c1;clear c1;have hne := fun t => eql_some (t := t) (Nat.pos_of_ne_zero C1.out);have hp := C1.out;by_cases c2 : 20 < text.size
  ·have EI := Lib.hid (show inB (text.size : Int) 1 20 = false from by unfold inB; simp; omega);have p1 : (20 : Int) < (text.size : Int) := by omega
   obtain ⟨rfl, rfl⟩ := leaf HE m (4) (by unfold putOutP; simp only [pgz, ↓reduceIte, bz, C1.out, (show 20 < text.size from by first | exact c2 | omega | simpa using c2), EI.out]);go_wp2;exact rz2 (by simp [results, Tryz.results143, go_sem, *]) (by repeat (first | exact Below.refl _ _ | refine Below.drew ?_ | refine below_drewN ?_ _ | refine Below.allocC ?_ _ | refine Below.setCell ?_ (by first | (simp; done) | (simp; omega)) _ | refine Below.chain ?_ (by assumption)))
  ·have EI := Lib.hid (show inB (text.size : Int) 1 20 = true from by unfold inB; simp; omega);have p1 : ¬ (20 : Int) < (text.size : Int) := by omega
   have hst : text.size ≤ maxLen := by unfold maxLen; omega
   obtain ⟨m1, x1, HE1, O1⟩ := Pg.Cost.hop (numP (dnK)) (numP_cost _) O0;have bx1 := numP_bounds HE1.out;go_wp2_with fail;refine nx2 SQ.fr Q0 (tNum_c _ _ _ _ _ _ (dnK) _ Q0.out.rd (O0.out.mono (by omega)) HE1.out) fun _ _ _ _ _ _ w1 Q1 F1 => ?_;clear Q0;by_cases c3 : 40 ≤ x1
   ·obtain ⟨rfl, rfl⟩ := leaf HE m1 (3) (by unfold putOutP; simp only [pgz, ↓reduceIte, bz, C1.out, (show ¬ (20 < text.size) from by first | exact c2 | omega | simpa using c2), EI.out, HE1.out, (show 40 ≤ x1 from by first | exact c3 | omega | simpa using c3)]);go_wp2;exact rt2 SQ.fr Q1 (by simp [results, Tryz.results143, go_sem, *])
   ·have hwx1 : IntKind.i64.wrap (x1 + 1) = x1 + 1 := by rw [IntKind.wrap_i64]; omega
    have hz := hexV_size text;have nh : ¬ 9223372036854775807 < 1 + (hexV text).size := by omega
    go_wp2_with fail;refine nxV SQ.fr Q1 (specHex_c text _ hst) fun w2 Q2 F2 => ?_;clear F1 Q1;obtain ⟨m2, u2, HE2, O2⟩ := Pg.Cost.hop (setP (dnK) (x1 + 1)) (setP_cost _ _) O1;go_wp2_with fail;refine nx1 SQ.fr Q2 (tSet_c _ _ _ _ _ _ (dnK) (x1 + 1) _ Q2.out.rd (O1.out.mono (by omega)) (Nat.le_trans ((by decide)) (by decide : (1000 : Nat) ≤ maxLen)) HE2.out) fun _ _ _ _ _ _ w3 Q3 F3 => ?_;clear F2 Q2;obtain ⟨m3, u3, HE3, O3⟩ := Pg.Cost.hop (layP (outK1 (x1 + 1)) (hyphenS (hexV text))) (layP_cost _ _) O2;go_wp2_with fail;refine Q3.out.region [7] fun hS cr0 cr1 cr2 => ?_;clear F3;refine pL 0 hS ?_;refine pU 1 hS ?_;refine pU 2 hS ?_;refine pU 4 hS ?_;refine pU 5 hS ?_;refine pV 3 hS (tOutKey_c (x1 + 1) _ (i64_succ bx1)) fun _ hS => ?_;refine pM1 SQ.fr 6 hS (tLay_c _ _ _ _ _ _ (outK1 (x1 + 1)) (hyphenS (hexV text)) _ hS.rd (O2.out.mono (by omega)) (Nat.le_trans (outK1_size (i64_succ bx1)) (by decide : (1000 : Nat) ≤ maxLen)) (by rw [hyphenS_size]; have := hexV_size text; unfold maxLen; omega) HE3.out) fun _ _ _ _ _ _ w4 hS hmo F4 => ?_;refine pS 7 ?_;refine pW 8 ?_;refine wpAnyY_done (by kernel_rfl) ?_ _;have SE := Lib.hid (SQ.fr.finR hS hmo);clear hS hmo Q3 cr0 cr1 cr2;obtain ⟨rfl, rfl⟩ := leaf HE m3 (0) (by unfold putOutP; simp only [pgz, ↓reduceIte, bz, C1.out, (show ¬ (20 < text.size) from by first | exact c2 | omega | simpa using c2), EI.out, HE1.out, (show ¬ (40 ≤ x1) from by first | exact c3 | omega | simpa using c3), HE2.out, HE3.out]);go_wp2;exact re2 SE (by simp [results, Tryz.results143, go_sem, *])
set_option maxRecDepth 100000 in
set_option maxHeartbeats 16000000 in
theorem tSizeFile_c (v1 v2 v3 : Value) (m m' : Mch) (x : Int) (id : Int) (w : World) (h : MRd w v1 v2 v3 m) (O0 : Hid (MOk 1800000000000 m)) (hn : I64 id) (HE : Hid ((numP (sizeK id)).run m = (m', x))) :
 Calls Tryz.prog 213 #[.agg #[v1, v2, v3], .int .i64 id] w (SRet v1 v2 v3 m m' (.int .i64 x) w) := by
 obtain ⟨a1, q1, a2, q2, a3, q3, rfl, rfl, rfl, Q0⟩ := h.start;clear h;go_enter Tryz.func213, Tryz.ntmps213;obtain ⟨m1, x1, HE1, O1⟩ := Pg.Cost.hop (numP (sizeK id)) (numP_cost _) O0;have bx1 := numP_bounds HE1.out;go_wp2_with fail;refine Q0.out.region [6] fun hS cr0 cr1 cr2 => ?_;refine pL 0 hS ?_;refine pU 1 hS ?_;refine pV 2 hS (tSizeKey_c id _ hn) fun _ hS => ?_;refine pM2 SQ.fr 3 hS (tNum_c _ _ _ _ _ _ (sizeK id) _ hS.rd (O0.out.mono (by omega)) HE1.out) fun _ _ _ _ _ _ w1 hS hmo F1 => ?_;refine pU 4 hS ?_;refine pU 5 hS ?_;refine pS 6 ?_;refine pW 7 ?_;refine wpAnyY_done (by kernel_rfl) ?_ _;have SE := Lib.hid (SQ.fr.finR hS hmo);clear hS hmo Q0 cr0 cr1 cr2;obtain ⟨rfl, rfl⟩ := leaf HE m1 (x1) (by simp only [pgz, ↓reduceIte, bz, HE1.out]);go_wp2;exact re2 SE (by simp [results, Tryz.results213, go_sem, *])
set_option maxRecDepth 100000 in
set_option maxHeartbeats 16000000 in
theorem tBlock_c (v1 v2 v3 : Value) (m m' : Mch) (x : ByteArray) (id : Int) (place : Int) (w : World) (h : MRd w v1 v2 v3 m) (O0 : Hid (MOk 1800000000000 m)) (hn : I64 id) (hp : I64 place) (HE : Hid ((blockP id place).run m = (m', x))) :
 Calls Tryz.prog 214 #[.agg #[v1, v2, v3], .int .i64 id, .int .i64 place] w (SRet v1 v2 v3 m m' (.string x) w) := by
 obtain ⟨a1, q1, a2, q2, a3, q3, rfl, rfl, rfl, Q0⟩ := h.start;clear h;go_enter Tryz.func214, Tryz.ntmps214;obtain ⟨m1, x1, HE1, O1⟩ := Pg.Cost.hop (lookP (blockK id place)) (lookP_cost _) O0;have sx1 := lookS_sz O0.out HE1.out;go_wp2_with fail;refine Q0.out.region [8] fun hS cr0 cr1 cr2 => ?_;refine pL 0 hS ?_;refine pU 1 hS ?_;refine pU 2 hS ?_;refine pV 3 hS (l07Block_c id place _ hn hp) fun _ hS => ?_;refine pM2 SQ.fr 4 hS (tLook_c _ _ _ _ _ _ (blockK id place) _ hS.rd (O0.out.mono (by omega)) HE1.out) fun _ _ _ _ _ _ w1 hS hmo F1 => ?_;refine pU 5 hS ?_;refine pU 6 hS ?_;refine pU 7 hS ?_;refine pS 8 ?_;refine pW 9 ?_;refine wpAnyY_done (by kernel_rfl) ?_ _;have Q1 := Lib.hid (hS.put hmo);clear hS hmo Q0 cr0 cr1 cr2;have EM := Lib.hid (block_run HE1.out);by_cases c1 : unhexOk x1 = true
 ·have C1 := Lib.hid c1;clear c1;have KU := Lib.hid (fun W => specUnhex_c x1 W (by unfold maxLen; omega));rw [C1.out] at KU;go_wp2_with fail;refine nxV SQ.fr Q1 (KU.out _) fun w2 Q2 F2 => ?_;clear F1 Q1;obtain ⟨rfl, rfl⟩ := leaf HE m1 (unhexV x1) (by simp only [pgz, ↓reduceIte, bz, HE1.out, EM.out, C1.out]);go_wp2;exact rt2 SQ.fr Q2 (by simp [results, Tryz.results214, go_sem, noB, *])
 ·have C1 := Lib.hid (Bool.eq_false_iff.2 c1);clear c1;have KU := Lib.hid (fun W => specUnhex_c x1 W (by unfold maxLen; omega));rw [C1.out] at KU;have EV := Lib.hid (unhex_none C1.out);go_wp2_with fail;refine nxV SQ.fr Q1 (KU.out _) fun w2 Q2 F2 => ?_;clear F1 Q1;obtain ⟨rfl, rfl⟩ := leaf HE m1 (noB) (by simp only [pgz, ↓reduceIte, bz, HE1.out, EM.out, C1.out, EV.out]);go_wp2;exact rt2 SQ.fr Q2 (by simp [results, Tryz.results214, go_sem, noB, *])
set_option maxRecDepth 100000 in
set_option maxHeartbeats 16000000 in
theorem tLayBlock_c (v1 v2 v3 : Value) (m m' : Mch) (x : Unit) (id : Int) (place : Int) (text : ByteArray) (w : World) (h : MRd w v1 v2 v3 m) (O0 : Hid (MOk 1800000000000 m)) (hn : I64 id) (hp : I64 place) (hst : text.size ≤ maxLen) (HE : Hid ((layP (blockK id place) (hexV text)).run m = (m', x))) :
 Calls Tryz.prog 215 #[.agg #[v1, v2, v3], .int .i64 id, .int .i64 place, .string text] w (SRet1 v1 v2 v3 m m' w) := by
 obtain ⟨a1, q1, a2, q2, a3, q3, rfl, rfl, rfl, Q0⟩ := h.start;clear h;go_enter Tryz.func215, Tryz.ntmps215;go_wp2_with fail;refine nxV SQ.fr Q0 (specHex_c text _ hst) fun w1 Q1 F1 => ?_;clear Q0;obtain ⟨m1, u1, HE1, O1⟩ := Pg.Cost.hop (layP (blockK id place) (hexV text)) (layP_cost _ _) O0;go_wp2_with fail;refine Q1.out.region [6] fun hS cr0 cr1 cr2 => ?_;clear F1;refine pL 0 hS ?_;refine pU 1 hS ?_;refine pU 2 hS ?_;refine pU 4 hS ?_;refine pV 3 hS (l07Block_c id place _ hn hp) fun _ hS => ?_;refine pM1 SQ.fr 5 hS (tLay_c _ _ _ _ _ _ (blockK id place) (hexV text) _ hS.rd (O0.out.mono (by omega)) (Nat.le_trans (blockK_size hn hp) (by decide : (1000 : Nat) ≤ maxLen)) (by have := hexV_size text; unfold maxLen; omega) HE1.out) fun _ _ _ _ _ _ w2 hS hmo F2 => ?_;refine pS 6 ?_;refine wpAnyY_done (by kernel_rfl) ?_ _;have SE := Lib.hid (SQ.fr.finR hS hmo);clear hS hmo Q1 cr0 cr1 cr2;obtain ⟨rfl, -⟩ := leaf HE m1 (u1) (by simp only [pgz, ↓reduceIte, bz, HE1.out]);go_wp2;exact re1 SE (by simp [results, Tryz.results215, go_sem, *])
end Go.Proofs.YtihghflppegnmaaGreatDoor
