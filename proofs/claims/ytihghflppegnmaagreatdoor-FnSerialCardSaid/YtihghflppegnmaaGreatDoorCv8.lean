/- Lemmas and contracts that the last text leans on, joined: PgSem, BootK, COut, SG, BQ, BF, SGB, KS5, SUnder, KS12. Conditions: as each theorem says. -/
import Derived.Test.YtihghflppegnmaaGreatDoorCv0
import Derived.Test.YtihghflppegnmaaGreatDoorCv7
set_option linter.unusedSimpArgs false
set_option linter.unusedVariables false
set_option maxHeartbeats 40000000
namespace Go.Proofs.YtihghflppegnmaaGreatDoor
open Go.Proofs.Tryz
section
open Go.RowKit
namespace Pg
variable {α β : Type}
def sem : Pg α → Sto → Sto × α
 | .ret a, s => (s, a)
 | .look k f, s => sem (f (getKeyS s k)) s
 | .lay k v f, s => sem f (putKeyS s k v)
 | .under p f, s => sem (f (keysU s p)) s
theorem run_sem (x : Pg α) : ∀ m : Mch, (x.run m).1.st = (x.sem m.st).1 ∧ (x.run m).2 = (x.sem m.st).2 := by
 induction x with
 | ret a => intro m; exact ⟨rfl, rfl⟩
 | look k f ih => intro m; exact ih _ _
 | lay k v f ih => intro m; exact ih _
 | under p f ih => intro m; exact ih _ _
theorem sem_bind' (x : Pg α) (g : α → Pg β) : ∀ s : Sto, (Pg.bind x g).sem s = (g (x.sem s).2).sem (x.sem s).1 := by
 induction x with
 | ret a => intro s; rfl
 | look k f ih => intro s; exact ih _ _
 | lay k v f ih => intro s; exact ih _
 | under p f ih => intro s; exact ih _ _
theorem sem_bind (x : Pg α) (g : α → Pg β) (s : Sto) : (x >>= g).sem s = (g (x.sem s).2).sem (x.sem s).1 := sem_bind' x g s
end Pg
theorem sem_num (k : ByteArray) (s : Sto) : (numP k).sem s = (s, numOfV (getKeyS s k)) := rfl
theorem sem_set (k : ByteArray) (n : Int) (s : Sto) : (setP k n).sem s = (putKeyS s k (numText n), ()) := rfl
theorem sem_bump (k : ByteArray) (s : Sto) : (bumpP k).sem s = if 999 < numOfV (getKeyS s k) + 1 then (s, 0) else (putKeyS s k (numText (numOfV (getKeyS s k) + 1)), numOfV (getKeyS s k) + 1) := by
 unfold bumpP;rw [Pg.sem_bind, sem_num];show Pg.sem (if 999 < numOfV (getKeyS s k) + 1 then _ else _) s = _;split
 ·rfl
 ·rfl
end
section
open Go.ChangeShapes Go.WideShapes Go.ChangeAt Go.RowKit
attribute [local go_sem ↓] Go.wp_at_zero Go.wp_at_succ
noncomputable def bootS : Sto := ((Pg.run (spawnP 0) ⟨[], [], []⟩).1).st
theorem mNone_ok (n : Nat) : MOk n ⟨[], [], []⟩ := ⟨Nat.zero_le _, Nat.zero_le _, Nat.zero_le _, fun x h => by cases h⟩
theorem reads_set {α : Type} {W : World} {a : Option Addr} {k : Nat} {enc : α → List Value} {xs : List α} (h : Reads W a k enc xs) {c : Nat} (hc : ∀ b o, a = some ⟨b, o, none⟩ → b ≠ c) (i : Nat) (v : Value) : Reads (W.setCell ⟨c, i, none⟩ v) a k enc xs := by
 have gs := grownBy_setCell W c i v;rcases h with h | ⟨b', o', h', hlt, h2⟩
 ·exact .inl h
 ·refine Reads.grow (.inr ⟨b', o', h', hlt, h2⟩) gs.size (fun b o e => ?_);rw [h'] at e;have hb : b' = b := by cases e; rfl
  exact gs.block b (hb ▸ hlt) (fun e2 => hc b o (by rw [h', e]) (Option.some.inj e2))
end
section
open Go.ChangeShapes Go.WideShapes Go.ChangeAt Go.RowKit
structure COuts (m : Mch) (base : Nat) (u1 u2 u3 : Value) (W : World) : Prop where
 o1 : W.ownsRow base 99 2 u1 m.st.length (m.st.flatMap encC)
 o2 : W.ownsRow base 9 1 u2 m.rs.length (m.rs.flatMap encS)
 o3 : W.ownsRow base 9 1 u3 m.ws.length (m.ws.flatMap encS)
structure Dist3 (u1 u2 u3 : Value) : Prop where
 d12 : ∀ k, u1.ownBlock = some k → u2.ownBlock ≠ some k
 d13 : ∀ k, u1.ownBlock = some k → u3.ownBlock ≠ some k
 d23 : ∀ k, u2.ownBlock = some k → u3.ownBlock ≠ some k
abbrev cTup (an : Ans) (u1 u2 u3 : Value) : Value := .tuple #[u1, .agg #[.int .i64 an.code, .int .i64 an.n, .string an.text], .agg #[u2, u3]]
def COut (m : Mch) (an : Ans) (base : Nat) (u : Value) (W : World) : Prop := ∃ u1 u2 u3, u = cTup an u1 u2 u3 ∧ COuts m base u1 u2 u3 W ∧ Dist3 u1 u2 u3
def COutS (m : Mch) (an : Ans) (base : Nat) (u : Value) (W : World) : Prop := ∃ u1 u2 u3, u = cTup an u1 u2 u3 ∧ COuts m base u1 u2 u3 W
def COwn (u : Value) (k : Nat) : Prop := ∃ u1 x u2 u3, u = .tuple #[u1, x, .agg #[u2, u3]] ∧ (u1.ownBlock = some k ∨ u2.ownBlock = some k ∨ u3.ownBlock = some k)
def CRetS (m : Mch) (an : Ans) (w : World) (e : Ending) (w' : World) : Prop := ∃ u1 u2 u3, e = .returned (cTup an u1 u2 u3) ∧ Below w.heap.size w w' ∧ COuts m w.heap.size u1 u2 u3 w'
theorem COuts.below {m : Mch} {base : Nat} {u1 u2 u3 : Value} {W W' : World} (h : COuts m base u1 u2 u3 W) (hb : Below W.heap.size W W') : COuts m base u1 u2 u3 W' :=
 ⟨ownsRow_below h.o1 hb, ownsRow_below h.o2 hb, ownsRow_below h.o3 hb⟩
theorem COuts.base {m : Mch} {base base' : Nat} {u1 u2 u3 : Value} {W : World} (h : COuts m base u1 u2 u3 W) (hb : base' ≤ base) : COuts m base' u1 u2 u3 W :=
 ⟨ownsRow_base h.o1 hb, ownsRow_base h.o2 hb, ownsRow_base h.o3 hb⟩
theorem COutS.below {m : Mch} {an : Ans} {base : Nat} {u : Value} {W W' : World} (h : COutS m an base u W) (hb : Below W.heap.size W W') : COutS m an base u W' := by
 obtain ⟨u1, u2, u3, e, h⟩ := h;exact ⟨u1, u2, u3, e, h.below hb⟩
theorem COuts.set {m : Mch} {base : Nat} {u1 u2 u3 : Value} {W : World} (h : COuts m base u1 u2 u3 W) {b : Nat} (f : u1.ownBlock ≠ some b ∧ u2.ownBlock ≠ some b ∧ u3.ownBlock ≠ some b) (i : Nat) (v : Value) : COuts m base u1 u2 u3 (W.setCell ⟨b, i, none⟩ v) := by
 have gs := grownBy_setCell W b i v;exact ⟨h.o1.kept gs (.inr f.1), h.o2.kept gs (.inr f.2.1), h.o3.kept gs (.inr f.2.2)⟩
theorem cown_of {m : Mch} {an : Ans} {base : Nat} {u1 u2 u3 : Value} {W : World} (h : COuts m base u1 u2 u3 W) : ∀ k, COwn (cTup an u1 u2 u3) k → base ≤ k ∧ k < W.heap.size := by
 rintro k ⟨v1, x, v2, v3, e, hk⟩;cases e;rcases hk with e | e | e
 ·exact h.o1.lt k e
 ·exact h.o2.lt k e
 ·exact h.o3.lt k e
theorem crets_out {m : Mch} {an : Ans} {w w' : World} {e : Ending} {base : Nat} (h : CRetS m an w e w') (hb : base ≤ w.heap.size) : ∃ u, e = .returned u ∧ Below w.heap.size w w' ∧ COutS m an base u w' ∧ ∀ k, COwn u k → w.heap.size ≤ k ∧ k < w'.heap.size := by
 obtain ⟨u1, u2, u3, rfl, hbl, h⟩ := h;exact ⟨_, rfl, hbl, ⟨u1, u2, u3, rfl, h.base hb⟩, cown_of h⟩
theorem reads_owns2 {α : Type} {w : World} {base e K : Nat} {a : Option Addr} {n cap : Nat} {enc : α → List Value} {xs : List α} (hk : ∀ x, (enc x).length = K) (h : w.ownsRow base e K (.slice a n cap) xs.length (xs.flatMap enc)) : Reads w a K enc xs := by
 obtain ⟨a', c', hv, hr⟩ := reads_of_owns hk h;cases hv;exact hr
theorem COuts.vals {m : Mch} {base : Nat} {u1 u2 u3 : Value} {W : World} (h : COuts m base u1 u2 u3 W) : ∃ a1 c1 a2 c2 a3 c3, u1 = .slice a1 m.st.length c1 ∧ u2 = .slice a2 m.rs.length c2 ∧ u3 = .slice a3 m.ws.length c3 := by
 obtain ⟨a1, c1, h1, _⟩ := reads_of_owns encC_len h.o1;obtain ⟨a2, c2, h2, _⟩ := reads_of_owns encS_len h.o2;obtain ⟨a3, c3, h3, _⟩ := reads_of_owns encS_len h.o3;exact ⟨a1, c1, a2, c2, a3, c3, h1, h2, h3⟩
theorem COutS.outs {m : Mch} {an : Ans} {base : Nat} {u1 u2 u3 x : Value} {W : World} (h : COutS m an base (.tuple #[u1, x, .agg #[u2, u3]]) W) : COuts m base u1 u2 u3 W := by
 obtain ⟨v1, v2, v3, e, h⟩ := h;cases e;exact h
abbrev Off3 (u1 u2 u3 : Value) (b : Nat) : Prop := u1.ownBlock ≠ some b ∧ u2.ownBlock ≠ some b ∧ u3.ownBlock ≠ some b
theorem not_cown {u1 u2 u3 x : Value} {b : Nat} (h : ¬ COwn (.tuple #[u1, x, .agg #[u2, u3]]) b) : Off3 u1 u2 u3 b :=
 ⟨fun e => h ⟨_, _, _, _, rfl, .inl e⟩, fun e => h ⟨_, _, _, _, rfl, .inr (.inl e)⟩, fun e => h ⟨_, _, _, _, rfl, .inr (.inr e)⟩⟩
theorem below_set {B : Nat} {w W : World} (h : Below B w W) {b : Nat} (hb : B ≤ b) (i : Nat) (v : Value) : Below B w (W.setCell ⟨b, i, none⟩ v) := Below.setCell (p := ⟨b, i, none⟩) h hb v
structure TwoB (m : Mch) (base : Nat) (u1 u2 u3 : Value) (b1 b2 : Nat) (xs ys : List Value) (w0 W : World) : Prop where
 x1 : Box W b1 xs
 x2 : Box W b2 ys
 outs : COuts m base u1 u2 u3 W
 bel : Below base w0 W
 g1 : base ≤ b1
 g2 : base ≤ b2
 ne : b1 ≠ b2
 f1 : Off3 u1 u2 u3 b1
 f2 : Off3 u1 u2 u3 b2
section
variable {m : Mch} {base : Nat} {u1 u2 u3 : Value} {b1 b2 : Nat} {xs ys : List Value} {w0 W W' : World}
theorem TwoB.set1 (h : TwoB m base u1 u2 u3 b1 b2 xs ys w0 W) (i : Nat) (v : Value) : TwoB m base u1 u2 u3 b1 b2 (xs.set i v) ys w0 (W.setCell ⟨b1, i, none⟩ v) :=
 ⟨box_put h.x1 i v, box_far2 h.x2 h.ne.symm i v, h.outs.set h.f1 i v, below_set h.bel h.g1 i v, h.g1, h.g2, h.ne, h.f1, h.f2⟩
theorem TwoB.set2 (h : TwoB m base u1 u2 u3 b1 b2 xs ys w0 W) (i : Nat) (v : Value) : TwoB m base u1 u2 u3 b1 b2 xs (ys.set i v) w0 (W.setCell ⟨b2, i, none⟩ v) :=
 ⟨box_far2 h.x1 h.ne i v, box_put h.x2 i v, h.outs.set h.f2 i v, below_set h.bel h.g2 i v, h.g1, h.g2, h.ne, h.f1, h.f2⟩
end
theorem pgz : (∀ {α β : Type} (x : Pg α) (g : α → Pg β) (m : Mch), (x >>= g).run m = (g (x.run m).2).run (x.run m).1) ∧ (∀ {α : Type} (a : α) (m : Mch), (pure a : Pg α).run m = (m, a)) ∧ (∀ {α : Type} (a : α) (m : Mch), (Pg.ret a).run m = (m, a)) ∧
 (decide True = true) ∧ (decide False = false) ∧ (∀ {α : Type} (a b : α), (a ≠ b) = ¬ (a = b)) ∧ (∀ {α : Type} (a : α), (a = a) = True) :=
 ⟨Pg.run_bind, Pg.run_pure, Pg.run_ret, by decide, by decide, fun _ _ => rfl, fun _ => eq_self _⟩
theorem leaf {α : Type} {x : Pg α} {m m' : Mch} {r : α} (H : Hid (x.run m = (m', r))) (a : Mch) (b : α) (h : x.run m = (a, b)) : a = m' ∧ b = r := Prod.mk.inj (h.symm.trans H.out)
theorem leaf3 {α β : Type} {x : Pg (α × β)} {m m' : Mch} {r : α} {s : β} (H : Hid (x.run m = (m', (r, s)))) (a : Mch) (b : α) (c : β) (h : x.run m = (a, (b, c))) : a = m' ∧ b = r ∧ c = s := by
 obtain ⟨h1, h2⟩ := Prod.mk.inj (h.symm.trans H.out);exact ⟨h1, Prod.mk.inj h2⟩
section
variable {P : Program} {ops : Array Oper} {Q : Exit → Act → World → Prop} {md : Region.Mode} {S : World → Prop} {Y : List Nat} {fuel : Nat} {listed : Array Bool} {a a' : Act} {w w' : World} {v : Value} {oi : Oper} (i : Nat)
theorem pL (hS : S w) (h : wpAnyY P md ops Q S Y fuel (listed.setIfInBounds i true) a' w) (hi : ops[i]? = some oi := by rfl)
 (hy : ∀ w, S w → (execOp a.eval oi).run P w = .ok (.value v) w := by intro w h; go_simp <;> with_reducible rfl)
 (ha : a.put oi.dst v = a' := by ((try simp only [Act.put, sqz]) <;> with_reducible rfl))
 (hs : Region.noSelect ops = true := by kernel_rfl) (hf : Region.free md ops listed i = true := by kernel_rfl) (hr : (Region.ready md ops listed).contains i = true := by kernel_rfl)
 (hst : (!(Y.contains i) && Y.all (fun y => waits md ops 12 y i) && closedB md ops listed && !(anyOf Y listed)) = true := by kernel_rfl)
 (hQ : ∀ c a v w, Q (.panic c) (a.put oi.dst v) w → Q (.panic c) a w := by exact fun _ _ _ _ h => h) (hg : Region.wanted oi (yielded ops a.tmps) = true := by rfl) : wpAnyY P md ops Q S Y (fuel + 1) listed a w := by
 subst ha;exact gL i hS ⟨v, hy, h⟩ hi hs hf hr hst hQ hg
theorem pU (hS : S w) (h : wpAnyY P md ops Q S Y fuel (listed.setIfInBounds i true) a' w) (hi : ops[i]? = some oi := by rfl)
 (hy : ∀ w, (execOp a.eval oi).run P w = .ok (.value v) w := by intro w; go_simp <;> with_reducible rfl)
 (ha : a.put oi.dst v = a' := by ((try simp only [Act.put, sqz]) <;> with_reducible rfl))
 (hs : Region.noSelect ops = true := by kernel_rfl) (hf : Region.free md ops listed i = true := by kernel_rfl) (hr : (Region.ready md ops listed).contains i = true := by kernel_rfl)
 (hst : Y.contains i = false := by kernel_rfl)
 (hQ : ∀ c a v w, Q (.panic c) (a.put oi.dst v) w → Q (.panic c) a w := by exact fun _ _ _ _ h => h) (hg : Region.wanted oi (yielded ops a.tmps) = true := by rfl) : wpAnyY P md ops Q S Y (fuel + 1) listed a w := by
 subst ha;exact gU1 i hS ⟨v, hy, h⟩ hi hs hf hr hst hQ hg
theorem pW (h : wpAnyY P md ops Q S Y fuel (listed.setIfInBounds i true) a' w) (hS : anyOf Y listed = true := by kernel_rfl) (hi : ops[i]? = some oi := by rfl)
 (hy : ∀ w, (execOp a.eval oi).run P w = .ok (.value v) w := by intro w; go_simp <;> with_reducible rfl)
 (ha : a.put oi.dst v = a' := by ((try simp only [Act.put, sqz]) <;> with_reducible rfl))
 (hs : Region.noSelect ops = true := by kernel_rfl) (hf : Region.free md ops listed i = true := by kernel_rfl) (hr : (Region.ready md ops listed).contains i = true := by kernel_rfl)
 (hst : Y.contains i = false := by kernel_rfl)
 (hQ : ∀ c a v w, Q (.panic c) (a.put oi.dst v) w → Q (.panic c) a w := by exact fun _ _ _ _ h => h) (hg : Region.wanted oi (yielded ops a.tmps) = true := by rfl) : wpAnyY P md ops Q S Y (fuel + 1) listed a w := by
 subst ha;exact gU0 i ⟨v, hy, h⟩ hS hi hs hf hr hst hQ hg
theorem pS (h : wpAnyY P md ops Q S Y fuel (listed.setIfInBounds i true) a' w') (hi : ops[i]? = some oi := by rfl)
 (hw : ∀ K : Act → World → Prop, Hid (K a' w') → if Region.wanted oi (yielded ops a.tmps) = true then Oper.wp P oi a w K Q else K (a.put oi.dst undef) w := by intro K hK; go_simp; (try simp only [Act.put, sqz]); with_reducible exact hK.out)
 (hc : anyOf Y (listed.setIfInBounds i true) = true := by kernel_rfl) (hr : Region.ready md ops listed = [i] := by kernel_rfl) : wpAnyY P md ops Q S Y (fuel + 1) listed a w :=
 wpO i (fun K hK => hw K (hK.out _ _ (.inl hc) h)) hr hi
theorem pT (hS : S w') (h : wpAnyY P md ops Q S Y fuel (listed.setIfInBounds i true) a' w') (hi : ops[i]? = some oi := by rfl)
 (hw : ∀ K : Act → World → Prop, Hid (K a' w') → if Region.wanted oi (yielded ops a.tmps) = true then Oper.wp P oi a w K Q else K (a.put oi.dst undef) w := by intro K hK; go_simp; (try simp only [Act.put, sqz]); with_reducible exact hK.out)
 (hr : Region.ready md ops listed = [i] := by kernel_rfl) : wpAnyY P md ops Q S Y (fuel + 1) listed a w :=
 wpO i (fun K hK => hw K (hK.out _ _ (.inr hS) h)) hr hi
theorem pV {f : FuncId} {args : Array Value} (hS : S w) (KV : Calls P f args w (fun e w' => e = .returned v ∧ Below w.heap.size w w')) (h : ∀ w', S w' → wpAnyY P md ops Q S Y fuel (listed.setIfInBounds i true) a' w') (hi : ops[i]? = some oi := by rfl)
 (hw : ∀ K : Act → World → Prop, Hid (∀ w', Below w.heap.size w w' → K a' w') → Hid (Calls P f args w (fun e w' => e = .returned v ∧ Below w.heap.size w w')) → if Region.wanted oi (yielded ops a.tmps) = true then Oper.wp P oi a w K Q else K (a.put oi.dst undef) w := by
  intro K hK hC; go_simp; refine hC.out.mono ?_; rintro e w' ⟨rfl, hb⟩; go_wp2_with fail; (try simp only [Act.put, sqz]); with_reducible exact hK.out _ hb)
 (hb : S w → ∀ w', Below w.heap.size w w' → S w' := by intro h w' hb; exact h.below hb) (hr : Region.ready md ops listed = [i] := by kernel_rfl) : wpAnyY P md ops Q S Y (fuel + 1) listed a w :=
 wpO i (fun K hK => hw K (fun w' h2 => hK.out _ _ (.inr (hb hS w' h2)) (h w' (hb hS w' h2))) KV) hr hi
end
structure Fr (w : World) (v1 v2 v3 : Value) (m : Mch) (S : Value → Value → Value → Mch → World → Prop) (FX : Value → Value → Value → World → Prop) : Prop where
 below : ∀ {u1 u2 u3 : Value} {k : Mch} {W W' : World}, S u1 u2 u3 k W → Below W.heap.size W W' → S u1 u2 u3 k W'
 put : ∀ {u1 u2 u3 x1 x2 x3 : Value} {k k2 : Mch} {W : World}, S u1 u2 u3 k W → MOut (w.heap.size + 2) W u1 u2 u3 k x1 x2 x3 k2 → S x1 x2 x3 k2 (((W.setCell ⟨w.heap.size, 0, none⟩ x1).setCell ⟨w.heap.size, 1, none⟩ x2).setCell ⟨w.heap.size, 2, none⟩ x3)
 rd : ∀ {u1 u2 u3 : Value} {k : Mch} {W : World}, S u1 u2 u3 k W → MRd W u1 u2 u3 k
 sz : ∀ {u1 u2 u3 : Value} {k : Mch} {W : World}, S u1 u2 u3 k W → w.heap.size + 2 ≤ W.heap.size
 fx : ∀ {u1 u2 u3 : Value} {k : Mch} {W : World}, S u1 u2 u3 k W → FX u1 u2 u3 W
 sh : ∀ {u1 u2 u3 : Value} {k : Mch} {W : World}, S u1 u2 u3 k W → SH w w.heap.size (w.heap.size + 2) v1 v2 v3 m u1 u2 u3 k W
section
variable {w : World} {v1 v2 v3 : Value} {m : Mch} {S : Value → Value → Value → Mch → World → Prop} {FX : Value → Value → Value → World → Prop} (fr : Fr w v1 v2 v3 m S FX)
variable {P : Program} {f : FuncId} {args : Array Value} {R : Ending → World → Prop} {W : World} {u1 u2 u3 : Value} {k k2 : Mch} (q : Hid (S u1 u2 u3 k W))
include fr q
theorem Fr.open_ {B : Nat} {y1 y2 y3 : Value} {w' : World} (hmo : MOut B w' u1 u2 u3 k y1 y2 y3 k2) (hb : Below W.heap.size W w') : ∃ a1 c1 a2 c2 a3 c3, y1 = .slice a1 k2.st.length c1 ∧ y2 = .slice a2 k2.rs.length c2 ∧ y3 = .slice a3 k2.ws.length c3 := hmo.openS (fr.rd q.out) hb
omit q in
theorem Fr.finR {x1 x2 x3 : Value} (q : S u1 u2 u3 k W) (h2 : MOut (w.heap.size + 2) W u1 u2 u3 k x1 x2 x3 k2) : MOut w.heap.size (((W.setCell ⟨(w.heap.size + 1), 0, none⟩ x1).setCell ⟨(w.heap.size + 1), 1, none⟩ x2).setCell ⟨(w.heap.size + 1), 2, none⟩ x3) v1 v2 v3 m x1 x2 x3 k2 ∧ Below w.heap.size w (((W.setCell ⟨(w.heap.size + 1), 0, none⟩ x1).setCell ⟨(w.heap.size + 1), 1, none⟩ x2).setCell ⟨(w.heap.size + 1), 2, none⟩ x3) := by
 have h := ((((fr.sh q).mo.trans h2 (Nat.le_refl _)).set (b := w.heap.size + 1) (by omega) 0 x1).set (b := w.heap.size + 1) (by omega) 1 x2).set (b := w.heap.size + 1) (by omega) 2 x3;have h2 := (((fr.sh q).set (b := w.heap.size + 1) (by omega) (by omega) (by omega) 0 x1).set (b := w.heap.size + 1) (by omega) (by omega) (by omega) 1 x2).set (b := w.heap.size + 1) (by omega) (by omega) (by omega) 2 x3;exact ⟨h.base (by omega), h2.bel⟩
omit q in
theorem Fr.fin (q : S u1 u2 u3 k W) : MOut w.heap.size (((W.setCell ⟨(w.heap.size + 1), 0, none⟩ u1).setCell ⟨(w.heap.size + 1), 1, none⟩ u2).setCell ⟨(w.heap.size + 1), 2, none⟩ u3) v1 v2 v3 m u1 u2 u3 k ∧ Below w.heap.size w (((W.setCell ⟨(w.heap.size + 1), 0, none⟩ u1).setCell ⟨(w.heap.size + 1), 1, none⟩ u2).setCell ⟨(w.heap.size + 1), 2, none⟩ u3) := fr.finR q MOut.refl
theorem nx1 (K : Calls P f args W (SRet1 u1 u2 u3 k k2 W))
 (h : ∀ (a1 : Option Addr) (c1 : Nat) (a2 : Option Addr) (c2 : Nat) (a3 : Option Addr) (c3 : Nat) w', Hid (S (.slice a1 k2.st.length c1) (.slice a2 k2.rs.length c2) (.slice a3 k2.ws.length c3) k2 (((w'.setCell ⟨w.heap.size, 0, none⟩ (.slice a1 k2.st.length c1)).setCell ⟨w.heap.size, 1, none⟩ (.slice a2 k2.rs.length c2)).setCell ⟨w.heap.size, 2, none⟩ (.slice a3 k2.ws.length c3))) → FX u1 u2 u3 w' → R (.returned (.agg #[.slice a1 k2.st.length c1, .slice a2 k2.rs.length c2, .slice a3 k2.ws.length c3])) w') : Calls P f args W R := K.mono (by
 rintro e w' ⟨y1, y2, y3, rfl, hmo, hb⟩;obtain ⟨a1, c1, a2, c2, a3, c3, rfl, rfl, rfl⟩ := fr.open_ q hmo hb;exact h _ _ _ _ _ _ _ (fr.put (fr.below q.out hb) (hmo.base (fr.sz q.out))) (fr.fx (fr.below q.out hb)))
theorem nx2 {r : Value} (K : Calls P f args W (SRet u1 u2 u3 k k2 r W))
 (h : ∀ (a1 : Option Addr) (c1 : Nat) (a2 : Option Addr) (c2 : Nat) (a3 : Option Addr) (c3 : Nat) w', Hid (S (.slice a1 k2.st.length c1) (.slice a2 k2.rs.length c2) (.slice a3 k2.ws.length c3) k2 (((w'.setCell ⟨w.heap.size, 0, none⟩ (.slice a1 k2.st.length c1)).setCell ⟨w.heap.size, 1, none⟩ (.slice a2 k2.rs.length c2)).setCell ⟨w.heap.size, 2, none⟩ (.slice a3 k2.ws.length c3))) → FX u1 u2 u3 w' → R (.returned (.tuple #[.agg #[.slice a1 k2.st.length c1, .slice a2 k2.rs.length c2, .slice a3 k2.ws.length c3], r])) w') : Calls P f args W R := K.mono (by
 rintro e w' ⟨y1, y2, y3, rfl, hmo, hb⟩;obtain ⟨a1, c1, a2, c2, a3, c3, rfl, rfl, rfl⟩ := fr.open_ q hmo hb;exact h _ _ _ _ _ _ _ (fr.put (fr.below q.out hb) (hmo.base (fr.sz q.out))) (fr.fx (fr.below q.out hb)))
theorem ne1 (K : Calls P f args W (SRet1 u1 u2 u3 k k2 W))
 (h : ∀ (a1 : Option Addr) (c1 : Nat) (a2 : Option Addr) (c2 : Nat) (a3 : Option Addr) (c3 : Nat) w', Hid (MOut w.heap.size (((w'.setCell ⟨(w.heap.size + 1), 0, none⟩ (.slice a1 k2.st.length c1)).setCell ⟨(w.heap.size + 1), 1, none⟩ (.slice a2 k2.rs.length c2)).setCell ⟨(w.heap.size + 1), 2, none⟩ (.slice a3 k2.ws.length c3)) v1 v2 v3 m (.slice a1 k2.st.length c1) (.slice a2 k2.rs.length c2) (.slice a3 k2.ws.length c3) k2 ∧ Below w.heap.size w (((w'.setCell ⟨(w.heap.size + 1), 0, none⟩ (.slice a1 k2.st.length c1)).setCell ⟨(w.heap.size + 1), 1, none⟩ (.slice a2 k2.rs.length c2)).setCell ⟨(w.heap.size + 1), 2, none⟩ (.slice a3 k2.ws.length c3))) → FX u1 u2 u3 w' → R (.returned (.agg #[.slice a1 k2.st.length c1, .slice a2 k2.rs.length c2, .slice a3 k2.ws.length c3])) w') : Calls P f args W R := K.mono (by
 rintro e w' ⟨y1, y2, y3, rfl, hmo, hb⟩;obtain ⟨a1, c1, a2, c2, a3, c3, rfl, rfl, rfl⟩ := fr.open_ q hmo hb;exact h _ _ _ _ _ _ _ (fr.finR (fr.below q.out hb) (hmo.base (fr.sz q.out))) (fr.fx (fr.below q.out hb)))
theorem ne2 {r : Value} (K : Calls P f args W (SRet u1 u2 u3 k k2 r W))
 (h : ∀ (a1 : Option Addr) (c1 : Nat) (a2 : Option Addr) (c2 : Nat) (a3 : Option Addr) (c3 : Nat) w', Hid (MOut w.heap.size (((w'.setCell ⟨(w.heap.size + 1), 0, none⟩ (.slice a1 k2.st.length c1)).setCell ⟨(w.heap.size + 1), 1, none⟩ (.slice a2 k2.rs.length c2)).setCell ⟨(w.heap.size + 1), 2, none⟩ (.slice a3 k2.ws.length c3)) v1 v2 v3 m (.slice a1 k2.st.length c1) (.slice a2 k2.rs.length c2) (.slice a3 k2.ws.length c3) k2 ∧ Below w.heap.size w (((w'.setCell ⟨(w.heap.size + 1), 0, none⟩ (.slice a1 k2.st.length c1)).setCell ⟨(w.heap.size + 1), 1, none⟩ (.slice a2 k2.rs.length c2)).setCell ⟨(w.heap.size + 1), 2, none⟩ (.slice a3 k2.ws.length c3))) → FX u1 u2 u3 w' → R (.returned (.tuple #[.agg #[.slice a1 k2.st.length c1, .slice a2 k2.rs.length c2, .slice a3 k2.ws.length c3], r])) w') : Calls P f args W R := K.mono (by
 rintro e w' ⟨y1, y2, y3, rfl, hmo, hb⟩;obtain ⟨a1, c1, a2, c2, a3, c3, rfl, rfl, rfl⟩ := fr.open_ q hmo hb;exact h _ _ _ _ _ _ _ (fr.finR (fr.below q.out hb) (hmo.base (fr.sz q.out))) (fr.fx (fr.below q.out hb)))
theorem nxV {v : Value} (K : Calls P f args W (fun e w' => e = .returned v ∧ Below W.heap.size W w')) (h : ∀ w', Hid (S u1 u2 u3 k w') → FX u1 u2 u3 w' → R (.returned v) w') : Calls P f args W R := K.mono (by
 rintro e w' ⟨rfl, hb⟩;exact h _ (fr.below q.out hb) (fr.fx (fr.below q.out hb)))
theorem rt1 {fn : Func} {a : Act} (hr : (results fn a.tmps).run P (((W.setCell ⟨(w.heap.size + 1), 0, none⟩ u1).setCell ⟨(w.heap.size + 1), 1, none⟩ u2).setCell ⟨(w.heap.size + 1), 2, none⟩ u3) = .ok (.agg #[u1, u2, u3]) (((W.setCell ⟨(w.heap.size + 1), 0, none⟩ u1).setCell ⟨(w.heap.size + 1), 1, none⟩ u2).setCell ⟨(w.heap.size + 1), 2, none⟩ u3)) (hd : a.defers = [] := by rfl) : bodyPost P fn (SRet1 v1 v2 v3 m k w) .ret a (((W.setCell ⟨(w.heap.size + 1), 0, none⟩ u1).setCell ⟨(w.heap.size + 1), 1, none⟩ u2).setCell ⟨(w.heap.size + 1), 2, none⟩ u3) :=
 ⟨hd, _, hr, _, _, _, rfl, (fr.fin q.out).1, (fr.fin q.out).2⟩
omit fr q in
theorem re1 {fn : Func} {a : Act} (h : Hid (MOut w.heap.size W v1 v2 v3 m u1 u2 u3 k ∧ Below w.heap.size w W)) (hr : (results fn a.tmps).run P W = .ok (.agg #[u1, u2, u3]) W) (hd : a.defers = [] := by rfl) : bodyPost P fn (SRet1 v1 v2 v3 m k w) .ret a W :=
 ⟨hd, _, hr, _, _, _, rfl, h.out.1, h.out.2⟩
theorem rt2 {fn : Func} {a : Act} {r : Value} (hr : (results fn a.tmps).run P (((W.setCell ⟨(w.heap.size + 1), 0, none⟩ u1).setCell ⟨(w.heap.size + 1), 1, none⟩ u2).setCell ⟨(w.heap.size + 1), 2, none⟩ u3) = .ok (.tuple #[.agg #[u1, u2, u3], r]) (((W.setCell ⟨(w.heap.size + 1), 0, none⟩ u1).setCell ⟨(w.heap.size + 1), 1, none⟩ u2).setCell ⟨(w.heap.size + 1), 2, none⟩ u3)) (hd : a.defers = [] := by rfl) : bodyPost P fn (SRet v1 v2 v3 m k r w) .ret a (((W.setCell ⟨(w.heap.size + 1), 0, none⟩ u1).setCell ⟨(w.heap.size + 1), 1, none⟩ u2).setCell ⟨(w.heap.size + 1), 2, none⟩ u3) :=
 ⟨hd, _, hr, _, _, _, rfl, (fr.fin q.out).1, (fr.fin q.out).2⟩
omit fr q in
theorem re2 {fn : Func} {a : Act} {r : Value} (h : Hid (MOut w.heap.size W v1 v2 v3 m u1 u2 u3 k ∧ Below w.heap.size w W)) (hr : (results fn a.tmps).run P W = .ok (.tuple #[.agg #[u1, u2, u3], r]) W) (hd : a.defers = [] := by rfl) : bodyPost P fn (SRet v1 v2 v3 m k r w) .ret a W :=
 ⟨hd, _, hr, _, _, _, rfl, h.out.1, h.out.2⟩
omit fr q in
theorem rz2 {fn : Func} {a : Act} {r : Value} (hr : (results fn a.tmps).run P W = .ok (.tuple #[.agg #[v1, v2, v3], r]) W) (hb : Below w.heap.size w W) (hd : a.defers = [] := by rfl) : bodyPost P fn (SRet v1 v2 v3 m m r w) .ret a W :=
 ⟨hd, _, hr, _, _, _, rfl, MOut.refl, hb⟩
theorem rt3 {fn : Func} {a : Act} {r r2 : Value} (hr : (results fn a.tmps).run P (((W.setCell ⟨(w.heap.size + 1), 0, none⟩ u1).setCell ⟨(w.heap.size + 1), 1, none⟩ u2).setCell ⟨(w.heap.size + 1), 2, none⟩ u3) = .ok (.tuple #[.agg #[u1, u2, u3], r, r2]) (((W.setCell ⟨(w.heap.size + 1), 0, none⟩ u1).setCell ⟨(w.heap.size + 1), 1, none⟩ u2).setCell ⟨(w.heap.size + 1), 2, none⟩ u3)) (hd : a.defers = [] := by rfl) : bodyPost P fn (SRet3 v1 v2 v3 m k r r2 w) .ret a (((W.setCell ⟨(w.heap.size + 1), 0, none⟩ u1).setCell ⟨(w.heap.size + 1), 1, none⟩ u2).setCell ⟨(w.heap.size + 1), 2, none⟩ u3) :=
 ⟨hd, _, hr, _, _, _, rfl, (fr.fin q.out).1, (fr.fin q.out).2⟩
omit fr q in
theorem re3 {fn : Func} {a : Act} {r r2 : Value} (h : Hid (MOut w.heap.size W v1 v2 v3 m u1 u2 u3 k ∧ Below w.heap.size w W)) (hr : (results fn a.tmps).run P W = .ok (.tuple #[.agg #[u1, u2, u3], r, r2]) W) (hd : a.defers = [] := by rfl) : bodyPost P fn (SRet3 v1 v2 v3 m k r r2 w) .ret a W :=
 ⟨hd, _, hr, _, _, _, rfl, h.out.1, h.out.2⟩
omit fr q in
theorem rz3 {fn : Func} {a : Act} {r r2 : Value} (hr : (results fn a.tmps).run P W = .ok (.tuple #[.agg #[v1, v2, v3], r, r2]) W) (hb : Below w.heap.size w W) (hd : a.defers = [] := by rfl) : bodyPost P fn (SRet3 v1 v2 v3 m m r r2 w) .ret a W :=
 ⟨hd, _, hr, _, _, _, rfl, MOut.refl, hb⟩
end
def SK1 (u1 u2 u3 : Value) (k k2 : Mch) (W : World) (e : Ending) (w' : World) : Prop := ∃ a1 c1 a2 c2 a3 c3, e = .returned (.agg #[.slice a1 k2.st.length c1, .slice a2 k2.rs.length c2, .slice a3 k2.ws.length c3]) ∧ Below W.heap.size W w' ∧ MOut W.heap.size w' u1 u2 u3 k (.slice a1 k2.st.length c1) (.slice a2 k2.rs.length c2) (.slice a3 k2.ws.length c3) k2
theorem SK1.of {w : World} {v1 v2 v3 : Value} {m : Mch} {S : Value → Value → Value → Mch → World → Prop} {FX : Value → Value → Value → World → Prop} (fr : Fr w v1 v2 v3 m S FX) {P : Program} {f : FuncId} {args : Array Value} {W : World} {u1 u2 u3 : Value} {k k2 : Mch} (q : S u1 u2 u3 k W) (KM : Calls P f args W (SRet1 u1 u2 u3 k k2 W)) : Calls P f args W (SK1 u1 u2 u3 k k2 W) := KM.mono (by
 rintro e w' ⟨y1, y2, y3, rfl, hmo, hb⟩;obtain ⟨a1, c1, a2, c2, a3, c3, rfl, rfl, rfl⟩ := hmo.openS (fr.rd q) hb;exact ⟨a1, c1, a2, c2, a3, c3, rfl, hb, hmo⟩)
def SK2 (u1 u2 u3 : Value) (k k2 : Mch) (r : Value) (W : World) (e : Ending) (w' : World) : Prop := ∃ a1 c1 a2 c2 a3 c3, e = .returned (.tuple #[.agg #[.slice a1 k2.st.length c1, .slice a2 k2.rs.length c2, .slice a3 k2.ws.length c3], r]) ∧ Below W.heap.size W w' ∧ MOut W.heap.size w' u1 u2 u3 k (.slice a1 k2.st.length c1) (.slice a2 k2.rs.length c2) (.slice a3 k2.ws.length c3) k2
theorem SK2.of {w : World} {v1 v2 v3 : Value} {m : Mch} {S : Value → Value → Value → Mch → World → Prop} {FX : Value → Value → Value → World → Prop} (fr : Fr w v1 v2 v3 m S FX) {P : Program} {f : FuncId} {args : Array Value} {W : World} {u1 u2 u3 : Value} {k k2 : Mch} (q : S u1 u2 u3 k W) {r : Value} (KM : Calls P f args W (SRet u1 u2 u3 k k2 r W)) : Calls P f args W (SK2 u1 u2 u3 k k2 r W) := KM.mono (by
 rintro e w' ⟨y1, y2, y3, rfl, hmo, hb⟩;obtain ⟨a1, c1, a2, c2, a3, c3, rfl, rfl, rfl⟩ := hmo.openS (fr.rd q) hb;exact ⟨a1, c1, a2, c2, a3, c3, rfl, hb, hmo⟩)
section
variable {w : World} {v1 v2 v3 : Value} {m : Mch} {S : Value → Value → Value → Mch → World → Prop} {FX : Value → Value → Value → World → Prop} (fr : Fr w v1 v2 v3 m S FX) {P : Program} {f : FuncId} {args : Array Value} {W : World} {u1 u2 u3 : Value} {k k2 : Mch}
include fr
theorem pM1 {ops : Array Oper} {Q : Exit → Act → World → Prop} {md : Region.Mode} {Y : List Nat} {fuel : Nat} {listed : Array Bool} {a : Act} {a' : Option Addr → Nat → Option Addr → Nat → Option Addr → Nat → Act} {oi : Oper} (i : Nat) (q : S u1 u2 u3 k W) (KM : Calls P f args W (SRet1 u1 u2 u3 k k2 W))
 (h : ∀ (a1 : Option Addr) (c1 : Nat) (a2 : Option Addr) (c2 : Nat) (a3 : Option Addr) (c3 : Nat) w', S u1 u2 u3 k w' → MOut (w.heap.size + 2) w' u1 u2 u3 k (.slice a1 k2.st.length c1) (.slice a2 k2.rs.length c2) (.slice a3 k2.ws.length c3) k2 → FX u1 u2 u3 w' → wpAnyY P md ops Q (S u1 u2 u3 k) Y fuel (listed.setIfInBounds i true) (a' a1 c1 a2 c2 a3 c3) w') (hi : ops[i]? = some oi := by rfl)
 (hw : ∀ K : Act → World → Prop, Hid (∀ (a1 : Option Addr) (c1 : Nat) (a2 : Option Addr) (c2 : Nat) (a3 : Option Addr) (c3 : Nat) w', Below W.heap.size W w' → MOut W.heap.size w' u1 u2 u3 k (.slice a1 k2.st.length c1) (.slice a2 k2.rs.length c2) (.slice a3 k2.ws.length c3) k2 → K (a' a1 c1 a2 c2 a3 c3) w') → Hid (Calls P f args W (SK1 u1 u2 u3 k k2 W)) → if Region.wanted oi (yielded ops a.tmps) = true then Oper.wp P oi a W K Q else K (a.put oi.dst undef) W := by
  intro K hK hC; go_simp; refine hC.out.mono ?_; rintro e w' ⟨a1, c1, a2, c2, a3, c3, rfl, hb, hm⟩; go_wp2_with fail; (try simp only [Act.put, sqz]); with_reducible exact hK.out _ _ _ _ _ _ _ hb hm)
 (hr : Region.ready md ops listed = [i] := by kernel_rfl) : wpAnyY P md ops Q (S u1 u2 u3 k) Y (fuel + 1) listed a W :=
 wpO i (fun K hK => hw K (fun a1 c1 a2 c2 a3 c3 w' hb hm => hK.out _ _ (.inr (fr.below q hb)) (h a1 c1 a2 c2 a3 c3 w' (fr.below q hb) (hm.base (fr.sz q)) (fr.fx (fr.below q hb)))) (SK1.of fr q KM)) hr hi
theorem pM2 {ops : Array Oper} {Q : Exit → Act → World → Prop} {md : Region.Mode} {Y : List Nat} {fuel : Nat} {listed : Array Bool} {a : Act} {a' : Option Addr → Nat → Option Addr → Nat → Option Addr → Nat → Act} {oi : Oper} (i : Nat) (q : S u1 u2 u3 k W) {r : Value} (KM : Calls P f args W (SRet u1 u2 u3 k k2 r W))
 (h : ∀ (a1 : Option Addr) (c1 : Nat) (a2 : Option Addr) (c2 : Nat) (a3 : Option Addr) (c3 : Nat) w', S u1 u2 u3 k w' → MOut (w.heap.size + 2) w' u1 u2 u3 k (.slice a1 k2.st.length c1) (.slice a2 k2.rs.length c2) (.slice a3 k2.ws.length c3) k2 → FX u1 u2 u3 w' → wpAnyY P md ops Q (S u1 u2 u3 k) Y fuel (listed.setIfInBounds i true) (a' a1 c1 a2 c2 a3 c3) w') (hi : ops[i]? = some oi := by rfl)
 (hw : ∀ K : Act → World → Prop, Hid (∀ (a1 : Option Addr) (c1 : Nat) (a2 : Option Addr) (c2 : Nat) (a3 : Option Addr) (c3 : Nat) w', Below W.heap.size W w' → MOut W.heap.size w' u1 u2 u3 k (.slice a1 k2.st.length c1) (.slice a2 k2.rs.length c2) (.slice a3 k2.ws.length c3) k2 → K (a' a1 c1 a2 c2 a3 c3) w') → Hid (Calls P f args W (SK2 u1 u2 u3 k k2 r W)) → if Region.wanted oi (yielded ops a.tmps) = true then Oper.wp P oi a W K Q else K (a.put oi.dst undef) W := by
  intro K hK hC; go_simp; refine hC.out.mono ?_; rintro e w' ⟨a1, c1, a2, c2, a3, c3, rfl, hb, hm⟩; go_wp2_with fail; (try simp only [Act.put, sqz]); with_reducible exact hK.out _ _ _ _ _ _ _ hb hm)
 (hr : Region.ready md ops listed = [i] := by kernel_rfl) : wpAnyY P md ops Q (S u1 u2 u3 k) Y (fuel + 1) listed a W :=
 wpO i (fun K hK => hw K (fun a1 c1 a2 c2 a3 c3 w' hb hm => hK.out _ _ (.inr (fr.below q hb)) (h a1 c1 a2 c2 a3 c3 w' (fr.below q hb) (hm.base (fr.sz q)) (fr.fx (fr.below q hb)))) (SK2.of fr q KM)) hr hi
end
theorem SQ.fr {w : World} {v1 v2 v3 : Value} {m : Mch} : Fr w v1 v2 v3 m (SQ w v1 v2 v3 m) (fun u1 u2 u3 W => W.cell? ⟨w.heap.size, 0, none⟩ = some u1 ∧ W.cell? ⟨w.heap.size, 1, none⟩ = some u2 ∧ W.cell? ⟨w.heap.size, 2, none⟩ = some u3 ∧ W.frozen? ⟨w.heap.size, 0, none⟩ = false ∧ W.frozen? ⟨w.heap.size, 1, none⟩ = false ∧ W.frozen? ⟨w.heap.size, 2, none⟩ = false ∧ W.cell? ⟨w.heap.size + 1, 0, none⟩ = some (.slice none 0 0) ∧ W.cell? ⟨w.heap.size + 1, 1, none⟩ = some (.slice none 0 0) ∧ W.cell? ⟨w.heap.size + 1, 2, none⟩ = some (.slice none 0 0) ∧ W.frozen? ⟨w.heap.size + 1, 0, none⟩ = false ∧ W.frozen? ⟨w.heap.size + 1, 1, none⟩ = false ∧ W.frozen? ⟨w.heap.size + 1, 2, none⟩ = false) where
 below h := h.below
 put h := h.put
 rd h := h.rd
 sz h := h.sz
 fx h := h.fx
 sh h := h.h
theorem MRd.start {w : World} {v1 v2 v3 : Value} {m : Mch} (h : MRd w v1 v2 v3 m) : ∃ a1 c1 a2 c2 a3 c3, v1 = .slice a1 m.st.length c1 ∧ v2 = .slice a2 m.rs.length c2 ∧ v3 = .slice a3 m.ws.length c3 ∧
 Hid (SQ w v1 v2 v3 m v1 v2 v3 m ((w.alloc (.cells #[v1, v2, v3] 87)).alloc (.cells #[.slice none 0 0, .slice none 0 0, .slice none 0 0] 87))) := by
 obtain ⟨a1, q1, a2, q2, a3, q3, rfl, rfl, rfl⟩ := h.open3;exact ⟨a1, q1, a2, q2, a3, q3, rfl, rfl, rfl, SQ.first h⟩
def OffB (b : Nat) (u : Value) (old : Prop) : Prop := old ∨ u.ownBlock ≠ some b
structure BQ (w : World) (v1 v2 v3 : Value) (m : Mch) (bs : List (Nat × List Value)) (u1 u2 u3 : Value) (k : Mch) (W : World) : Prop where
 h : SH w w.heap.size (w.heap.size + 1) v1 v2 v3 m u1 u2 u3 k W
 r0 : MRd w v1 v2 v3 m
 bx : ∀ (i : Nat) (x : Nat × List Value), bs[i]? = some x → Box W x.1 x.2 ∧ w.heap.size < x.1 ∧ OffB x.1 u1 (u1 = v1 ∧ k.st = m.st) ∧ OffB x.1 u2 (u2 = v2 ∧ k.rs = m.rs) ∧ OffB x.1 u3 (u3 = v3 ∧ k.ws = m.ws)
 nd : ∀ (i j : Nat) (x y : Nat × List Value), bs[i]? = some x → bs[j]? = some y → x.1 = y.1 → i = j
section
variable {w W W' : World} {v1 v2 v3 u1 u2 u3 x1 x2 x3 : Value} {m k k2 : Mch} {bs : List (Nat × List Value)}
theorem BQ.lt (q : BQ w v1 v2 v3 m bs u1 u2 u3 k W) : w.heap.size < W.heap.size := q.h.x.1
theorem BQ.bel (q : BQ w v1 v2 v3 m bs u1 u2 u3 k W) : Below w.heap.size w W := q.h.bel
theorem BQ.mo (q : BQ w v1 v2 v3 m bs u1 u2 u3 k W) : MOut w.heap.size W v1 v2 v3 m u1 u2 u3 k := q.h.mo.base (Nat.le_succ _)
theorem BQ.rd (q : BQ w v1 v2 v3 m bs u1 u2 u3 k W) : MRd W u1 u2 u3 k := q.h.mo.rd q.r0 q.h.bel
theorem BQ.box (q : BQ w v1 v2 v3 m bs u1 u2 u3 k W) (i : Nat) (x : Nat × List Value) (hx : bs[i]? = some x) : Box W x.1 x.2 := (q.bx i x hx).1
theorem BQ.below (q : BQ w v1 v2 v3 m bs u1 u2 u3 k W) (hb : Below W.heap.size W W') : BQ w v1 v2 v3 m bs u1 u2 u3 k W' :=
 ⟨q.h.below hb, q.r0, fun i x hx => by obtain ⟨h1, h2⟩ := q.bx i x hx; exact ⟨h1.below hb, h2⟩, q.nd⟩
theorem BQ.one (r : MRd w v1 v2 v3 m) (T : TypeId) : BQ w v1 v2 v3 m [] v1 v2 v3 m (w.alloc (.cells #[v1, v2, v3] T)) :=
 ⟨⟨Box.new w [v1, v2, v3] T, bel9, MOut.refl⟩, r, fun i x hx => by simp at hx, fun i j x y hx => by simp at hx⟩
theorem out_offB {α : Type} {B T K b : Nat} {enc : α → List Value} {v0 v : Value} {xs0 xs : List α} (h : Out B W T K enc v0 xs0 v xs) (e : W.heap.size = b) : OffB b v (v = v0 ∧ xs = xs0) := by
 rcases h with h | h
 ·exact .inl h
 ·refine .inr (fun e2 => ?_);have := (h.lt b e2).2;omega
theorem BQ.new (q : BQ w v1 v2 v3 m bs u1 u2 u3 k W) (n : Nat) (hn : W.heap.size = n) (vs : List Value) (T : TypeId) : BQ w v1 v2 v3 m ((n, vs) :: bs) u1 u2 u3 k (W.alloc (.cells vs.toArray T)) := by
 have hb : Below W.heap.size W (W.alloc (.cells vs.toArray T)) := bel9;have hl := q.lt;refine ⟨q.h.below hb, q.r0, fun i x hx => ?_, fun i j x y hx hy e => ?_⟩
 ·cases i with
  | zero =>
   simp only [List.getElem?_cons_zero, Option.some.injEq] at hx;subst hx;refine ⟨by have h := Box.new W vs T; rw [hn] at h; exact h, by simp only; omega, out_offB q.h.mo.o1 hn, out_offB q.h.mo.o2 hn, out_offB q.h.mo.o3 hn⟩
  | succ i =>
   rw [List.getElem?_cons_succ] at hx;obtain ⟨h1, h2⟩ := q.bx i x hx;exact ⟨h1.below hb, h2⟩
 ·cases i with
  | zero =>
   simp only [List.getElem?_cons_zero, Option.some.injEq] at hx;subst hx;cases j with
   | zero => rfl
   | succ j =>
    rw [List.getElem?_cons_succ] at hy;have := (q.bx j y hy).1.1;simp only at e;omega
  | succ i =>
   rw [List.getElem?_cons_succ] at hx;cases j with
   | zero =>
    simp only [List.getElem?_cons_zero, Option.some.injEq] at hy;subst hy;have := (q.bx i x hx).1.1;simp only at e;omega
   | succ j =>
    rw [List.getElem?_cons_succ] at hy;rw [q.nd i j x y hx hy e]
theorem offB_num {α : Type} {T K b B : Nat} {enc : α → List Value} {v0 v u : Value} {xs0 xs ys : List α} (hlt : b < B) (h : OffB b v (v = v0 ∧ xs = xs0)) (h2 : Out B W T K enc v xs u ys) : OffB b u (u = v0 ∧ ys = xs0) := by
 rcases h2 with ⟨rfl, rfl⟩ | h2
 ·exact h
 ·refine .inr (fun e => ?_);have := (h2.lt b e).1;omega
theorem BQ.put (q : BQ w v1 v2 v3 m bs u1 u2 u3 k W) (hmo : MOut W.heap.size W' u1 u2 u3 k x1 x2 x3 k2) (hb : Below W.heap.size W W') : BQ w v1 v2 v3 m bs x1 x2 x3 k2 (((W'.setCell ⟨w.heap.size, 0, none⟩ x1).setCell ⟨w.heap.size, 1, none⟩ x2).setCell ⟨w.heap.size, 2, none⟩ x3) := by
 have hl := q.lt;refine ⟨(q.h.below hb).put3 (Nat.le_refl _) (by omega) hl (hmo), q.r0, fun i x hx => ?_, q.nd⟩;obtain ⟨h1, h2, f1, f2, f3⟩ := q.bx i x hx;exact ⟨box_far (box_far (box_far (h1.below hb) (by omega) 0 x1) (by omega) 1 x2) (by omega) 2 x3, h2, offB_num h1.1 f1 hmo.o1, offB_num h1.1 f2 hmo.o2, offB_num h1.1 f3 hmo.o3⟩
theorem out_setB {α : Type} {B T K b : Nat} {enc : α → List Value} {v0 v : Value} {xs0 xs : List α} (h : Out B W T K enc v0 xs0 v xs) (ho : OffB b v (v = v0 ∧ xs = xs0)) (i : Nat) (u : Value) : Out B (W.setCell ⟨b, i, none⟩ u) T K enc v0 xs0 v xs := by
 rcases ho with ho | ho
 ·exact .inl ho
 ·rcases h with h | h
  ·exact .inl h
  ·exact .inr (h.kept (grownBy_setCell W b i u) (.inr ho))
theorem BQ.set (q : BQ w v1 v2 v3 m bs u1 u2 u3 k W) (i : Nat) (x : Nat × List Value) (hx : bs[i]? = some x) (j : Nat) (v : Value) : BQ w v1 v2 v3 m (bs.set i (x.1, x.2.set j v)) u1 u2 u3 k (W.setCell ⟨x.1, j, none⟩ v) := by
 obtain ⟨h1, h2, f1, f2, f3⟩ := q.bx i x hx;have hl := q.lt;have hg := grownBy_setCell W x.1 j v;refine ⟨⟨box_far2 q.h.x (by omega) j v, q.h.bel.trans (below_of_grown hg (by omega) q.h.bel.size), ⟨out_setB q.h.mo.o1 f1 j v, out_setB q.h.mo.o2 f2 j v, out_setB q.h.mo.o3 f3 j v⟩⟩, q.r0, fun l y hy => ?_, fun a b y z hy hz e => ?_⟩
 ·rw [List.getElem?_set] at hy;split at hy
  ·split at hy
   ·cases hy;exact ⟨box_put h1 j v, h2, f1, f2, f3⟩
   ·cases hy
  ·rename_i hne;obtain ⟨g1, g2⟩ := q.bx l y hy;exact ⟨box_far2 g1 (fun e => hne (q.nd i l x y hx hy e.symm)) j v, g2⟩
 ·have key : ∀ (c : Nat) (y : Nat × List Value), (bs.set i (x.1, x.2.set j v))[c]? = some y → ∃ y', bs[c]? = some y' ∧ y'.1 = y.1 := fun c y hy => by
   rw [List.getElem?_set] at hy;split at hy
   ·rename_i hc;subst hc;split at hy
    ·cases hy; exact ⟨x, hx, rfl⟩
    ·cases hy
   ·exact ⟨y, hy, rfl⟩
  obtain ⟨y', e1, e2⟩ := key a y hy;obtain ⟨z', e3, e4⟩ := key b z hz;exact q.nd a b y' z' e1 e3 (by rw [e2, e4, e])
theorem BQ.set1 (q : BQ w v1 v2 v3 m bs u1 u2 u3 k W) (i b : Nat) (vs : List Value) (hx : bs[i]? = some (b, vs)) (j : Nat) (v : Value) : BQ w v1 v2 v3 m (bs.set i (b, vs.set j v)) u1 u2 u3 k (W.setCell ⟨b, j, none⟩ v) := q.set i (b, vs) hx j v
theorem BQ.set3 (q : BQ w v1 v2 v3 m bs u1 u2 u3 k W) (i b : Nat) (vs : List Value) (hx : bs[i]? = some (b, vs)) (x y z : Value) : BQ w v1 v2 v3 m (bs.set i (b, ((vs.set 0 x).set 1 y).set 2 z)) u1 u2 u3 k (((W.setCell ⟨b, 0, none⟩ x).setCell ⟨b, 1, none⟩ y).setCell ⟨b, 2, none⟩ z) := by
 have hi : i < bs.length := (List.getElem?_eq_some_iff.1 hx).1;have g : ∀ y : Nat × List Value, (bs.set i y)[i]? = some y := fun y => by rw [List.getElem?_set_self hi]
 have h1 := q.set i (b, vs) hx 0 x;have h2 := h1.set i (b, vs.set 0 x) (g _) 1 y;have h3 := h2.set i (b, (vs.set 0 x).set 1 y) (by rw [List.set_set]; exact g _) 2 z;rw [List.set_set, List.set_set] at h3;exact h3
theorem BQ.drew (q : BQ w v1 v2 v3 m bs u1 u2 u3 k W) : BQ w v1 v2 v3 m bs u1 u2 u3 k W.drew := q.below bel9
end
section
variable {w W W' : World} {v1 v2 v3 u1 u2 u3 x1 x2 x3 : Value} {m k k2 : Mch} {bs : List (Nat × List Value)}
theorem BQ.fx (q : BQ w v1 v2 v3 m bs u1 u2 u3 k W) : W.cell? ⟨w.heap.size, 0, none⟩ = some u1 ∧ W.cell? ⟨w.heap.size, 1, none⟩ = some u2 ∧ W.cell? ⟨w.heap.size, 2, none⟩ = some u3 ∧ W.frozen? ⟨w.heap.size, 0, none⟩ = false ∧ W.frozen? ⟨w.heap.size, 1, none⟩ = false ∧ W.frozen? ⟨w.heap.size, 2, none⟩ = false :=
 ⟨q.h.x.cell 0 _ rfl, q.h.x.cell 1 _ rfl, q.h.x.cell 2 _ rfl, q.h.x.free 0, q.h.x.free 1, q.h.x.free 2⟩
theorem BQ.b3 (q : BQ w v1 v2 v3 m bs u1 u2 u3 k W) (i b : Nat) (y1 y2 y3 : Value) (hx : bs[i]? = some (b, [y1, y2, y3])) : W.cell? ⟨b, 0, none⟩ = some y1 ∧ W.cell? ⟨b, 1, none⟩ = some y2 ∧ W.cell? ⟨b, 2, none⟩ = some y3 ∧ W.frozen? ⟨b, 0, none⟩ = false ∧ W.frozen? ⟨b, 1, none⟩ = false ∧ W.frozen? ⟨b, 2, none⟩ = false := by
 have h := q.box i _ hx;exact ⟨h.cell 0 _ rfl, h.cell 1 _ rfl, h.cell 2 _ rfl, h.free 0, h.free 1, h.free 2⟩
theorem BQ.onW (_q : BQ w v1 v2 v3 m bs u1 u2 u3 k W) {R : World → Prop} (f : ∀ W, BQ w v1 v2 v3 m bs u1 u2 u3 k W → R W) : ∀ W, BQ w v1 v2 v3 m bs u1 u2 u3 k W → R W := f
def BQs (w : World) (v1 v2 v3 : Value) (m : Mch) (bs : List (Nat × List Value)) (im bm : Nat) (u1 u2 u3 : Value) (k : Mch) (W : World) : Prop := ∃ ys : List Value, ys.length = 3 ∧ BQ w v1 v2 v3 m (bs.set im (bm, ys)) u1 u2 u3 k W
theorem BQ.dres {P : Program} {ops : Array Oper} {Q : Exit → Act → World → Prop} {id : Nat} {t : Act} (q : BQ w v1 v2 v3 m bs u1 u2 u3 k W) (im ib : Nat) (Y : List Nat) {bm bb : Nat} {z1 z2 z3 y1 y2 y3 : Value} (hm : bs[im]? = some (bm, [z1, z2, z3])) (hb : bs[ib]? = some (bb, [y1, y2, y3])) (hne : im ≠ ib)
 (h : BQs w v1 v2 v3 m bs im bm u1 u2 u3 k W.drew → (∀ W, BQs w v1 v2 v3 m bs im bm u1 u2 u3 k W → W.cell? ⟨w.heap.size, 0, none⟩ = some u1) → (∀ W, BQs w v1 v2 v3 m bs im bm u1 u2 u3 k W → W.cell? ⟨w.heap.size, 1, none⟩ = some u2) → (∀ W, BQs w v1 v2 v3 m bs im bm u1 u2 u3 k W → W.cell? ⟨w.heap.size, 2, none⟩ = some u3) →
  (∀ W, BQs w v1 v2 v3 m bs im bm u1 u2 u3 k W → W.cell? ⟨bb, 0, none⟩ = some y1) → (∀ W, BQs w v1 v2 v3 m bs im bm u1 u2 u3 k W → W.cell? ⟨bb, 1, none⟩ = some y2) → (∀ W, BQs w v1 v2 v3 m bs im bm u1 u2 u3 k W → W.cell? ⟨bb, 2, none⟩ = some y3) →
  wpAnyY P .any ops Q (BQs w v1 v2 v3 m bs im bm u1 u2 u3 k) Y ops.size (Array.replicate ops.size false) t W.drew) (hmx : P.follows .mixedOrders = true := by kernel_rfl) : (Code.region id ops true).wp P Q t W := by
 have hb' : ∀ ys, (bs.set im (bm, ys))[ib]? = some (bb, [y1, y2, y3]) := fun ys => by rw [List.getElem?_set_ne hne]; exact hb
 have hs : BQs w v1 v2 v3 m bs im bm u1 u2 u3 k W.drew := ⟨[z1, z2, z3], rfl, by
  have e : bs.set im (bm, [z1, z2, z3]) = bs := by
   apply List.ext_getElem?;intro j;rw [List.getElem?_set];split
   ·rename_i e;subst e;rw [hm];split
    ·rfl
    ·rename_i h2;exact absurd (List.getElem?_eq_some_iff.1 hm).1 h2
   ·rfl
  rw [e];exact q.drew⟩
 refine wp_region_Y _ Y hmx hs (fun hS => h hS ?_ ?_ ?_ ?_ ?_ ?_)
 ·rintro W ⟨ys, _, q⟩; exact q.h.x.cell 0 _ rfl
 ·rintro W ⟨ys, _, q⟩; exact q.h.x.cell 1 _ rfl
 ·rintro W ⟨ys, _, q⟩; exact q.h.x.cell 2 _ rfl
 ·rintro W ⟨ys, _, q⟩; exact (q.box ib _ (hb' ys)).cell 0 _ rfl
 ·rintro W ⟨ys, _, q⟩; exact (q.box ib _ (hb' ys)).cell 1 _ rfl
 ·rintro W ⟨ys, _, q⟩; exact (q.box ib _ (hb' ys)).cell 2 _ rfl
end
section
variable {w W W' : World} {v1 v2 v3 u1 u2 u3 x1 x2 x3 : Value} {m k k2 : Mch} {bs : List (Nat × List Value)}
theorem bx2 {P : Program} {f : FuncId} {args : Array Value} {R : Ending → World → Prop} {r : Value} (q : Hid (BQ w v1 v2 v3 m bs u1 u2 u3 k W)) (K : Calls P f args W (SRet u1 u2 u3 k k2 r W))
 (h : ∀ (a1 : Option Addr) (c1 : Nat) (a2 : Option Addr) (c2 : Nat) (a3 : Option Addr) (c3 : Nat) w', Hid (BQ w v1 v2 v3 m bs u1 u2 u3 k w') → Hid (MOut W.heap.size w' u1 u2 u3 k (.slice a1 k2.st.length c1) (.slice a2 k2.rs.length c2) (.slice a3 k2.ws.length c3) k2) → Hid (BQ w v1 v2 v3 m bs (.slice a1 k2.st.length c1) (.slice a2 k2.rs.length c2) (.slice a3 k2.ws.length c3) k2 (((w'.setCell ⟨w.heap.size, 0, none⟩ (.slice a1 k2.st.length c1)).setCell ⟨w.heap.size, 1, none⟩ (.slice a2 k2.rs.length c2)).setCell ⟨w.heap.size, 2, none⟩ (.slice a3 k2.ws.length c3))) → w'.cell? ⟨w.heap.size, 0, none⟩ = some u1 ∧ w'.cell? ⟨w.heap.size, 1, none⟩ = some u2 ∧ w'.cell? ⟨w.heap.size, 2, none⟩ = some u3 ∧ w'.frozen? ⟨w.heap.size, 0, none⟩ = false ∧ w'.frozen? ⟨w.heap.size, 1, none⟩ = false ∧ w'.frozen? ⟨w.heap.size, 2, none⟩ = false → R (.returned (.tuple #[.agg #[.slice a1 k2.st.length c1, .slice a2 k2.rs.length c2, .slice a3 k2.ws.length c3], r])) w') : Calls P f args W R := K.mono (by
 rintro e w' ⟨y1, y2, y3, rfl, hmo, hb⟩;obtain ⟨a1, c1, a2, c2, a3, c3, rfl, rfl, rfl⟩ := hmo.openS q.out.rd hb;exact h _ _ _ _ _ _ _ (q.out.below hb) hmo (q.out.put hmo hb) (q.out.below hb).fx)
theorem bx3 {P : Program} {f : FuncId} {args : Array Value} {R : Ending → World → Prop} {r r2 : Value} (q : Hid (BQ w v1 v2 v3 m bs u1 u2 u3 k W)) (K : Calls P f args W (SRet3 u1 u2 u3 k k2 r r2 W))
 (h : ∀ (a1 : Option Addr) (c1 : Nat) (a2 : Option Addr) (c2 : Nat) (a3 : Option Addr) (c3 : Nat) w', Hid (BQ w v1 v2 v3 m bs u1 u2 u3 k w') → Hid (MOut W.heap.size w' u1 u2 u3 k (.slice a1 k2.st.length c1) (.slice a2 k2.rs.length c2) (.slice a3 k2.ws.length c3) k2) → Hid (BQ w v1 v2 v3 m bs (.slice a1 k2.st.length c1) (.slice a2 k2.rs.length c2) (.slice a3 k2.ws.length c3) k2 (((w'.setCell ⟨w.heap.size, 0, none⟩ (.slice a1 k2.st.length c1)).setCell ⟨w.heap.size, 1, none⟩ (.slice a2 k2.rs.length c2)).setCell ⟨w.heap.size, 2, none⟩ (.slice a3 k2.ws.length c3))) → w'.cell? ⟨w.heap.size, 0, none⟩ = some u1 ∧ w'.cell? ⟨w.heap.size, 1, none⟩ = some u2 ∧ w'.cell? ⟨w.heap.size, 2, none⟩ = some u3 ∧ w'.frozen? ⟨w.heap.size, 0, none⟩ = false ∧ w'.frozen? ⟨w.heap.size, 1, none⟩ = false ∧ w'.frozen? ⟨w.heap.size, 2, none⟩ = false → R (.returned (.tuple #[.agg #[.slice a1 k2.st.length c1, .slice a2 k2.rs.length c2, .slice a3 k2.ws.length c3], r, r2])) w') : Calls P f args W R := K.mono (by
 rintro e w' ⟨y1, y2, y3, rfl, hmo, hb⟩;obtain ⟨a1, c1, a2, c2, a3, c3, rfl, rfl, rfl⟩ := hmo.openS q.out.rd hb;exact h _ _ _ _ _ _ _ (q.out.below hb) hmo (q.out.put hmo hb) (q.out.below hb).fx)
theorem bt2 {P : Program} {fn : Func} {a : Act} {r : Value} (q : BQ w v1 v2 v3 m bs u1 u2 u3 k W) (hr : (results fn a.tmps).run P W = .ok (.tuple #[.agg #[u1, u2, u3], r]) W) (hd : a.defers = [] := by rfl) : bodyPost P fn (SRet v1 v2 v3 m k r w) .ret a W := ⟨hd, _, hr, _, _, _, rfl, q.mo, q.bel⟩
theorem BQ.b6 (q : BQ w v1 v2 v3 m bs u1 u2 u3 k W) (i b : Nat) (y1 y2 y3 y4 y5 y6 : Value) (hx : bs[i]? = some (b, [y1, y2, y3, y4, y5, y6])) : W.cell? ⟨b, 0, none⟩ = some y1 ∧ W.cell? ⟨b, 1, none⟩ = some y2 ∧ W.cell? ⟨b, 2, none⟩ = some y3 ∧ W.cell? ⟨b, 3, none⟩ = some y4 ∧ W.cell? ⟨b, 4, none⟩ = some y5 ∧ W.cell? ⟨b, 5, none⟩ = some y6 := by
 have h := q.box i _ hx;exact ⟨h.cell 0 _ rfl, h.cell 1 _ rfl, h.cell 2 _ rfl, h.cell 3 _ rfl, h.cell 4 _ rfl, h.cell 5 _ rfl⟩
theorem BQ.setm (q : BQ w v1 v2 v3 m bs u1 u2 u3 k W) (i b : Nat) (vs : List Value) (hx : bs[i]? = some (b, vs)) : BQ w v1 v2 v3 m (bs.set i (b, ((vs.set 0 u1).set 1 u2).set 2 u3)) u1 u2 u3 k (((W.setCell ⟨b, 0, none⟩ u1).setCell ⟨b, 1, none⟩ u2).setCell ⟨b, 2, none⟩ u3) := q.set3 i b vs hx u1 u2 u3
theorem BQ.copy (q : BQ w v1 v2 v3 m bs u1 u2 u3 k W) (i b : Nat) (vs : List Value) (hx : bs[i]? = some (b, vs)) (j b2 : Nat) (y1 y2 y3 : Value) (_ : bs[j]? = some (b2, [y1, y2, y3])) : BQ w v1 v2 v3 m (bs.set i (b, ((vs.set 0 y1).set 1 y2).set 2 y3)) u1 u2 u3 k (((W.setCell ⟨b, 0, none⟩ y1).setCell ⟨b, 1, none⟩ y2).setCell ⟨b, 2, none⟩ y3) := q.set3 i b vs hx y1 y2 y3
theorem BQ.out2 {B : Nat} (q : BQ w v1 v2 v3 m bs u1 u2 u3 k W) (hmo : MOut B W u1 u2 u3 k x1 x2 x3 k2) (i b : Nat) (vs : List Value) (hi : bs[i]? = some (b, vs)) (j b2 : Nat) (vs2 : List Value) (hj : bs[j]? = some (b2, vs2)) (hij : i ≠ j) (y1 y2 y3 z1 z2 z3 : Value) (hB : b < B := by (simp; omega)) (hB2 : b2 < B := by (simp; omega)) (hw : w.heap.size ≤ B := by (simp; omega)) :
 MOut w.heap.size ((((((W.setCell ⟨b, 0, none⟩ y1).setCell ⟨b, 1, none⟩ y2).setCell ⟨b, 2, none⟩ y3).setCell ⟨b2, 0, none⟩ z1).setCell ⟨b2, 1, none⟩ z2).setCell ⟨b2, 2, none⟩ z3) v1 v2 v3 m x1 x2 x3 k2 ∧ Below w.heap.size w ((((((W.setCell ⟨b, 0, none⟩ y1).setCell ⟨b, 1, none⟩ y2).setCell ⟨b, 2, none⟩ y3).setCell ⟨b2, 0, none⟩ z1).setCell ⟨b2, 1, none⟩ z2).setCell ⟨b2, 2, none⟩ z3) := by
 have q1 := q.set3 i b vs hi y1 y2 y3;have hj2 : (bs.set i (b, ((vs.set 0 y1).set 1 y2).set 2 y3))[j]? = some (b2, vs2) := by rw [List.getElem?_set_ne hij]; exact hj
 have q2 := q1.set3 j b2 vs2 hj2 z1 z2 z3;exact ⟨q2.mo.trans (((((((hmo.set hB 0 y1).set hB 1 y2).set hB 2 y3).set hB2 0 z1).set hB2 1 z2).set hB2 2 z3)) hw, q2.bel⟩
theorem bo2 {P : Program} {fn : Func} {t : Act} {r : Value} {B : Nat} (q : BQ w v1 v2 v3 m bs u1 u2 u3 k W) (hmo : MOut B W u1 u2 u3 k x1 x2 x3 k2) (i b : Nat) (vs : List Value) (hi : bs[i]? = some (b, vs)) (j b2 : Nat) (vs2 : List Value) (hj : bs[j]? = some (b2, vs2)) (hij : i ≠ j) {y1 y2 y3 z1 z2 z3 : Value}
 (hr : (results fn t.tmps).run P ((((((W.setCell ⟨b, 0, none⟩ y1).setCell ⟨b, 1, none⟩ y2).setCell ⟨b, 2, none⟩ y3).setCell ⟨b2, 0, none⟩ z1).setCell ⟨b2, 1, none⟩ z2).setCell ⟨b2, 2, none⟩ z3) = .ok (.tuple #[.agg #[x1, x2, x3], r]) ((((((W.setCell ⟨b, 0, none⟩ y1).setCell ⟨b, 1, none⟩ y2).setCell ⟨b, 2, none⟩ y3).setCell ⟨b2, 0, none⟩ z1).setCell ⟨b2, 1, none⟩ z2).setCell ⟨b2, 2, none⟩ z3))
 (hB : b < B) (hB2 : b2 < B) (hw : w.heap.size ≤ B) (hd : t.defers = [] := by rfl) : bodyPost P fn (SRet v1 v2 v3 m k2 r w) .ret t ((((((W.setCell ⟨b, 0, none⟩ y1).setCell ⟨b, 1, none⟩ y2).setCell ⟨b, 2, none⟩ y3).setCell ⟨b2, 0, none⟩ z1).setCell ⟨b2, 1, none⟩ z2).setCell ⟨b2, 2, none⟩ z3) :=
 have h := q.out2 hmo i b vs hi j b2 vs2 hj hij y1 y2 y3 z1 z2 z3 hB hB2 hw
 ⟨hd, _, hr, _, _, _, rfl, h.1, h.2⟩
end
theorem apart4 {a b : Nat} (h : a + 4 ≤ b) : (¬ b = a ∧ ¬ b = a + 1 ∧ ¬ b = a + 2 ∧ ¬ b = a + 3) ∧ (¬ a = b ∧ ¬ a + 1 = b ∧ ¬ a + 2 = b ∧ ¬ a + 3 = b) ∧ (a < b ∧ a + 1 < b ∧ a + 2 < b ∧ a + 3 < b) := by omega
end
section
open Go.ChangeShapes Go.WideShapes Go.ChangeAt Go.RowKit
attribute [local go_sem ↓] Go.wp_at_zero Go.wp_at_succ
set_option maxRecDepth 100000 in
theorem tLoad_c (v1 v2 v3 : Value) (m m' : Mch) (x : ByteArray) (y : Int) (id : Int) (page : Int) (w : World) (h : MRd w v1 v2 v3 m) (O0 : Hid (MOk 1700000000000 m)) (hn : I64 id) (HE : Hid ((loadP id page).run m = (m', (x, y)))) :
 Calls prog 142 #[.agg #[v1, v2, v3], .int .i64 id, .int .i64 page] w (SRet3 v1 v2 v3 m m' (.string x) (.int .i64 y) w) := by
 obtain ⟨a1, q1, a2, q2, a3, q3, rfl, rfl, rfl, Q0⟩ := h.start;clear h;go_enter func142, ntmps142;by_cases c1 : inB page 0 3 = true
 ·have C1 := hid9 c1;clear c1;have hb := inB_iff.1 C1.out;have hpg : I64 page := ⟨by omega, by omega⟩;have KW := hid9 (fun W => l01In_c page 0 3 W);rw [C1.out] at KW;obtain ⟨m1, x1, HE1, O1⟩ := Pg.Cost.hop (lookP (pageK id page)) (lookP_cost _) O0;have sx1 := lookS_sz O0.out HE1.out;go_wp2_with (first | (go_at_call 70; refine (KW.out _).mono ?_; rintro e w' ⟨rfl, rfl⟩) | fail);refine Q0.out.region [9] fun hS cr0 cr1 cr2 => ?_;refine pL 0 hS ?_;refine pU 1 hS ?_;refine pU 3 hS ?_;refine pV 2 hS (l11Head_c id _ hn) fun _ hS => ?_;refine pV 4 hS (tPageKey_c id page _ hn hpg) fun _ hS => ?_;refine pM2 SQ.fr 5 hS (tLook_c _ _ _ _ _ _ (pageK id page) _ hS.rd (O0.out.mono (by omega)) HE1.out) fun _ _ _ _ _ _ w1 hS hmo F1 => ?_;refine pU 6 hS ?_;refine pU 7 hS ?_;refine pU 8 hS ?_;refine pS 9 ?_;refine pW 10 ?_;refine wpAnyY_done (by kernel_rfl) ?_ _;have Q1 := hid9 (hS.put hmo);clear hS hmo Q0 cr0 cr1 cr2;have EM := hid9 (msg_run HE1.out);by_cases c2 : Lib.hasPrefix x1.data.toList [45] = true
  ·have C2 := hid9 c2;clear c2;obtain ⟨h0, h45⟩ := hyphen_size C2.out;have t1 : ∀ t, binOp .neq t (.string x1) (.string ⟨#[]⟩) = pure (.bool true) := fun t => neq_empty (by omega);have t0 : (0 : Int) < (x1.size : Int) := by omega
   have t2 : ∀ t, binOp .eql t (.int .u8 (x1[0].toNat : Int)) (.int .u8 45) = pure (.bool true) := fun t => byte_eq (b := 45) h45;have t3 : (1 : Int) ≤ (x1.size : Int) := by omega
   go_wp2_with fail;refine nxV SQ.fr Q1 (tUnhexM_c x1 _ C2.out sx1) fun w2 Q2 F2 => ?_;clear F1 Q1;obtain ⟨rfl, rfl, rfl⟩ := leaf3 HE m1 (msgV x1) (0) (by unfold loadP; simp only [pgz, ↓reduceIte, bz, C1.out, HE1.out, EM.out, C2.out]);go_wp2_with fail;exact rt3 SQ.fr Q2 (by simp [results, results142, go_sem, noB, *])
  ·have C2 := hid9 (Bool.eq_false_iff.2 c2);clear c2;have EV := hid9 (msg_no C2.out);by_cases c3 : 0 < x1.size
   ·have C3 := hid9 c3;clear c3;have h45 := no_hyphen C2.out C3.out;have h0 : 0 < x1.size := C3.out;have t1 : ∀ t, binOp .neq t (.string x1) (.string ⟨#[]⟩) = pure (.bool true) := fun t => neq_empty h0;have t0 : (0 : Int) < (x1.size : Int) := by omega
    have t2 : ∀ t, binOp .eql t (.int .u8 (x1[0].toNat : Int)) (.int .u8 45) = pure (.bool false) := fun t => byte_ne (b := 45) h45;obtain ⟨rfl, rfl, rfl⟩ := leaf3 HE m1 (noB) (0) (by unfold loadP; simp only [pgz, ↓reduceIte, bz, C1.out, HE1.out, EM.out, C2.out, EV.out, C3.out]);go_wp2_with fail;exact rt3 SQ.fr Q1 (by simp [results, results142, go_sem, noB, *])
   ·have C3 := hid9 c3;clear c3;have t1 : ∀ t, binOp .neq t (.string x1) (.string ⟨#[]⟩) = pure (.bool false) := fun t => eq_empty (Nat.eq_zero_of_not_pos C3.out);obtain ⟨rfl, rfl, rfl⟩ := leaf3 HE m1 (noB) (0) (by unfold loadP; simp only [pgz, ↓reduceIte, bz, C1.out, HE1.out, EM.out, C2.out, EV.out, C3.out]);go_wp2_with fail;exact rt3 SQ.fr Q1 (by simp [results, results142, go_sem, noB, *])
 ·have C1 := hid9 (Bool.eq_false_iff.2 c1);clear c1;have KW := hid9 (fun W => l01In_c page 0 3 W);rw [C1.out] at KW;obtain ⟨rfl, rfl, rfl⟩ := leaf3 HE m (noB) (4) (by unfold loadP; simp only [pgz, ↓reduceIte, bz, C1.out]);go_wp2_with (first | (go_at_call 70; refine (KW.out _).mono ?_; rintro e w' ⟨rfl, rfl⟩) | fail);exact rz3 (by simp [results, results142, go_sem, noB, *]) bel9
set_option maxRecDepth 100000 in
theorem tStore_c (v1 v2 v3 : Value) (m m' : Mch) (x : Int) (id : Int) (page : Int) (text : ByteArray) (w : World) (h : MRd w v1 v2 v3 m) (O0 : Hid (MOk 1700000000000 m)) (hn : I64 id) (HE : Hid ((storeP id page text).run m = (m', x))) :
 Calls prog 141 #[.agg #[v1, v2, v3], .int .i64 id, .int .i64 page, .string text] w (SRet v1 v2 v3 m m' (.int .i64 x) w) := by
 obtain ⟨a1, q1, a2, q2, a3, q3, rfl, rfl, rfl, Q0⟩ := h.start;clear h;go_enter func141, ntmps141;by_cases c1 : inB page 0 3 = true
 ·have C1 := hid9 c1;clear c1;have hb := inB_iff.1 C1.out;have hpg : I64 page := ⟨by omega, by omega⟩;have KW := hid9 (fun W => l01In_c page 0 3 W);rw [C1.out] at KW;by_cases c2 : text.size ≤ 20
  ·have p1 : ¬ (20 : Int) < (text.size : Int) := by omega
   have hst : text.size ≤ maxLen := by unfold maxLen; omega
   by_cases c3 : text.size = 0
   ·have C3 := hid9 c3;clear c3;have hne := fun t => eql_empty (t := t) C3.out;obtain ⟨m1, u1, HE1, O1⟩ := Pg.Cost.hop (layP (pageK id page) (noB)) (layP_cost _ _) O0;go_wp2_with (first | (go_at_call 70; refine (KW.out _).mono ?_; rintro e w' ⟨rfl, rfl⟩) | fail);refine Q0.out.region [6] fun hS cr0 cr1 cr2 => ?_;refine pL 0 hS ?_;refine pU 1 hS ?_;refine pU 3 hS ?_;refine pV 2 hS (l11Head_c id _ hn) fun _ hS => ?_;refine pV 4 hS (tPageKey_c id page _ hn hpg) fun _ hS => ?_;refine pM1 SQ.fr 5 hS (tLay_c _ _ _ _ _ _ (pageK id page) (noB) _ hS.rd (O0.out.mono (by omega)) (Nat.le_trans (pageK_size hn hpg) (by decide : (1000 : Nat) ≤ maxLen)) (by decide) HE1.out) fun _ _ _ _ _ _ w1 hS hmo F1 => ?_;refine pS 6 ?_;refine pW 7 ?_;refine wpAnyY_done (by kernel_rfl) ?_ _;have SE := hid9 (SQ.fr.finR hS hmo);clear hS hmo Q0 cr0 cr1 cr2;obtain ⟨rfl, rfl⟩ := leaf HE m1 (0) (by unfold storeP; simp only [pgz, ↓reduceIte, bz, Nat.zero_le, C1.out, (show text.size ≤ 20 from by first | exact c2 | omega | simpa using c2), C3.out, HE1.out]);go_wp2_with fail;exact re2 SE (by simp [results, results141, go_sem, *])
   ·have C3 := hid9 c3;clear c3;have hne := fun t => eql_some (t := t) (Nat.pos_of_ne_zero C3.out);have hz := hexV_size text;have nh : ¬ 9223372036854775807 < 1 + (hexV text).size := by omega
    go_wp2_with (first | (go_at_call 70; refine (KW.out _).mono ?_; rintro e w' ⟨rfl, rfl⟩) | fail);refine nxV SQ.fr Q0 (specHex_c text _ hst) fun w1 Q1 F1 => ?_;clear Q0;obtain ⟨m1, u1, HE1, O1⟩ := Pg.Cost.hop (layP (pageK id page) (hyphenS (hexV text))) (layP_cost _ _) O0;go_wp2_with fail;refine Q1.out.region [8] fun hS cr0 cr1 cr2 => ?_;clear F1;refine pL 0 hS ?_;refine pU 1 hS ?_;refine pU 3 hS ?_;refine pU 5 hS ?_;refine pU 6 hS ?_;refine pV 2 hS (l11Head_c id _ hn) fun _ hS => ?_;refine pV 4 hS (tPageKey_c id page _ hn hpg) fun _ hS => ?_;refine pM1 SQ.fr 7 hS (tLay_c _ _ _ _ _ _ (pageK id page) (hyphenS (hexV text)) _ hS.rd (O0.out.mono (by omega)) (Nat.le_trans (pageK_size hn hpg) (by decide : (1000 : Nat) ≤ maxLen)) (by rw [hyphenS_size]; have := hexV_size text; unfold maxLen; omega) HE1.out) fun _ _ _ _ _ _ w2 hS hmo F2 => ?_;refine pS 8 ?_;refine pW 9 ?_;refine wpAnyY_done (by kernel_rfl) ?_ _;have SE := hid9 (SQ.fr.finR hS hmo);clear hS hmo Q1 cr0 cr1 cr2;obtain ⟨rfl, rfl⟩ := leaf HE m1 (0) (by unfold storeP; simp only [pgz, ↓reduceIte, bz, Nat.zero_le, C1.out, (show text.size ≤ 20 from by first | exact c2 | omega | simpa using c2), C3.out, HE1.out]);go_wp2_with fail;exact re2 SE (by simp [results, results141, go_sem, *])
  ·have p1 : (20 : Int) < (text.size : Int) := by omega
   obtain ⟨rfl, rfl⟩ := leaf HE m (4) (by unfold storeP; simp only [pgz, ↓reduceIte, bz, Nat.zero_le, C1.out, (show ¬ (text.size ≤ 20) from by first | exact c2 | omega | simpa using c2)]);go_wp2_with (first | (go_at_call 70; refine (KW.out _).mono ?_; rintro e w' ⟨rfl, rfl⟩) | fail);exact rz2 (by simp [results, results141, go_sem, *]) bel9
 ·have C1 := hid9 (Bool.eq_false_iff.2 c1);clear c1;have KW := hid9 (fun W => l01In_c page 0 3 W);rw [C1.out] at KW;obtain ⟨rfl, rfl⟩ := leaf HE m (4) (by unfold storeP; simp only [pgz, ↓reduceIte, bz, Nat.zero_le, C1.out]);go_wp2_with (first | (go_at_call 70; refine (KW.out _).mono ?_; rintro e w' ⟨rfl, rfl⟩) | fail);exact rz2 (by simp [results, results141, go_sem, *]) bel9
set_option maxRecDepth 100000 in
theorem tPutOut_c (v1 v2 v3 : Value) (m m' : Mch) (x : Int) (text : ByteArray) (w : World) (h : MRd w v1 v2 v3 m) (O0 : Hid (MOk 1700000000000 m)) (HE : Hid ((putOutP text).run m = (m', x))) :
 Calls prog 143 #[.agg #[v1, v2, v3], .string text] w (SRet v1 v2 v3 m m' (.int .i64 x) w) := by
 obtain ⟨a1, q1, a2, q2, a3, q3, rfl, rfl, rfl, Q0⟩ := h.start;clear h;go_enter func143, ntmps143;by_cases c1 : text.size = 0
 ·have C1 := hid9 c1;clear c1;have EI := hid9 (show inB ((0 : Nat) : Int) 1 20 = false from by decide);have hne := fun t => eql_empty (t := t) C1.out;obtain ⟨rfl, rfl⟩ := leaf HE m (4) (by unfold putOutP; simp only [pgz, ↓reduceIte, bz, C1.out, EI.out]);go_wp2;exact rz2 (by simp [results, results143, go_sem, *]) bel9
 ·have C1 := hid9 c1;clear c1;have hne := fun t => eql_some (t := t) (Nat.pos_of_ne_zero C1.out);have hp := C1.out;by_cases c2 : 20 < text.size
  ·have EI := hid9 (show inB (text.size : Int) 1 20 = false from by unfold inB; simp; omega);have p1 : (20 : Int) < (text.size : Int) := by omega
   obtain ⟨rfl, rfl⟩ := leaf HE m (4) (by unfold putOutP; simp only [pgz, ↓reduceIte, bz, C1.out, (show 20 < text.size from by first | exact c2 | omega | simpa using c2), EI.out]);go_wp2;exact rz2 (by simp [results, results143, go_sem, *]) bel9
  ·have EI := hid9 (show inB (text.size : Int) 1 20 = true from by unfold inB; simp; omega);have p1 : ¬ (20 : Int) < (text.size : Int) := by omega
   have hst : text.size ≤ maxLen := by unfold maxLen; omega
   obtain ⟨m1, x1, HE1, O1⟩ := Pg.Cost.hop (numP (dnK)) (numP_cost _) O0;have bx1 := numP_bounds HE1.out;go_wp2_with fail;refine nx2 SQ.fr Q0 (tNum_c _ _ _ _ _ _ (dnK) _ Q0.out.rd (O0.out.mono (by omega)) HE1.out) fun _ _ _ _ _ _ w1 Q1 F1 => ?_;clear Q0;by_cases c3 : 40 ≤ x1
   ·obtain ⟨rfl, rfl⟩ := leaf HE m1 (3) (by unfold putOutP; simp only [pgz, ↓reduceIte, bz, C1.out, (show ¬ (20 < text.size) from by first | exact c2 | omega | simpa using c2), EI.out, HE1.out, (show 40 ≤ x1 from by first | exact c3 | omega | simpa using c3)]);go_wp2;exact rt2 SQ.fr Q1 (by simp [results, results143, go_sem, *])
   ·have hwx1 : IntKind.i64.wrap (x1 + 1) = x1 + 1 := by rw [IntKind.wrap_i64]; omega
    have hz := hexV_size text;have nh : ¬ 9223372036854775807 < 1 + (hexV text).size := by omega
    go_wp2_with fail;refine nxV SQ.fr Q1 (specHex_c text _ hst) fun w2 Q2 F2 => ?_;clear F1 Q1;obtain ⟨m2, u2, HE2, O2⟩ := Pg.Cost.hop (setP (dnK) (x1 + 1)) (setP_cost _ _) O1;go_wp2_with fail;refine nx1 SQ.fr Q2 (tSet_c _ _ _ _ _ _ (dnK) (x1 + 1) _ Q2.out.rd (O1.out.mono (by omega)) (Nat.le_trans ((by decide)) (by decide : (1000 : Nat) ≤ maxLen)) HE2.out) fun _ _ _ _ _ _ w3 Q3 F3 => ?_;clear F2 Q2;obtain ⟨m3, u3, HE3, O3⟩ := Pg.Cost.hop (layP (outK1 (x1 + 1)) (hyphenS (hexV text))) (layP_cost _ _) O2;go_wp2_with fail;refine Q3.out.region [7] fun hS cr0 cr1 cr2 => ?_;clear F3;refine pL 0 hS ?_;refine pU 1 hS ?_;refine pU 2 hS ?_;refine pU 4 hS ?_;refine pU 5 hS ?_;refine pV 3 hS (tOutKey_c (x1 + 1) _ (i64_succ bx1)) fun _ hS => ?_;refine pM1 SQ.fr 6 hS (tLay_c _ _ _ _ _ _ (outK1 (x1 + 1)) (hyphenS (hexV text)) _ hS.rd (O2.out.mono (by omega)) (Nat.le_trans (outK1_size (i64_succ bx1)) (by decide : (1000 : Nat) ≤ maxLen)) (by rw [hyphenS_size]; have := hexV_size text; unfold maxLen; omega) HE3.out) fun _ _ _ _ _ _ w4 hS hmo F4 => ?_;refine pS 7 ?_;refine pW 8 ?_;refine wpAnyY_done (by kernel_rfl) ?_ _;have SE := hid9 (SQ.fr.finR hS hmo);clear hS hmo Q3 cr0 cr1 cr2;obtain ⟨rfl, rfl⟩ := leaf HE m3 (0) (by unfold putOutP; simp only [pgz, ↓reduceIte, bz, C1.out, (show ¬ (20 < text.size) from by first | exact c2 | omega | simpa using c2), EI.out, HE1.out, (show ¬ (40 ≤ x1) from by first | exact c3 | omega | simpa using c3), HE2.out, HE3.out]);go_wp2;exact re2 SE (by simp [results, results143, go_sem, *])
set_option maxRecDepth 100000 in
theorem tSizeFile_c (v1 v2 v3 : Value) (m m' : Mch) (x : Int) (id : Int) (w : World) (h : MRd w v1 v2 v3 m) (O0 : Hid (MOk 1800000000000 m)) (hn : I64 id) (HE : Hid ((numP (sizeK id)).run m = (m', x))) :
 Calls prog 213 #[.agg #[v1, v2, v3], .int .i64 id] w (SRet v1 v2 v3 m m' (.int .i64 x) w) := by
 obtain ⟨a1, q1, a2, q2, a3, q3, rfl, rfl, rfl, Q0⟩ := h.start;clear h;go_enter func213, ntmps213;obtain ⟨m1, x1, HE1, O1⟩ := Pg.Cost.hop (numP (sizeK id)) (numP_cost _) O0;have bx1 := numP_bounds HE1.out;go_wp2_with fail;refine Q0.out.region [6] fun hS cr0 cr1 cr2 => ?_;refine pL 0 hS ?_;refine pU 1 hS ?_;refine pV 2 hS (tSizeKey_c id _ hn) fun _ hS => ?_;refine pM2 SQ.fr 3 hS (tNum_c _ _ _ _ _ _ (sizeK id) _ hS.rd (O0.out.mono (by omega)) HE1.out) fun _ _ _ _ _ _ w1 hS hmo F1 => ?_;refine pU 4 hS ?_;refine pU 5 hS ?_;refine pS 6 ?_;refine pW 7 ?_;refine wpAnyY_done (by kernel_rfl) ?_ _;have SE := hid9 (SQ.fr.finR hS hmo);clear hS hmo Q0 cr0 cr1 cr2;obtain ⟨rfl, rfl⟩ := leaf HE m1 (x1) (by simp only [pgz, ↓reduceIte, bz, HE1.out]);go_wp2;exact re2 SE (by simp [results, results213, go_sem, *])
set_option maxRecDepth 100000 in
theorem tBlock_c (v1 v2 v3 : Value) (m m' : Mch) (x : ByteArray) (id : Int) (place : Int) (w : World) (h : MRd w v1 v2 v3 m) (O0 : Hid (MOk 1800000000000 m)) (hn : I64 id) (hp : I64 place) (HE : Hid ((blockP id place).run m = (m', x))) :
 Calls prog 214 #[.agg #[v1, v2, v3], .int .i64 id, .int .i64 place] w (SRet v1 v2 v3 m m' (.string x) w) := by
 obtain ⟨a1, q1, a2, q2, a3, q3, rfl, rfl, rfl, Q0⟩ := h.start;clear h;go_enter func214, ntmps214;obtain ⟨m1, x1, HE1, O1⟩ := Pg.Cost.hop (lookP (blockK id place)) (lookP_cost _) O0;have sx1 := lookS_sz O0.out HE1.out;go_wp2_with fail;refine Q0.out.region [8] fun hS cr0 cr1 cr2 => ?_;refine pL 0 hS ?_;refine pU 1 hS ?_;refine pU 2 hS ?_;refine pV 3 hS (l07Block_c id place _ hn hp) fun _ hS => ?_;refine pM2 SQ.fr 4 hS (tLook_c _ _ _ _ _ _ (blockK id place) _ hS.rd (O0.out.mono (by omega)) HE1.out) fun _ _ _ _ _ _ w1 hS hmo F1 => ?_;refine pU 5 hS ?_;refine pU 6 hS ?_;refine pU 7 hS ?_;refine pS 8 ?_;refine pW 9 ?_;refine wpAnyY_done (by kernel_rfl) ?_ _;have Q1 := hid9 (hS.put hmo);clear hS hmo Q0 cr0 cr1 cr2;have EM := hid9 (block_run HE1.out);by_cases c1 : unhexOk x1 = true
 ·have C1 := hid9 c1;clear c1;have KU := hid9 (fun W => specUnhex_c x1 W (by unfold maxLen; omega));rw [C1.out] at KU;go_wp2_with fail;refine nxV SQ.fr Q1 (KU.out _) fun w2 Q2 F2 => ?_;clear F1 Q1;obtain ⟨rfl, rfl⟩ := leaf HE m1 (unhexV x1) (by simp only [pgz, ↓reduceIte, bz, HE1.out, EM.out, C1.out]);go_wp2;exact rt2 SQ.fr Q2 (by simp [results, results214, go_sem, noB, *])
 ·have C1 := hid9 (Bool.eq_false_iff.2 c1);clear c1;have KU := hid9 (fun W => specUnhex_c x1 W (by unfold maxLen; omega));rw [C1.out] at KU;have EV := hid9 (unhex_none C1.out);go_wp2_with fail;refine nxV SQ.fr Q1 (KU.out _) fun w2 Q2 F2 => ?_;clear F1 Q1;obtain ⟨rfl, rfl⟩ := leaf HE m1 (noB) (by simp only [pgz, ↓reduceIte, bz, HE1.out, EM.out, C1.out, EV.out]);go_wp2;exact rt2 SQ.fr Q2 (by simp [results, results214, go_sem, noB, *])
set_option maxRecDepth 100000 in
theorem tLayBlock_c (v1 v2 v3 : Value) (m m' : Mch) (x : Unit) (id : Int) (place : Int) (text : ByteArray) (w : World) (h : MRd w v1 v2 v3 m) (O0 : Hid (MOk 1800000000000 m)) (hn : I64 id) (hp : I64 place) (hst : text.size ≤ maxLen) (HE : Hid ((layP (blockK id place) (hexV text)).run m = (m', x))) :
 Calls prog 215 #[.agg #[v1, v2, v3], .int .i64 id, .int .i64 place, .string text] w (SRet1 v1 v2 v3 m m' w) := by
 obtain ⟨a1, q1, a2, q2, a3, q3, rfl, rfl, rfl, Q0⟩ := h.start;clear h;go_enter func215, ntmps215;go_wp2_with fail;refine nxV SQ.fr Q0 (specHex_c text _ hst) fun w1 Q1 F1 => ?_;clear Q0;obtain ⟨m1, u1, HE1, O1⟩ := Pg.Cost.hop (layP (blockK id place) (hexV text)) (layP_cost _ _) O0;go_wp2_with fail;refine Q1.out.region [6] fun hS cr0 cr1 cr2 => ?_;clear F1;refine pL 0 hS ?_;refine pU 1 hS ?_;refine pU 2 hS ?_;refine pU 4 hS ?_;refine pV 3 hS (l07Block_c id place _ hn hp) fun _ hS => ?_;refine pM1 SQ.fr 5 hS (tLay_c _ _ _ _ _ _ (blockK id place) (hexV text) _ hS.rd (O0.out.mono (by omega)) (Nat.le_trans (blockK_size hn hp) (by decide : (1000 : Nat) ≤ maxLen)) (by have := hexV_size text; unfold maxLen; omega) HE1.out) fun _ _ _ _ _ _ w2 hS hmo F2 => ?_;refine pS 6 ?_;refine wpAnyY_done (by kernel_rfl) ?_ _;have SE := hid9 (SQ.fr.finR hS hmo);clear hS hmo Q1 cr0 cr1 cr2;obtain ⟨rfl, -⟩ := leaf HE m1 (u1) (by simp only [pgz, ↓reduceIte, bz, HE1.out]);go_wp2;exact re1 SE (by simp [results, results215, go_sem, *])
theorem own_set {W : World} {base e K n : Nat} {v : Value} {ys : List Value} (h : W.ownsRow base e K v n ys) {b : Nat} (hb : b < base) (i : Nat) (x : Value) : (W.setCell ⟨b, i, none⟩ x).ownsRow base e K v n ys :=
 h.kept (grownBy_setCell W b i x) (by
  cases hv : v.ownBlock with
  | none => exact .inl rfl
  | some k => exact .inr (fun e => by cases e; have := (h.lt b hv).1; omega))
def SKeys (v1 v2 v3 : Value) (m m' : Mch) (ks : List ByteArray) (w : World) (e : Ending) (w' : World) : Prop :=
 ∃ u1 u2 u3 a c, e = .returned (.tuple #[.agg #[u1, u2, u3], .slice a ks.length c]) ∧ MOut w.heap.size w' v1 v2 v3 m u1 u2 u3 m' ∧ Below w.heap.size w w' ∧ w'.ownsRow w.heap.size 9 1 (.slice a ks.length c) ks.length (ks.flatMap encS)
set_option maxRecDepth 100000 in
theorem sUnder_c (v1 v2 v3 : Value) (m : Mch) (pre : ByteArray) (w : World) (h : MRd w v1 v2 v3 m) (ho : MOk 2000000000000 m) (hp : pre.size ≤ 1000) :
 Calls prog 191 #[.agg #[v1, v2, v3], .string pre] w (SKeys v1 v2 v3 m (lookM m (starK pre)) (keysU m.st pre) w) := by
 obtain ⟨a1, c1, hv1, R1, l1, L1⟩ := h.r1;obtain ⟨a2, c2, hv2, R2, l2, L2⟩ := h.r2;obtain ⟨a3, c3, hv3, R3, l3, L3⟩ := h.r3;subst hv1 hv2 hv3;have HR := hid9 h;have HR1 := hid9 R1;have HR2 := hid9 R2;have HR3 := hid9 R3;have B0 := hid9 ((Box.new w [.slice a1 m.st.length c1, .slice a2 m.rs.length c2, .slice a3 m.ws.length c3] 87).alloc (.cells #[.slice none 0 0, .slice none 0 0, .slice none 0 0] 87));have P0 := hid9 (show Box ((w.alloc (.cells #[.slice a1 m.st.length c1, .slice a2 m.rs.length c2, .slice a3 m.ws.length c3] 87)).alloc (.cells #[.slice none 0 0, .slice none 0 0, .slice none 0 0] 87)) (w.heap.size + 1) [.slice none 0 0, .slice none 0 0, .slice none 0 0] from by
  have h := Box.new (w.alloc (.cells #[.slice a1 m.st.length c1, .slice a2 m.rs.length c2, .slice a3 m.ws.length c3] 87)) [.slice none 0 0, .slice none 0 0, .slice none 0 0] 87;rw [show (w.alloc (.cells #[.slice a1 m.st.length c1, .slice a2 m.rs.length c2, .slice a3 m.ws.length c3] 87)).heap.size = w.heap.size + 1 by simp] at h;exact h)
 have hsz : (((w.alloc (.cells #[.slice a1 m.st.length c1, .slice a2 m.rs.length c2, .slice a3 m.ws.length c3] 87)).alloc (.cells #[.slice none 0 0, .slice none 0 0, .slice none 0 0] 87))).heap.size = w.heap.size + 2 := by simp
 have HS0 := hid9 (show SH w w.heap.size (w.heap.size + 2) (.slice a1 m.st.length c1) (.slice a2 m.rs.length c2) (.slice a3 m.ws.length c3) m (.slice a1 m.st.length c1) (.slice a2 m.rs.length c2) (.slice a3 m.ws.length c3) m ((w.alloc (.cells #[.slice a1 m.st.length c1, .slice a2 m.rs.length c2, .slice a3 m.ws.length c3] 87)).alloc (.cells #[.slice none 0 0, .slice none 0 0, .slice none 0 0] 87)) from ⟨B0.out, bel9, MOut.refl⟩);have KA := hid9 (specAddSpan_c a2 c2 m.rs (starK pre) ((w.alloc (.cells #[.slice a1 m.st.length c1, .slice a2 m.rs.length c2, .slice a3 m.ws.length c3] 87)).alloc (.cells #[.slice none 0 0, .slice none 0 0, .slice none 0 0] 87)) (by have := ho.l2; omega) (HR2.out.below bel9) l2 L2);have KG := hid9 (fun W (hb : Below w.heap.size w W) => specKeysUnder_c a1 c1 m.st pre W (by have := ho.l1; omega) (HR1.out.below hb) (fun x hx => by have := ho.sz x hx; unfold maxLen; omega) (by unfold maxLen; omega));have had : ∀ t, binOp .add t (.string pre) (.string ⟨#[42]⟩) = pure (.string (starK pre)) := fun t => by
  rw [binOp_string_add];unfold Op.stringOp;simp only;rw [if_neg]
  ·rfl
  ·show ¬ (((pre.size + 1 : Nat) : Int) > 9223372036854775807);omega
 clear h R1 R2 R3 ho;go_enter func191, ntmps191;go_wp2_with fail;refine KA.out.mono ?_;rintro e w1 ⟨u, rfl, ho2, hb1⟩;rw [hsz] at ho2;obtain ⟨au, ku, hvu, _⟩ := reads_of_owns encS_len ho2;subst hvu;have S1 := HS0.out.below hb1;have P1 := hid9 (P0.out.below hb1);have c1' := S1.x.cell 1 _ rfl;have z1 := S1.x.free 1;have hgs := grownBy_setCell w1 w.heap.size 1 (.slice au (addS m.rs (starK pre)).length ku);have hs1 : w.heap.size + 2 ≤ w1.heap.size := by rw [← hsz]; exact hb1.size
 have SX : SH w w.heap.size (w.heap.size + 2) (.slice a1 m.st.length c1) (.slice a2 m.rs.length c2) (.slice a3 m.ws.length c3) m (.slice a1 m.st.length c1) (.slice au (addS m.rs (starK pre)).length ku) (.slice a3 m.ws.length c3) (lookM m (starK pre)) (w1.setCell ⟨w.heap.size, 1, none⟩ (.slice au (addS m.rs (starK pre)).length ku)) := ⟨box_put S1.x 1 _, S1.bel.trans (below_of_grown hgs (Nat.le_refl _) S1.bel.size), ⟨.inl ⟨rfl, rfl⟩, (show Out (w.heap.size + 2) w1 9 1 encS (.slice a2 m.rs.length c2) m.rs (.slice au (addS m.rs (starK pre)).length ku) (addS m.rs (starK pre)) from .inr ho2).kept hgs (by omega), .inl ⟨rfl, rfl⟩⟩⟩;have HX := hid9 SX;have PX : Box (w1.setCell ⟨w.heap.size, 1, none⟩ (.slice au (addS m.rs (starK pre)).length ku)) (w.heap.size + 1) [.slice none 0 0, .slice none 0 0, .slice none 0 0] := ⟨Nat.lt_of_lt_of_le P1.out.1 hgs.size, P1.out.2.elim fun T hT => ⟨T, (hgs.block _ P1.out.1 (fun e => by have := Option.some.inj e; omega)).trans hT⟩⟩;have HPX := hid9 PX;clear ho2 hgs S1 KA HS0 B0 P0 PX hb1;have cr0 : ∀ W, SH w w.heap.size (w.heap.size + 2) (.slice a1 m.st.length c1) (.slice a2 m.rs.length c2) (.slice a3 m.ws.length c3) m (.slice a1 m.st.length c1) (.slice au (addS m.rs (starK pre)).length ku) (.slice a3 m.ws.length c3) (lookM m (starK pre)) W → W.cell? ⟨w.heap.size, 0, none⟩ = some (.slice a1 m.st.length c1) := fun W h => h.x.cell 0 _ rfl;have cr1 : ∀ W, SH w w.heap.size (w.heap.size + 2) (.slice a1 m.st.length c1) (.slice a2 m.rs.length c2) (.slice a3 m.ws.length c3) m (.slice a1 m.st.length c1) (.slice au (addS m.rs (starK pre)).length ku) (.slice a3 m.ws.length c3) (lookM m (starK pre)) W → W.cell? ⟨w.heap.size, 1, none⟩ = some (.slice au (addS m.rs (starK pre)).length ku) := fun W h => h.x.cell 1 _ rfl;have cr2 : ∀ W, SH w w.heap.size (w.heap.size + 2) (.slice a1 m.st.length c1) (.slice a2 m.rs.length c2) (.slice a3 m.ws.length c3) m (.slice a1 m.st.length c1) (.slice au (addS m.rs (starK pre)).length ku) (.slice a3 m.ws.length c3) (lookM m (starK pre)) W → W.cell? ⟨w.heap.size, 2, none⟩ = some (.slice a3 m.ws.length c3) := fun W h => h.x.cell 2 _ rfl;have HEND := hid9 (fun W ak ck (h : SH w w.heap.size (w.heap.size + 2) (.slice a1 m.st.length c1) (.slice a2 m.rs.length c2) (.slice a3 m.ws.length c3) m (.slice a1 m.st.length c1) (.slice au (addS m.rs (starK pre)).length ku) (.slice a3 m.ws.length c3) (lookM m (starK pre)) W) (hk : W.ownsRow (w.heap.size + 2) 9 1 (.slice ak (keysU m.st pre).length ck) (keysU m.st pre).length ((keysU m.st pre).flatMap encS)) => (show SKeys (.slice a1 m.st.length c1) (.slice a2 m.rs.length c2) (.slice a3 m.ws.length c3) m (lookM m (starK pre)) (keysU m.st pre) w (.returned (.tuple #[.agg #[.slice a1 m.st.length c1, .slice au (addS m.rs (starK pre)).length ku, .slice a3 m.ws.length c3], .slice ak (keysU m.st pre).length ck])) W from ⟨_, _, _, _, _, rfl, h.mo.base (by omega), h.bel, ownsRow_base hk (by omega)⟩));go_wp2_with fail;go_region_held3 (fun w' => SH w w.heap.size (w.heap.size + 2) (.slice a1 m.st.length c1) (.slice a2 m.rs.length c2) (.slice a3 m.ws.length c3) m (.slice a1 m.st.length c1) (.slice au (addS m.rs (starK pre)).length ku) (.slice a3 m.ws.length c3) (lookM m (starK pre)) w') (first | with_reducible assumption | with_reducible exact SH.below (by with_reducible assumption) (by with_reducible assumption) | ((repeat (first | with_reducible refine SH.drew ?_ | with_reducible refine SH.set ?_ (by omega) (by omega) (by omega) _ _)); with_reducible assumption)) (first | (go_at_call 221; refine (KG.out _ (SH.bel (by with_reducible assumption))).mono ?_; rintro e w3 ⟨vk, rfl, hok, hbk⟩; obtain ⟨ak, ck, hvk, _⟩ := reads_of_owns' encS_len hok; subst hvk; have HOK := hid9 hok; clear hok; have BR := Box.below (Box.drew HPX.out) hbk; have pc0 := BR.cell 0 _ rfl; have pc1 := BR.cell 1 _ rfl; have pc2 := BR.cell 2 _ rfl; have pf0 := BR.free 0; have pf1 := BR.free 1; have pf2 := BR.free 2));go_wp2
 exact bodyPost_ret (v := .tuple #[.agg #[.slice a1 m.st.length c1, .slice au (addS m.rs (starK pre)).length ku, .slice a3 m.ws.length c3], .slice ak (keysU m.st pre).length ck]) (by simp [results, results191, go_sem, *]) rfl (HEND.out _ _ _ (by with_reducible assumption) (by (repeat (with_reducible refine own_set ?_ (show w.heap.size + 1 < w.heap.size + 2 by omega) _ _)); exact ownsRow_base HOK.out (by simp; omega)))
theorem tUnder_c (v1 v2 v3 : Value) (m m' : Mch) (ks : List ByteArray) (pre : ByteArray) (w : World) (h : MRd w v1 v2 v3 m) (ho : MOk 1900000000000 m) (hp : pre.size ≤ 1000) (E : (underP pre).run m = (m', ks)) :
 Calls prog 191 #[.agg #[v1, v2, v3], .string pre] w (SKeys v1 v2 v3 m m' ks w) := by
 obtain ⟨e1, e2⟩ := Prod.mk.inj (show (lookM m (starK pre), keysU m.st pre) = (m', ks) from E);subst e1 e2;exact sUnder_c v1 v2 v3 m pre w h (ho.mono (by omega)) hp
structure SL (w : World) (v1 v2 v3 : Value) (m : Mch) (a : Option Addr) (c : Nat) (ks : List ByteArray) (u1 u2 u3 : Value) (k : Mch) (W : World) : Prop where
 q : SQ w v1 v2 v3 m u1 u2 u3 k W
 ks : W.ownsRow (w.heap.size + 2) 9 1 (.slice a ks.length c) ks.length (ks.flatMap encS)
section
variable {w W W' : World} {v1 v2 v3 u1 u2 u3 x1 x2 x3 : Value} {m k k2 : Mch} {B n n' c : Nat} {a : Option Addr} {ks : List ByteArray}
def SGotK (w : World) (v1 v2 v3 : Value) (m : Mch) (u1 u2 u3 : Value) (k k2 : Mch) (ks : List ByteArray) (W : World) (e : Ending) (w' : World) : Prop :=
 ∃ a1 c1 a2 c2 a3 c3 a c, e = .returned (.tuple #[.agg #[.slice a1 k2.st.length c1, .slice a2 k2.rs.length c2, .slice a3 k2.ws.length c3], .slice a ks.length c]) ∧ Below W.heap.size W w' ∧ SQ w v1 v2 v3 m u1 u2 u3 k w' ∧ MOut (w.heap.size + 2) w' u1 u2 u3 k (.slice a1 k2.st.length c1) (.slice a2 k2.rs.length c2) (.slice a3 k2.ws.length c3) k2 ∧
  w'.ownsRow (w.heap.size + 2) 9 1 (.slice a ks.length c) ks.length (ks.flatMap encS)
theorem SKeys.got {e : Ending} (q : SQ w v1 v2 v3 m u1 u2 u3 k W) (h : SKeys u1 u2 u3 k k2 ks W e W') : SGotK w v1 v2 v3 m u1 u2 u3 k k2 ks W e W' := by
 obtain ⟨y1, y2, y3, a, c, rfl, hmo, hb, hk⟩ := h;obtain ⟨a1, c1, a2, c2, a3, c3, rfl, rfl, rfl⟩ := hmo.openS q.rd hb;exact ⟨a1, c1, a2, c2, a3, c3, a, c, rfl, hb, q.below hb, hmo.base q.sz, ownsRow_base hk q.sz⟩
theorem own_set3 {base e K nn : Nat} {v : Value} {ys : List Value} (h : W.ownsRow base e K v nn ys) {b : Nat} (hb : b < base) (y1 y2 y3 : Value) : (((W.setCell ⟨b, 0, none⟩ y1).setCell ⟨b, 1, none⟩ y2).setCell ⟨b, 2, none⟩ y3).ownsRow base e K v nn ys := own_set (own_set (own_set h hb _ _) hb _ _) hb _ _
theorem SL.h (s : SL w v1 v2 v3 m a c ks u1 u2 u3 k W) : SH w w.heap.size (w.heap.size + 2) v1 v2 v3 m u1 u2 u3 k W := s.q.h
theorem SL.p (s : SL w v1 v2 v3 m a c ks u1 u2 u3 k W) : Box W (w.heap.size + 1) [.slice none 0 0, .slice none 0 0, .slice none 0 0] := s.q.p
theorem SL.rd (s : SL w v1 v2 v3 m a c ks u1 u2 u3 k W) : MRd W u1 u2 u3 k := s.q.rd
theorem SL.below (h : SL w v1 v2 v3 m a c ks u1 u2 u3 k W) (hb : Below W.heap.size W W') : SL w v1 v2 v3 m a c ks u1 u2 u3 k W' := ⟨h.q.below hb, ownsRow_below h.ks hb⟩
theorem SL.drew (h : SL w v1 v2 v3 m a c ks u1 u2 u3 k W) : SL w v1 v2 v3 m a c ks u1 u2 u3 k W.drew := h.below bel9
theorem SL.put (h : SL w v1 v2 v3 m a c ks u1 u2 u3 k W) (h2 : MOut (w.heap.size + 2) W u1 u2 u3 k x1 x2 x3 k2) : SL w v1 v2 v3 m a c ks x1 x2 x3 k2 (((W.setCell ⟨w.heap.size, 0, none⟩ x1).setCell ⟨w.heap.size, 1, none⟩ x2).setCell ⟨w.heap.size, 2, none⟩ x3) :=
 ⟨h.q.put h2, own_set3 h.ks (by omega) _ _ _⟩
theorem SL.first (q : SQ w v1 v2 v3 m u1 u2 u3 k W) (h2 : MOut (w.heap.size + 2) W u1 u2 u3 k x1 x2 x3 k2) (hk : W.ownsRow (w.heap.size + 2) 9 1 (.slice a ks.length c) ks.length (ks.flatMap encS)) : SL w v1 v2 v3 m a c ks x1 x2 x3 k2 (((W.setCell ⟨w.heap.size, 0, none⟩ x1).setCell ⟨w.heap.size, 1, none⟩ x2).setCell ⟨w.heap.size, 2, none⟩ x3) :=
 ⟨q.put h2, own_set3 hk (by omega) _ _ _⟩
theorem SL.keys (h : SL w v1 v2 v3 m a c ks u1 u2 u3 k W) : Reads W a 1 encS ks := by
 obtain ⟨a', c', e, r⟩ := reads_of_owns encS_len h.ks;cases e;exact r
theorem SL.at_ {i : Nat} {y : ByteArray} (h : SL w v1 v2 v3 m a c ks u1 u2 u3 k W) (hy : ks[i]? = some y) : ∃ b off, a = some ⟨b, off, none⟩ := by
 obtain ⟨b, off, hab, _⟩ := readFS h.keys (Below.refl _ _) hy;exact ⟨b, off, hab⟩
theorem SL.cell {i b off : Nat} {y : ByteArray} (h : SL w v1 v2 v3 m (some ⟨b, off, none⟩) c ks u1 u2 u3 k W) (hy : ks[i]? = some y) : W.cell? ⟨b, off + i, none⟩ = some (.string y) := by
 obtain ⟨b2, off2, hab, h2⟩ := readFS h.keys (Below.refl _ _) hy;cases hab;exact h2
end
theorem wipeP_eq (p : ByteArray) : wipeP p = (underP p >>= layAll) := rfl
theorem layAll_cons (k : ByteArray) (ks : List ByteArray) : layAll (k :: ks) = (layP k noB >>= fun _ => layAll ks) := rfl
theorem forkP_eq (a b : Int) : forkP a b = (underP (pagesK a) >>= forkL (pagesK a) (pagesK b)) := rfl
theorem forkL_cons (a b k : ByteArray) (ks : List ByteArray) : forkL a b (k :: ks) = (lookP k >>= fun v => layP (b ++ k.extract a.size k.size) v >>= fun _ => forkL a b ks) := rfl
theorem tBrought_c (n l m q : Int) (h : broughtV n l m = q) (W : World) : Calls prog 216 #[.int .i64 n, .int .i64 l, .int .i64 m] W fun e w' => e = .returned (.int .i64 q) ∧ Below W.heap.size W w' := by
 rw [← h];exact (specBrought_c n l m W).mono fun e w' h => ⟨h.1, h.2 ▸ Below.refl _ _⟩
set_option maxRecDepth 100000 in
theorem tCut_c (v1 v2 v3 : Value) (m m' : Mch) (x : Int) (id : Int) (n : Int) (w : World) (h : MRd w v1 v2 v3 m) (O0 : Hid (MOk 1500000000000 m)) (hn : I64 id) (HE : Hid ((cutP id n).run m = (m', x))) :
 Calls prog 182 #[.agg #[v1, v2, v3], .int .i64 id, .int .i64 n] w (SRet v1 v2 v3 m m' (.int .i64 x) w) := by
 obtain ⟨a1, q1, a2, q2, a3, q3, rfl, rfl, rfl, Q0⟩ := h.start;clear h;go_enter func182, ntmps182;have hfu := fuelN_is;obtain ⟨m1, x1, HE1, O1⟩ := Pg.Cost.hop (numP (sizeK id)) (numP_cost _) O0;have bx1 := numP_bounds HE1.out;go_wp2_with (first | (go_at_call 70; refine (KW.out _).mono ?_; rintro e w' ⟨rfl, rfl⟩) | fail);refine nx2 SQ.fr Q0 (tSizeFile_c _ _ _ _ _ _ id _ Q0.out.rd (O0.out.mono (by omega)) hn HE1.out) fun _ _ _ _ _ _ w1 Q1 F1 => ?_;clear Q0;by_cases c1 : inB n 0 x1 = true
 ·have C1 := hid9 c1;clear c1;have hb := inB_iff.1 C1.out;have hpd : I64 (n / 8) := ⟨by omega, by omega⟩;have hwd : IntKind.i64.wrap (n.tdiv 8) = n / 8 := by rw [IntKind.wrap_i64, Int.tdiv_eq_ediv_of_nonneg (by omega)]; omega
  have hwm : IntKind.i64.wrap (n.tmod 8) = n % 8 := by rw [IntKind.wrap_i64, Int.tmod_eq_emod_of_nonneg (by omega)]; omega
  have KW := hid9 (fun W => l01In_c n 0 x1 W);rw [C1.out] at KW;by_cases c2 : 0 < n % 8
  ·have c8 : 0 < n.tmod 8 := by have := c2; rw [Int.tmod_eq_emod_of_nonneg (by omega)]; omega
   have hwd1 : IntKind.i64.wrap (n / 8 + 1) = n / 8 + 1 := by rw [IntKind.wrap_i64]; omega
   obtain ⟨m2, x2, HE2, O2⟩ := Pg.Cost.hop (blockP id (n / 8)) (blockP_cost _ _) O1;have sx2 := block_sz O1.out HE2.out;go_wp2_with (first | (go_at_call 70; refine (KW.out _).mono ?_; rintro e w' ⟨rfl, rfl⟩) | fail);refine nx2 SQ.fr Q1 (tBlock_c _ _ _ _ _ _ id (n / 8) _ Q1.out.rd (O1.out.mono (by omega)) hn (hpd) HE2.out) fun _ _ _ _ _ _ w2 Q2 F2 => ?_;clear F1 Q1;obtain ⟨qv, hqv⟩ : ∃ qv : Int, min (n % 8) (x2.size : Int) = qv := ⟨_, rfl⟩;have hq0 : 0 ≤ qv := by omega
   have hq1 : qv ≤ (x2.size : Int) := by omega
   have KB := hid9 (tBrought_c (n.tmod 8) 0 (x2.size : Int) qv (by rw [Int.tmod_eq_emod_of_nonneg (by omega)]; unfold broughtV; omega));have HQV := hid9 (hqv);clear hqv;obtain ⟨m3, u3, HE3, O3⟩ := Pg.Cost.hop (layP (blockK id (n / 8)) (hexV (x2.extract 0 qv.toNat))) (layP_cost _ _) O2;go_wp2_with fail;refine Q2.out.region [11] fun hS cr0 cr1 cr2 => ?_;clear F2;refine pL 0 hS ?_;refine pU 1 hS ?_;refine pU 2 hS ?_;refine pU 3 hS ?_;refine pU 4 hS ?_;refine pU 5 hS ?_;refine pU 6 hS ?_;refine pU 7 hS ?_;refine pV 8 hS (KB.out _) fun _ hS => ?_;refine pU 9 hS ?_;refine pM1 SQ.fr 10 hS (tLayBlock_c _ _ _ _ _ _ id (n / 8) (x2.extract 0 qv.toNat) _ hS.rd (O2.out.mono (by omega)) hn (hpd) (by rw [ByteArray.size_extract]; unfold maxLen; omega) HE3.out) fun _ _ _ _ _ _ w3 hS hmo F3 => ?_;refine pS 11 ?_;refine wpAnyY_done (by kernel_rfl) ?_ _;have Q3 := hid9 (hS.put hmo);clear hS hmo Q2 cr0 cr1 cr2;obtain ⟨m4, u4, HE4, O4⟩ := Pg.Cost.hop (cutL id x1 fuelN (n / 8 + 1)) (cutL_cost _ _ _ _) O3;go_wp2_with fail;go_loopw [9] (fun vp wr => ∃ p : Int, ∃ f : Nat, vp = .int .i64 p ∧ Hid (∃ y1 d1 y2 d2 y3 d3 mk, SQ w (.slice a1 m.st.length q1) (.slice a2 m.rs.length q2) (.slice a3 m.ws.length q3) m (.slice y1 mk.st.length d1) (.slice y2 mk.rs.length d2) (.slice y3 mk.ws.length d3) mk wr ∧ MOk (1600000000000 + p.toNat) mk ∧ (0 ≤ p ∧ p ≤ 1000 ∧ x1 ≤ (p + f) * 8) ∧ (cutL id x1 f p).run mk = (m4, u4))) (fun i _ => (1001 - intOf i).toNat)
   case atStart => exact ⟨(n / 8 + 1), fuelN, rfl, hid9 ⟨_, _, _, _, _, _, _, Q3.out, O3.out.mono (by omega), ⟨by omega, by omega, by omega⟩, HE4.out⟩⟩
   case round =>
    obtain ⟨p, f, rfl, HI⟩ := hrel;obtain ⟨y1, d1, y2, d2, y3, d3, mk, hl, ho, hinv, hr⟩ := HI.out;obtain ⟨hp0, hp1, hp2⟩ := hinv;have Qh := hid9 hl;have O44 := hid9 ho;have HR := hid9 hr;clear HI hl ho hr Q3 F3;by_cases hc : p * 8 < x1
    ·obtain ⟨g, rfl⟩ : ∃ g, f = g + 1 := ⟨f - 1, by omega⟩;have hwp : IntKind.i64.wrap (p * 8) = p * 8 := by rw [IntKind.wrap_i64]; omega
     have hwp1 : IntKind.i64.wrap (p + 1) = p + 1 := by rw [IntKind.wrap_i64]; omega
     have hpi : I64 p := ⟨by omega, by omega⟩;have hr := HR.out;rw [cutL_yes hc] at hr;have HRs := hid9 hr;clear hr HR;have F := Qh.out.fx;obtain ⟨m45, u45, HE45, O45⟩ := Pg.Cost.hop (layP (blockK id p) (noB)) (layP_cost _ _) O44;go_wp2_with fail;refine Qh.out.region [5] fun hS cr0 cr1 cr2 => ?_;clear F;refine pL 0 hS ?_;refine pU 1 hS ?_;refine pU 2 hS ?_;refine pV 3 hS (l07Block_c id p _ hn hpi) fun _ hS => ?_;refine pM1 SQ.fr 4 hS (tLay_c _ _ _ _ _ _ (blockK id p) (noB) _ hS.rd (O44.out.mono (by omega)) (Nat.le_trans (blockK_size hn hpi) (by decide)) (by decide) HE45.out) fun xr1_1 kr1_1 xr1_2 kr1_2 xr1_3 kr1_3 wr1 hS hmo Fr1 => ?_;refine pS 5 ?_;refine wpAnyY_done (by kernel_rfl) ?_ _;have Qr1 := hid9 (hS.put hmo);clear hS hmo Qh cr0 cr1 cr2;have h := HRs.out;simp only [pgz, ↓reduceIte, bz, HE45.out] at h;have HR2 := hid9 h;clear h HRs;go_wp2_with fail;go_roundw
     case rel => exact ⟨(p + 1), g, (by first | rfl | go_num), hid9 ⟨_, _, _, _, _, _, _, Qr1.out, O45.out.mono (by omega), ⟨by omega, by omega, by omega⟩, HR2.out⟩⟩
     case measure => simp [intOf]; omega
    ·have hwp : IntKind.i64.wrap (p * 8) = p * 8 := by rw [IntKind.wrap_i64]; omega
     have hr := HR.out;rw [cutL_end hc] at hr;obtain ⟨e1, _⟩ := Prod.mk.inj (show (m4, u4) = (mk, ()) from hr.symm);subst e1;clear HR;have F := Qh.out.fx;obtain ⟨m5, u5, HE5, O5⟩ := Pg.Cost.hop (setP (sizeK id) (n)) (setP_cost _ _) O4;go_wp2_with fail;refine Qh.out.region [5] fun hS cr0 cr1 cr2 => ?_;clear F;refine pL 0 hS ?_;refine pU 1 hS ?_;refine pU 3 hS ?_;refine pV 2 hS (tSizeKey_c id _ hn) fun _ hS => ?_;refine pM1 SQ.fr 4 hS (tSet_c _ _ _ _ _ _ (sizeK id) (n) _ hS.rd (O4.out.mono (by omega)) (Nat.le_trans (sizeK_size hn) (by decide : (1000 : Nat) ≤ maxLen)) HE5.out) fun xt1_1 kt1_1 xt1_2 kt1_2 xt1_3 kt1_3 wt1 hS hmo Ft1 => ?_;refine pS 5 ?_;refine pW 6 ?_;refine wpAnyY_done (by kernel_rfl) ?_ _;have SE := hid9 (SQ.fr.finR hS hmo);clear hS hmo Qh cr0 cr1 cr2;obtain ⟨rfl, rfl⟩ := leaf HE m5 (0) (by rw [cutP_eq]; simp only [pgz, ↓reduceIte, bz, HE1.out, C1.out, (show 0 < n % 8 from by first | exact c2 | omega | simpa using c2), HE2.out, HQV.out, HE3.out, HE4.out, HE5.out]);go_wp2_with fail;exact re2 SE (by simp [results, results182, go_sem, *])
  ·have c8 : ¬ 0 < n.tmod 8 := by have := c2; rw [Int.tmod_eq_emod_of_nonneg (by omega)]; omega
   obtain ⟨m2, u2, HE2, O2⟩ := Pg.Cost.hop (cutL id x1 fuelN (n / 8)) (cutL_cost _ _ _ _) O1;go_wp2_with (first | (go_at_call 70; refine (KW.out _).mono ?_; rintro e w' ⟨rfl, rfl⟩) | fail);go_loopw [9] (fun vp wr => ∃ p : Int, ∃ f : Nat, vp = .int .i64 p ∧ Hid (∃ y1 d1 y2 d2 y3 d3 mk, SQ w (.slice a1 m.st.length q1) (.slice a2 m.rs.length q2) (.slice a3 m.ws.length q3) m (.slice y1 mk.st.length d1) (.slice y2 mk.rs.length d2) (.slice y3 mk.ws.length d3) mk wr ∧ MOk (1600000000000 + p.toNat) mk ∧ (0 ≤ p ∧ p ≤ 1000 ∧ x1 ≤ (p + f) * 8) ∧ (cutL id x1 f p).run mk = (m2, u2))) (fun i _ => (1001 - intOf i).toNat)
   case atStart => exact ⟨(n / 8), fuelN, rfl, hid9 ⟨_, _, _, _, _, _, _, Q1.out, O1.out.mono (by omega), ⟨by omega, by omega, by omega⟩, HE2.out⟩⟩
   case round =>
    obtain ⟨p, f, rfl, HI⟩ := hrel;obtain ⟨y1, d1, y2, d2, y3, d3, mk, hl, ho, hinv, hr⟩ := HI.out;obtain ⟨hp0, hp1, hp2⟩ := hinv;have Qh := hid9 hl;have O42 := hid9 ho;have HR := hid9 hr;clear HI hl ho hr Q1 F1;by_cases hc : p * 8 < x1
    ·obtain ⟨g, rfl⟩ : ∃ g, f = g + 1 := ⟨f - 1, by omega⟩;have hwp : IntKind.i64.wrap (p * 8) = p * 8 := by rw [IntKind.wrap_i64]; omega
     have hwp1 : IntKind.i64.wrap (p + 1) = p + 1 := by rw [IntKind.wrap_i64]; omega
     have hpi : I64 p := ⟨by omega, by omega⟩;have hr := HR.out;rw [cutL_yes hc] at hr;have HRs := hid9 hr;clear hr HR;have F := Qh.out.fx;obtain ⟨m43, u43, HE43, O43⟩ := Pg.Cost.hop (layP (blockK id p) (noB)) (layP_cost _ _) O42;go_wp2_with fail;refine Qh.out.region [5] fun hS cr0 cr1 cr2 => ?_;clear F;refine pL 0 hS ?_;refine pU 1 hS ?_;refine pU 2 hS ?_;refine pV 3 hS (l07Block_c id p _ hn hpi) fun _ hS => ?_;refine pM1 SQ.fr 4 hS (tLay_c _ _ _ _ _ _ (blockK id p) (noB) _ hS.rd (O42.out.mono (by omega)) (Nat.le_trans (blockK_size hn hpi) (by decide)) (by decide) HE43.out) fun xr1_1 kr1_1 xr1_2 kr1_2 xr1_3 kr1_3 wr1 hS hmo Fr1 => ?_;refine pS 5 ?_;refine wpAnyY_done (by kernel_rfl) ?_ _;have Qr1 := hid9 (hS.put hmo);clear hS hmo Qh cr0 cr1 cr2;have h := HRs.out;simp only [pgz, ↓reduceIte, bz, HE43.out] at h;have HR2 := hid9 h;clear h HRs;go_wp2_with fail;go_roundw
     case rel => exact ⟨(p + 1), g, (by first | rfl | go_num), hid9 ⟨_, _, _, _, _, _, _, Qr1.out, O43.out.mono (by omega), ⟨by omega, by omega, by omega⟩, HR2.out⟩⟩
     case measure => simp [intOf]; omega
    ·have hwp : IntKind.i64.wrap (p * 8) = p * 8 := by rw [IntKind.wrap_i64]; omega
     have hr := HR.out;rw [cutL_end hc] at hr;obtain ⟨e1, _⟩ := Prod.mk.inj (show (m2, u2) = (mk, ()) from hr.symm);subst e1;clear HR;have F := Qh.out.fx;obtain ⟨m3, u3, HE3, O3⟩ := Pg.Cost.hop (setP (sizeK id) (n)) (setP_cost _ _) O2;go_wp2_with fail;refine Qh.out.region [5] fun hS cr0 cr1 cr2 => ?_;clear F;refine pL 0 hS ?_;refine pU 1 hS ?_;refine pU 3 hS ?_;refine pV 2 hS (tSizeKey_c id _ hn) fun _ hS => ?_;refine pM1 SQ.fr 4 hS (tSet_c _ _ _ _ _ _ (sizeK id) (n) _ hS.rd (O2.out.mono (by omega)) (Nat.le_trans (sizeK_size hn) (by decide : (1000 : Nat) ≤ maxLen)) HE3.out) fun xt1_1 kt1_1 xt1_2 kt1_2 xt1_3 kt1_3 wt1 hS hmo Ft1 => ?_;refine pS 5 ?_;refine pW 6 ?_;refine wpAnyY_done (by kernel_rfl) ?_ _;have SE := hid9 (SQ.fr.finR hS hmo);clear hS hmo Qh cr0 cr1 cr2;obtain ⟨rfl, rfl⟩ := leaf HE m3 (0) (by rw [cutP_eq]; simp only [pgz, ↓reduceIte, bz, HE1.out, C1.out, (show ¬ (0 < n % 8) from by first | exact c2 | omega | simpa using c2), HE2.out, HE3.out]);go_wp2_with fail;exact re2 SE (by simp [results, results182, go_sem, *])
 ·have C1 := hid9 (Bool.eq_false_iff.2 c1);clear c1;have KW := hid9 (fun W => l01In_c n 0 x1 W);rw [C1.out] at KW;obtain ⟨rfl, rfl⟩ := leaf HE m1 (4) (by rw [cutP_eq]; simp only [pgz, ↓reduceIte, bz, HE1.out, C1.out]);go_wp2_with (first | (go_at_call 70; refine (KW.out _).mono ?_; rintro e w' ⟨rfl, rfl⟩) | fail);exact rt2 SQ.fr Q1 (by simp [results, results182, go_sem, *])
end
end Go.Proofs.YtihghflppegnmaaGreatDoor
