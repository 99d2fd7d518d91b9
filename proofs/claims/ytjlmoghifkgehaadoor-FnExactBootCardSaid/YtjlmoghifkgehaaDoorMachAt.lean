/- A machine that a pointer names: its three rows are its own; what a method of it may touch. No conditions. -/
import Derived.Test.YtjlmoghifkgehaaDoorAddSpan
import Derived.Test.YtjlmoghifkgehaaDoorPutKey
namespace Go.Proofs.YtjlmoghifkgehaaDoor
open Go.ChangeShapes Go.WideShapes Go.ChangeAt Go.RowKit
/-- A machine: the store, the spans read, the spans written. -/
structure Mch where
  st : List (ByteArray × ByteArray)
  rs : List ByteArray
  ws : List ByteArray
/-- The machine m lies in block p; its rows are own rows, apart from each other. -/
structure MAt (w : World) (p base : Nat) (v1 v2 v3 : Value) (m : Mch) : Prop where
  box : Box w p [v1, v2, v3]
  o1 : w.ownsRow base 39 2 v1 m.st.length (m.st.flatMap encC)
  o2 : w.ownsRow base 9 1 v2 m.rs.length (m.rs.flatMap encS)
  o3 : w.ownsRow base 9 1 v3 m.ws.length (m.ws.flatMap encS)
  n1 : v1.ownBlock ≠ some p
  n2 : v2.ownBlock ≠ some p
  n3 : v3.ownBlock ≠ some p
  d12 : ∀ k, v1.ownBlock = some k → v2.ownBlock ≠ some k
  d13 : ∀ k, v1.ownBlock = some k → v3.ownBlock ≠ some k
  d23 : ∀ k, v2.ownBlock = some k → v3.ownBlock ≠ some k
  hp : base ≤ p
  hb : base ≤ w.heap.size
/-- Nothing that stood is touched but block p and the three rows. -/
structure Grow3 (w w' : World) (p : Nat) (v1 v2 v3 : Value) : Prop where
  os : w'.os = w.os
  tape : w'.tape = w.tape
  output : w'.output = w.output
  size : w.heap.size ≤ w'.heap.size
  block : ∀ k, k < w.heap.size → k ≠ p → v1.ownBlock ≠ some k → v2.ownBlock ≠ some k → v3.ownBlock ≠ some k → w'.heap[k]? = w.heap[k]?
theorem Grow3.of_below {w w' : World} {p : Nat} {v1 v2 v3 : Value} (hb : Below w.heap.size w w') : Grow3 w w' p v1 v2 v3 :=
  ⟨hb.os, hb.tape, hb.output, hb.size, fun k hk _ _ _ _ => hb.block k hk⟩
theorem OwnOr.ne {w : World} {v u : Value} (h : OwnOr w v u) {k : Nat} (hk : k < w.heap.size) (hv : v.ownBlock ≠ some k) : u.ownBlock ≠ some k := fun e => by
  rcases h with h | h
  · exact hv (h ▸ e)
  · have := h k e; omega
theorem OwnOr.trans {w W : World} {v u u' : Value} (h : OwnOr w v u) (h2 : OwnOr W u u') (hs : w.heap.size ≤ W.heap.size) : OwnOr w v u' := by
  rcases h2 with h2 | h2
  · rcases h with h | h
    · exact .inl (h2.trans h)
    · exact .inr (fun k hk => h k (h2 ▸ hk))
  · exact .inr (fun k hk => Nat.le_trans hs (h2 k hk))
theorem Grow3.trans {w W w' : World} {p : Nat} {v1 v2 v3 u1 u2 u3 : Value} (h : Grow3 w W p v1 v2 v3) (r1 : OwnOr w v1 u1) (r2 : OwnOr w v2 u2) (r3 : OwnOr w v3 u3) (h2 : Grow3 W w' p u1 u2 u3) : Grow3 w w' p v1 v2 v3 :=
  ⟨h2.os.trans h.os, h2.tape.trans h.tape, h2.output.trans h.output, Nat.le_trans h.size h2.size, fun k hk hne h1 h2' h3 =>
    (h2.block k (Nat.lt_of_lt_of_le hk h.size) hne (r1.ne hk h1) (r2.ne hk h2') (r3.ne hk h3)).trans (h.block k hk hne h1 h2' h3)⟩
theorem MAt.below {w w' : World} {p base : Nat} {v1 v2 v3 : Value} {m : Mch} (h : MAt w p base v1 v2 v3 m) (hb : Below w.heap.size w w') : MAt w' p base v1 v2 v3 m :=
  ⟨h.box.below hb, ownsRow_below h.o1 hb, ownsRow_below h.o2 hb, ownsRow_below h.o3 hb, h.n1, h.n2, h.n3, h.d12, h.d13, h.d23, h.hp, Nat.le_trans h.hb hb.size⟩
theorem box_put {w : World} {b : Nat} {xs : List Value} (h : Box w b xs) (i : Nat) (v : Value) : Box (w.setCell ⟨b, i, none⟩ v) b (xs.set i v) := by
  obtain ⟨h1, T, h2⟩ := h
  refine ⟨by simpa [World.setCell] using h1, T, ?_⟩
  have := heap_setCell_same w b i xs.toArray T v h2
  simpa using this
theorem ne_or {v u : Value} (h : ∀ k, v.ownBlock = some k → u.ownBlock ≠ some k) : v.ownBlock = none ∨ v.ownBlock ≠ u.ownBlock := by
  cases hv : v.ownBlock with
  | none => exact .inl rfl
  | some k => exact .inr (fun e => h k hv e.symm)
/-- What a method of the machine does: the machine steps to m', r is returned. -/
def MStep (p base : Nat) (v1 v2 v3 : Value) (m' : Mch) (r : Value) (w : World) (e : Ending) (w' : World) : Prop :=
  ∃ u1 u2 u3, e = .returned r ∧ MAt w' p base u1 u2 u3 m' ∧ Grow3 w w' p v1 v2 v3 ∧ OwnOr w v1 u1 ∧ OwnOr w v2 u2 ∧ OwnOr w v3 u3
theorem MStep.next {p base : Nat} {v1 v2 v3 u1 u2 u3 : Value} {m' : Mch} {r : Value} {w W w' : World} {e : Ending} (h : Grow3 w W p v1 v2 v3) (r1 : OwnOr w v1 u1) (r2 : OwnOr w v2 u2) (r3 : OwnOr w v3 u3) (h2 : MStep p base u1 u2 u3 m' r W e w') : MStep p base v1 v2 v3 m' r w e w' := by
  obtain ⟨x1, x2, x3, h3, h4, h5, q1, q2, q3⟩ := h2
  exact ⟨x1, x2, x3, h3, h4, h.trans r1 r2 r3 h5, r1.trans q1 h.size, r2.trans q2 h.size, r3.trans q3 h.size⟩
theorem MAt.step {w w' : World} {p base : Nat} {v1 v2 v3 : Value} {m : Mch} (h : MAt w p base v1 v2 v3 m) (hb : Below w.heap.size w w') (r : Value) : MStep p base v1 v2 v3 m r w (.returned r) w' :=
  ⟨v1, v2, v3, rfl, h.below hb, Grow3.of_below hb, .inl rfl, .inl rfl, .inl rfl⟩
theorem MAt.set1 {w W : World} {p base : Nat} {v1 v2 v3 u : Value} {m : Mch} {xs : List (ByteArray × ByteArray)} (h : MAt w p base v1 v2 v3 m) (ho : W.ownsRow base 39 2 u xs.length (xs.flatMap encC)) (hg : w.grownBy W v1.ownBlock) (hor : OwnOr w v1 u) :
    MAt (W.setCell ⟨p, 0, none⟩ u) p base u v2 v3 ⟨xs, m.rs, m.ws⟩ ∧ Grow3 w (W.setCell ⟨p, 0, none⟩ u) p v1 v2 v3 ∧ Box W p [v1, v2, v3] := by
  have gs : W.grownBy (W.setCell ⟨p, 0, none⟩ u) (some p) := grownBy_setCell W p 0 u
  have bW : Box W p [v1, v2, v3] := ⟨Nat.lt_of_lt_of_le h.box.1 hg.size, h.box.2.elim fun T hT => ⟨T, (hg.block p h.box.1 (fun e => h.n1 e.symm)).trans hT⟩⟩
  have nu : u.ownBlock ≠ some p := hor.ne h.box.1 h.n1
  refine ⟨⟨box_put bW 0 u, ho.kept gs (.inr nu), (h.o2.kept hg (ne_or (fun k hk e => h.d12 k e hk))).kept gs (.inr h.n2), (h.o3.kept hg (ne_or (fun k hk e => h.d13 k e hk))).kept gs (.inr h.n3), nu, h.n2, h.n3, (fun k hk e => (hor.ne (h.o2.lt k e).2 ((fun k hk e => h.d12 k e hk) k e)) hk), (fun k hk e => (hor.ne (h.o3.lt k e).2 ((fun k hk e => h.d13 k e hk) k e)) hk), h.d23, h.hp, Nat.le_trans h.hb (Nat.le_trans hg.size gs.size)⟩, ⟨gs.os.trans hg.os, gs.tape.trans hg.tape, gs.output.trans hg.output, Nat.le_trans hg.size gs.size, fun k hk hne h1 h2 h3 => ?_⟩, bW⟩
  exact (gs.block k (Nat.lt_of_lt_of_le hk hg.size) (fun e => by cases e; exact hne rfl)).trans (hg.block k hk (fun e => h1 e.symm))
theorem MAt.set2 {w W : World} {p base : Nat} {v1 v2 v3 u : Value} {m : Mch} {xs : List ByteArray} (h : MAt w p base v1 v2 v3 m) (ho : W.ownsRow base 9 1 u xs.length (xs.flatMap encS)) (hg : w.grownBy W v2.ownBlock) (hor : OwnOr w v2 u) :
    MAt (W.setCell ⟨p, 1, none⟩ u) p base v1 u v3 ⟨m.st, xs, m.ws⟩ ∧ Grow3 w (W.setCell ⟨p, 1, none⟩ u) p v1 v2 v3 ∧ Box W p [v1, v2, v3] := by
  have gs : W.grownBy (W.setCell ⟨p, 1, none⟩ u) (some p) := grownBy_setCell W p 1 u
  have bW : Box W p [v1, v2, v3] := ⟨Nat.lt_of_lt_of_le h.box.1 hg.size, h.box.2.elim fun T hT => ⟨T, (hg.block p h.box.1 (fun e => h.n2 e.symm)).trans hT⟩⟩
  have nu : u.ownBlock ≠ some p := hor.ne h.box.1 h.n2
  refine ⟨⟨box_put bW 1 u, (h.o1.kept hg (ne_or h.d12)).kept gs (.inr h.n1), ho.kept gs (.inr nu), (h.o3.kept hg (ne_or (fun k hk e => h.d23 k e hk))).kept gs (.inr h.n3), h.n1, nu, h.n3, (fun k hk => hor.ne (h.o1.lt k hk).2 (h.d12 k hk)), h.d13, (fun k hk e => (hor.ne (h.o3.lt k e).2 ((fun k hk e => h.d23 k e hk) k e)) hk), h.hp, Nat.le_trans h.hb (Nat.le_trans hg.size gs.size)⟩, ⟨gs.os.trans hg.os, gs.tape.trans hg.tape, gs.output.trans hg.output, Nat.le_trans hg.size gs.size, fun k hk hne h1 h2 h3 => ?_⟩, bW⟩
  exact (gs.block k (Nat.lt_of_lt_of_le hk hg.size) (fun e => by cases e; exact hne rfl)).trans (hg.block k hk (fun e => h2 e.symm))
theorem MAt.set3 {w W : World} {p base : Nat} {v1 v2 v3 u : Value} {m : Mch} {xs : List ByteArray} (h : MAt w p base v1 v2 v3 m) (ho : W.ownsRow base 9 1 u xs.length (xs.flatMap encS)) (hg : w.grownBy W v3.ownBlock) (hor : OwnOr w v3 u) :
    MAt (W.setCell ⟨p, 2, none⟩ u) p base v1 v2 u ⟨m.st, m.rs, xs⟩ ∧ Grow3 w (W.setCell ⟨p, 2, none⟩ u) p v1 v2 v3 ∧ Box W p [v1, v2, v3] := by
  have gs : W.grownBy (W.setCell ⟨p, 2, none⟩ u) (some p) := grownBy_setCell W p 2 u
  have bW : Box W p [v1, v2, v3] := ⟨Nat.lt_of_lt_of_le h.box.1 hg.size, h.box.2.elim fun T hT => ⟨T, (hg.block p h.box.1 (fun e => h.n3 e.symm)).trans hT⟩⟩
  have nu : u.ownBlock ≠ some p := hor.ne h.box.1 h.n3
  refine ⟨⟨box_put bW 2 u, (h.o1.kept hg (ne_or h.d13)).kept gs (.inr h.n1), (h.o2.kept hg (ne_or h.d23)).kept gs (.inr h.n2), ho.kept gs (.inr nu), h.n1, h.n2, nu, h.d12, (fun k hk => hor.ne (h.o1.lt k hk).2 (h.d13 k hk)), (fun k hk => hor.ne (h.o2.lt k hk).2 (h.d23 k hk)), h.hp, Nat.le_trans h.hb (Nat.le_trans hg.size gs.size)⟩, ⟨gs.os.trans hg.os, gs.tape.trans hg.tape, gs.output.trans hg.output, Nat.le_trans hg.size gs.size, fun k hk hne h1 h2 h3 => ?_⟩, bW⟩
  exact (gs.block k (Nat.lt_of_lt_of_le hk hg.size) (fun e => by cases e; exact hne rfl)).trans (hg.block k hk (fun e => h3 e.symm))
end Go.Proofs.YtjlmoghifkgehaaDoor
