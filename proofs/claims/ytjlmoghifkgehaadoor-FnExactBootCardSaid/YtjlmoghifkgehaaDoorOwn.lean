/- Slices that a call makes and fills: a row being filled ('Filling'), several stores in a row ('sets'), what an owned row reads as. Of no program. -/
import Derived.Test.YtjlmoghifkgehaaDoorSame
namespace Go.Proofs.YtjlmoghifkgehaaDoor
open Go.RowKit

/-- Several stores in a row. -/
def sets (w : World) (b : Nat) : Nat → List Value → World
  | _, [] => w
  | o, v :: vs => sets (w.setCell ⟨b, o, none⟩ v) b (o + 1) vs
/-- A call returned a slice of n elements in memory of its own that holds the cells, and wrote nothing that was there. -/
def Fresh (T K : Nat) (cells : List Value) (n : Nat) (w : World) (e : Ending) (w' : World) : Prop :=
  ∃ v, e = .returned v ∧ w'.ownsRow w.heap.size T K v n cells ∧ Below w.heap.size w w'
theorem make_eq {P : Program} (t e K bytes : Nat) (z : Value) (ht : P.underlying t = some (.slice e)) (hinfo : (P.info? e).map (fun i => (i.zero, i.size, i.bytes)) = some (some z, K, bytes))
    (n : Nat) (hb : bytes * n ≤ 281474976710656) (h63 : n ≤ 9223372036854775807) (w : World) :
    (Instr.makeSlice t (.int .i64 (n : Int)) (.int .i64 (n : Int))).run P w = .ok (.slice (some ⟨w.heap.size, 0, none⟩) n n) (w.alloc (.cells (madeCells z.cells (n * K)) e)) := by
  obtain ⟨i, hi, hzz⟩ := Option.map_eq_some_iff.1 hinfo
  simp only [Prod.mk.injEq] at hzz
  obtain ⟨hz, hs, hby⟩ := hzz
  have hbb : ((bytes * n : Nat) : Int) ≤ 281474976710656 := by omega
  rw [Int.natCast_mul, ← hby] at hbb
  have h := run_make (P := P) w t e i z ht hi hz .i64 .i64 n n (by omega) (Int.le_refl _) hbb (by omega)
  rw [hs] at h
  simpa using h
def setL (cur : Array Value) : Nat → List Value → Array Value
  | _, [] => cur
  | o, v :: vs => setL (cur.setIfInBounds o v) (o + 1) vs
theorem size_setL : ∀ (vs : List Value) (cur : Array Value) (o : Nat), (setL cur o vs).size = cur.size
  | [], _, _ => rfl
  | v :: vs, cur, o => by unfold setL; rw [size_setL vs]; simp
theorem take_setL : ∀ (vs : List Value) (cur : Array Value) (o : Nat), o + vs.length ≤ cur.size → (setL cur o vs).toList.take (o + vs.length) = cur.toList.take o ++ vs
  | [], cur, o, _ => by simp [setL]
  | v :: vs, cur, o, h => by
    simp only [List.length_cons] at h
    unfold setL
    have := take_setL vs (cur.setIfInBounds o v) (o + 1) (by simp; omega)
    rw [List.length_cons, show o + (vs.length + 1) = o + 1 + vs.length by omega, this]
    have hs : (cur.toList.set o v).take (o + 1) = cur.toList.take o ++ [v] := by
      rw [List.take_add_one, List.take_set_of_le (Nat.le_refl o), List.getElem?_set_self (by simp; omega)]
      rfl
    rw [Array.toList_setIfInBounds, hs, List.append_assoc]
    rfl
theorem heap_sets : ∀ (vs : List Value) (w : World) (b o : Nat) (cur : Array Value) (e : TypeId), w.heap[b]? = some (.cells cur e (0, 0)) → (sets w b o vs).heap[b]? = some (.cells (setL cur o vs) e (0, 0))
  | [], _, _, _, _, _, h => h
  | v :: vs, w, b, o, cur, e, h => heap_sets vs _ b (o + 1) _ e (heap_setCell_same w b o cur e v h)
theorem grownBy_trans {a b c : World} {row : Option Nat} (h : a.grownBy b row) (k : b.grownBy c row) : a.grownBy c row :=
  ⟨k.os.trans h.os, k.tape.trans h.tape, k.output.trans h.output, Nat.le_trans h.size k.size, fun i hi hr => (k.block i (Nat.lt_of_lt_of_le hi h.size) hr).trans (h.block i hi hr)⟩
theorem grownBy_refl (w : World) (row : Option Nat) : w.grownBy w row := ⟨rfl, rfl, rfl, Nat.le_refl _, fun _ _ _ => rfl⟩
theorem grownBy_setCell (w : World) (b o : Nat) (v : Value) : w.grownBy (w.setCell ⟨b, o, none⟩ v) (some b) :=
  ⟨rfl, rfl, rfl, by simp [World.setCell], fun k _ hk => heap_setCell_other w ⟨b, o, none⟩ k v (fun e => hk (by simp [e]))⟩
theorem sets_grown : ∀ (vs : List Value) (w : World) (b o : Nat), w.grownBy (sets w b o vs) (some b)
  | [], w, _, _ => grownBy_refl w _
  | v :: vs, w, b, o => grownBy_trans (grownBy_setCell w b o v) (sets_grown vs _ b (o + 1))
theorem grownBy_of_below {w w' : World} (h : Below w.heap.size w w') (row : Option Nat) : w.grownBy w' row := ⟨h.os, h.tape, h.output, h.size, fun k hk _ => h.block k hk⟩
theorem below_of_grown {w w' : World} {B b : Nat} (h : w.grownBy w' (some b)) (hb : B ≤ b) (hw : B ≤ w.heap.size) : Below B w w' :=
  ⟨h.os, h.tape, h.output, h.size, fun k hk => h.block k (by omega) (by intro e; cases e; omega)⟩

/-- Block b is a row of n elements of K cells, of which the first cells are 'done'. -/
def Filling (w : World) (b e K n : Nat) (done : List Value) : Prop :=
  ∃ cur : Array Value, w.heap[b]? = some (.cells cur e (0, 0)) ∧ cur.size = n * K ∧ cur.toList.take done.length = done
theorem Filling.made (w : World) (z : Array Value) (e K n : Nat) : Filling (w.alloc (.cells (madeCells z (n * K)) e)) w.heap.size e K n [] :=
  ⟨_, heap_alloc_new w _, size_madeCells _ _, by simp⟩
theorem Filling.lt {w : World} {b e K n : Nat} {done : List Value} (h : Filling w b e K n done) : b < w.heap.size := by
  obtain ⟨cur, h1, _⟩ := h
  exact (Array.getElem?_eq_some_iff.1 h1).1
theorem Filling.below {w w' : World} {b e K n : Nat} {done : List Value} (h : Filling w b e K n done) (hb : Below w.heap.size w w') : Filling w' b e K n done := by
  have hlt := h.lt
  obtain ⟨cur, h1, h2, h3⟩ := h
  exact ⟨cur, (hb.block b hlt).trans h1, h2, h3⟩
theorem Filling.free {w : World} {b e K n : Nat} {done : List Value} (h : Filling w b e K n done) (j : Nat) : w.frozen? ⟨b, j, none⟩ = false := by
  obtain ⟨cur, h1, _⟩ := h
  exact frozen_of_row w b j cur e h1
theorem Filling.cell {w : World} {b e K n : Nat} {done : List Value} (h : Filling w b e K n done) (j : Nat) (hj : j < n * K) : ∃ v, w.cell? ⟨b, j, none⟩ = some v := by
  obtain ⟨cur, h1, h2, _⟩ := h
  rw [cell_of_row w b j cur e (0, 0) h1]
  exact ⟨cur[j]'(by omega), by simp⟩
theorem Filling.stores {w : World} {b e K n : Nat} {done : List Value} (h : Filling w b e K n done) (vs : List Value) (o : Nat) (ho : o = done.length) (hfit : done.length + vs.length ≤ n * K) : Filling (sets w b o vs) b e K n (done ++ vs) := by
  obtain ⟨cur, h1, h2, h3⟩ := h
  subst ho
  refine ⟨setL cur done.length vs, heap_sets vs w b _ cur e h1, by rw [size_setL]; exact h2, ?_⟩
  rw [List.length_append, take_setL vs cur _ (by omega), h3]
theorem Filling.owns {w : World} {b e K n base : Nat} {done : List Value} (h : Filling w b e K n done) (hd : done.length = n * K) (hb : base ≤ b) (hn : n ≤ maxLen) : w.ownsRow base e K (.slice (some ⟨b, 0, none⟩) n n) n done := by
  obtain ⟨cur, h1, h2, h3⟩ := h
  exact ⟨hd, .inr ⟨b, n, cur, rfl, hb, h1, Nat.le_refl _, hn, h2, by rw [← hd]; exact h3⟩⟩

section
variable {α : Type}
theorem length_flatMap_const {enc : α → List Value} {K : Nat} (hk : ∀ x, (enc x).length = K) : ∀ xs : List α, (xs.flatMap enc).length = xs.length * K
  | [] => by simp
  | x :: xs => by rw [List.flatMap_cons, List.length_append, length_flatMap_const hk xs, hk, List.length_cons, Nat.succ_mul, Nat.add_comm]
theorem flatMap_snoc {enc : α → List Value} {xs : List α} {k : Nat} {x : α} (h : xs[k]? = some x) : (xs.take (k + 1)).flatMap enc = (xs.take k).flatMap enc ++ enc x := by
  rw [take_snoc_of h, List.flatMap_append]; simp
theorem getElem_flatMap {enc : α → List Value} {K : Nat} (hk : ∀ x, (enc x).length = K) : ∀ (xs : List α) (i j : Nat) (x : α), xs[i]? = some x → j < K → (xs.flatMap enc)[i * K + j]? = (enc x)[j]?
  | [], i, j, x, h, _ => by simp at h
  | y :: xs, 0, j, x, h, hj => by
    simp at h
    subst h
    rw [List.flatMap_cons, Nat.zero_mul, Nat.zero_add, List.getElem?_append_left (by rw [hk]; exact hj)]
  | y :: xs, i + 1, j, x, h, hj => by
    rw [List.flatMap_cons, List.getElem?_append_right (by rw [hk, Nat.succ_mul]; omega), hk, show (i + 1) * K + j - K = i * K + j by rw [Nat.succ_mul]; omega]
    exact getElem_flatMap hk xs i j x (by simpa using h) hj
/-- What an owned slice reads as. -/
theorem reads_of_owns {w : World} {base e K : Nat} {v : Value} {enc : α → List Value} {xs : List α} (hk : ∀ x, (enc x).length = K) (h : w.ownsRow base e K v xs.length (xs.flatMap enc)) :
    ∃ a cap, v = .slice a xs.length cap ∧ Reads w a K enc xs := by
  rcases h.2 with ⟨rfl, h0⟩ | ⟨g, cap, cur, rfl, _, hg, _, _, _, _⟩
  · have : xs = [] := List.eq_nil_of_length_eq_zero h0
    subst this
    exact ⟨none, 0, rfl, .inl rfl⟩
  · refine ⟨some ⟨g, 0, none⟩, cap, rfl, .inr ⟨g, 0, rfl, (Array.getElem?_eq_some_iff.1 hg).1, fun i x hx j u hu => ?_⟩⟩
    have hj : j < K := by rw [← hk x]; exact (List.getElem?_eq_some_iff.1 hu).1
    have hi := lt_of_some hx
    have := h.cells (g := g) rfl (i * K + j) u (by rw [getElem_flatMap hk xs i j x hx hj]; exact hu)
    rw [add_none] at this
    exact this
theorem reads_of_owns' {w : World} {base e K : Nat} {v : Value} {enc : α → List Value} {xs : List α} (hk : ∀ x, (enc x).length = K) (h : w.ownsRow base e K v xs.length (xs.flatMap enc)) :
    ∃ a cap, v = .slice a xs.length cap ∧ Reads w a K enc xs ∧ xs.length ≤ cap ∧ cap ≤ maxLen := by
  obtain ⟨a, cap, rfl, hr⟩ := reads_of_owns hk h
  refine ⟨a, cap, rfl, hr, ?_⟩
  rcases h.2 with ⟨h1, h0⟩ | ⟨g, cap', cur, h1, _, _, h4, h5, _⟩
  · simp only [Value.slice.injEq] at h1
    obtain ⟨_, _, h3⟩ := h1
    exact ⟨by omega, by rw [h3]; exact Nat.zero_le _⟩
  · simp only [Value.slice.injEq] at h1
    obtain ⟨_, _, rfl⟩ := h1
    exact ⟨h4, h5⟩
theorem Reads.take {w : World} {a : Option Addr} {k : Nat} {enc : α → List Value} {xs : List α} (h : Reads w a k enc xs) (n : Nat) : Reads w a k enc (xs.take n) := by
  rcases h with rfl | ⟨b, off, h1, h2, h3⟩
  · exact .inl (by simp)
  · refine .inr ⟨b, off, h1, h2, fun i x hx j v hv => h3 i x ?_ j v hv⟩
    rw [List.getElem?_take] at hx
    split at hx
    · exact hx
    · cases hx
theorem ownsRow_shape {w : World} {base e K n : Nat} {v : Value} {cells : List Value} (h : w.ownsRow base e K v n cells) : ∃ a cap, v = .slice a n cap := by
  rcases h.2 with ⟨rfl, rfl⟩ | ⟨g, cap, cur, rfl, _⟩
  · exact ⟨none, 0, rfl⟩
  · exact ⟨_, cap, rfl⟩
theorem ownsRow_below {w w' : World} {base e K n : Nat} {v : Value} {cells : List Value} (h : w.ownsRow base e K v n cells) (hb : Below w.heap.size w w') : w'.ownsRow base e K v n cells :=
  h.kept (grownBy_of_below hb none) (by cases v.ownBlock <;> simp)
theorem ownsRow_base {w : World} {base base' e K n : Nat} {v : Value} {cells : List Value} (h : w.ownsRow base e K v n cells) (hb : base' ≤ base) : w.ownsRow base' e K v n cells := by
  refine ⟨h.1, ?_⟩
  rcases h.2 with h2 | ⟨g, cap, cur, h3, h4, r⟩
  · exact .inl h2
  · exact .inr ⟨g, cap, cur, h3, by omega, r⟩
end
theorem encS_len (x : ByteArray) : (encS x).length = 1 := rfl
theorem encC_len (x : ByteArray × ByteArray) : (encC x).length = 2 := rfl
theorem encA_len (x : Ans) : (encA x).length = 3 := rfl
theorem encStp_len (x : Stp) : (encStp x).length = 7 := rfl
end Go.Proofs.YtjlmoghifkgehaaDoor
