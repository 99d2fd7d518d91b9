/- Lemmas and contracts that the last text leans on, joined: SerI, Small, RegI, EqCString, JoinS, RegB, L15, EqSAnswer, EqLAnswer, ImplSameAnswers, SerS. Conditions: as each theorem says. -/
import Derived.Test.YtihghflppegnmaaGreatDoorCv0
import Derived.Test.YtihghflppegnmaaGreatDoorCv12
set_option linter.unusedSimpArgs false
set_option linter.unusedVariables false
set_option maxHeartbeats 40000000
namespace Go.Proofs.YtihghflppegnmaaGreatDoor
open Go.Proofs.Tryz
section
open Go.ChangeShapes Go.WideShapes Go.ChangeAt Go.RowKit
attribute [local go_sem ↓] Go.wp_at_zero Go.wp_at_succ
def RRet (m' : Mch) (ns : List Ans) (w : World) (e : Ending) (w' : World) : Prop :=
 ∃ u1 a c, e = .returned (.tuple #[u1, .slice a ns.length c]) ∧ Below w.heap.size w w' ∧ w'.ownsRow w.heap.size 99 2 u1 m'.st.length (m'.st.flatMap encC) ∧ w'.ownsRow w.heap.size 28 3 (.slice a ns.length c) ns.length (ns.flatMap encA) ∧ (∀ k, u1.ownBlock = some k → (Value.slice a ns.length c).ownBlock ≠ some k)
def TRet (m' : Mch) (w : World) (e : Ending) (w' : World) : Prop :=
 ∃ u2 u3, e = .returned (.agg #[u2, u3]) ∧ Below w.heap.size w w' ∧ w'.ownsRow w.heap.size 9 1 u2 m'.rs.length (m'.rs.flatMap encS) ∧ w'.ownsRow w.heap.size 9 1 u3 m'.ws.length (m'.ws.flatMap encS) ∧ (∀ k, u2.ownBlock = some k → u3.ownBlock ≠ some k)
def RunOk (ss : List Stp) (xs : Sto) : Prop := xs.length ≤ 1048576 ∧ ss.length ≤ 1048576 ∧ StpsOk ss ∧ ∀ k, k ≤ ss.length → MOk 100000000000 (runI (ss.take k) ⟨xs, [], []⟩).1
set_option maxRecDepth 100000 in
theorem serialI_c (a a2 : Option Addr) (cap cap2 : Nat) (xs : Sto) (ss : List Stp) (w : World) (hr : Reads w a 2 encC xs) (hr2 : Reads w a2 7 encStp ss) (ho : RunOk ss xs) (HT : ∀ W, Below w.heap.size w W → Tabs W) :
 Calls prog 36 #[.slice a xs.length cap, .slice a2 ss.length cap2] w (RRet (runI ss ⟨xs, [], []⟩).1 (runI ss ⟨xs, [], []⟩).2 w) := by
 have KM := hid9 (implMachOf_c a cap xs w (Nat.le_trans ho.1 (by decide)) hr);have HR2 := hid9 hr2;have HO := hid9 ho;have HTT := hid9 HT;clear hr hr2 ho HT;go_enter func36, ntmps36;go_wp2_with fail;refine KM.out.mono ?_;rintro e w1 ⟨v, rfl, ho1, hb1⟩;obtain ⟨av, cv, hv, _⟩ := reads_of_owns encC_len ho1;subst hv;obtain ⟨W1, hW1⟩ : ∃ W1, W1 = w1.alloc (.cells #[.slice av xs.length cv, .slice none 0 0, .slice none 0 0] 87) := ⟨_, rfl⟩;have hB1 : Below w1.heap.size w1 W1 := by subst hW1; exact bel9
 have M1 := mach_at (base := w.heap.size) hb1.size (ownsRow_base ho1 (Nat.le_succ _)) hW1;have HB1 := hid9 (hb1.trans (hB1.mono hb1.size));have KR := hid9 (pRun_c w1.heap.size w.heap.size _ _ _ ⟨xs, [], []⟩ ss a2 cap2 W1 M1 (fun W hW => HR2.out.below (HB1.out.trans hW)) HO.out.2.2.1 HO.out.2.2.2 HO.out.2.1 (fun X hX => HTT.out X (HB1.out.trans hX)));have HM1 := hid9 M1;obtain ⟨q, hq⟩ : ∃ q, w1.heap.size = q := ⟨_, rfl⟩;subst hW1;clear ho1 hb1 hB1 KM M1 hq q;go_wp2_with fail;refine KR.out.mono ?_;rintro e w2 ⟨u1, u2, u3, ao, co, rfl, hR⟩;have c0 := hR.j.at_.box.cell 0 _ rfl;have HEND := hid9 (show RRet (runI ss ⟨xs, [], []⟩).1 (runI ss ⟨xs, [], []⟩).2 w (.returned (.tuple #[u1, .slice ao (runI ss ⟨xs, [], []⟩).2.length co])) w2 from
  ⟨u1, ao, co, rfl, HB1.out.trans (hR.j.bel HM1.out), hR.j.at_.o1, ownsRow_base hR.o HB1.out.size, fun k e1 e2 => hR.n1 k e2 e1⟩)
 clear hR KR HM1 HB1;go_wp2;exact bodyPost_ret (v := .tuple #[u1, .slice ao (runI ss ⟨xs, [], []⟩).2.length co]) (by simp [results, results36, go_sem, *]) rfl HEND.out
set_option maxRecDepth 100000 in
theorem touchI_c (a a2 : Option Addr) (cap cap2 : Nat) (xs : Sto) (ss : List Stp) (w : World) (hr : Reads w a 2 encC xs) (hr2 : Reads w a2 7 encStp ss) (ho : RunOk ss xs) (HT : ∀ W, Below w.heap.size w W → Tabs W) :
 Calls prog 39 #[.slice a xs.length cap, .slice a2 ss.length cap2] w (TRet (runI ss ⟨xs, [], []⟩).1 w) := by
 obtain ⟨W0, hW0⟩ : ∃ W0, W0 = w.alloc (.cells #[.slice none 0 0, .slice none 0 0] 31) := ⟨_, rfl⟩;have HB0 := hid9 (show Below w.heap.size w W0 from by subst hW0; exact bel9);have T0 := hid9 (show Box W0 w.heap.size [.slice none 0 0, .slice none 0 0] from by subst hW0; exact Box.new w _ _);have hs0 : W0.heap.size = w.heap.size + 1 := by subst hW0; simp
 have KM := hid9 (implMachOf_c a cap xs W0 (Nat.le_trans ho.1 (by decide)) (hr.below HB0.out));have HR2 := hid9 hr2;have HO := hid9 ho;have HTT := hid9 HT;clear hr hr2 ho HT;go_enter func39, ntmps39;go_upto_region 1 with fail;rw [← hW0];clear hW0;go_wp2_with fail;refine KM.out.mono ?_;rintro e w1 ⟨v, rfl, ho1, hb1⟩;obtain ⟨av, cv, hv, _⟩ := reads_of_owns encC_len ho1;subst hv;obtain ⟨W1, hW1⟩ : ∃ W1, W1 = w1.alloc (.cells #[.slice av xs.length cv, .slice none 0 0, .slice none 0 0] 87) := ⟨_, rfl⟩;have hB1 : Below w1.heap.size w1 W1 := by subst hW1; exact bel9
 have M1 := mach_at (base := W0.heap.size) hb1.size (ownsRow_base ho1 (Nat.le_succ _)) hW1;have HB1 := hid9 (hb1.trans (hB1.mono hb1.size));have HBW := hid9 (HB0.out.trans (HB1.out.mono HB0.out.size));have KR := hid9 (pRun_c w1.heap.size W0.heap.size _ _ _ ⟨xs, [], []⟩ ss a2 cap2 W1 M1 (fun W hW => HR2.out.below (HBW.out.trans (hW.mono HB0.out.size))) HO.out.2.2.1 HO.out.2.2.2 HO.out.2.1 (fun X hX => HTT.out X (HBW.out.trans (hX.mono HB0.out.size))));have HM1 := hid9 M1;subst hW1;clear ho1 hb1 hB1 KM M1;go_wp2_with fail;refine KR.out.mono ?_;rintro e w2 ⟨u1, u2, u3, ao, co, rfl, hR⟩;obtain ⟨ax2, kx2, hx2, _⟩ := reads_of_owns encS_len hR.j.at_.o2;obtain ⟨ax3, kx3, hx3, _⟩ := reads_of_owns encS_len hR.j.at_.o3;subst hx2 hx3;have c1 := hR.j.at_.box.cell 1 _ rfl;have c2 := hR.j.at_.box.cell 2 _ rfl;have HB2 := hid9 (HB1.out.trans (hR.j.bel HM1.out));have T2 := T0.out.below HB2.out;have t0 := T2.cell 0 _ rfl;have t1 := T2.cell 1 _ rfl;have f0 := T2.free 0;have f1 := T2.free 1;have g1 := hR.j.at_.o2.lt;have g2 := hR.j.at_.o3.lt;have far : ∀ (T K n : Nat) (u : Value) (cs : List Value) (X Y : Value), w2.ownsRow W0.heap.size T K u n cs → ((w2.setCell ⟨w.heap.size, 0, none⟩ X).setCell ⟨w.heap.size, 1, none⟩ Y).ownsRow w.heap.size T K u n cs := fun T K n u cs X Y h => by
  have n1 : u.ownBlock = none ∨ u.ownBlock ≠ some w.heap.size := .inr (fun e => by have := (h.lt _ e).1; omega);exact ownsRow_base ((h.kept (grownBy_setCell w2 w.heap.size 0 X) n1).kept (grownBy_setCell _ w.heap.size 1 Y) n1) HB0.out.size
 have HEND := hid9 (show TRet (runI ss ⟨xs, [], []⟩).1 w (.returned (.agg #[.slice ax2 (runI ss ⟨xs, [], []⟩).1.rs.length kx2, .slice ax3 (runI ss ⟨xs, [], []⟩).1.ws.length kx3])) ((w2.setCell ⟨w.heap.size, 0, none⟩ (.slice ax2 (runI ss ⟨xs, [], []⟩).1.rs.length kx2)).setCell ⟨w.heap.size, 1, none⟩ (.slice ax3 (runI ss ⟨xs, [], []⟩).1.ws.length kx3)) from
  ⟨_, _, rfl, Below.setCell (p := ⟨w.heap.size, 1, none⟩) (Below.setCell (p := ⟨w.heap.size, 0, none⟩) (HB0.out.trans (HB2.out.mono HB0.out.size)) (Nat.le_refl _) (.slice ax2 (runI ss ⟨xs, [], []⟩).1.rs.length kx2)) (Nat.le_refl _) (.slice ax3 (runI ss ⟨xs, [], []⟩).1.ws.length kx3), far _ _ _ _ _ _ _ hR.j.at_.o2, far _ _ _ _ _ _ _ hR.j.at_.o3, hR.j.at_.d23⟩)
 clear hR KR HM1 HB1 HB2 T2 far g1 g2 T0;go_wp2;exact bodyPost_ret (v := .agg #[.slice ax2 (runI ss ⟨xs, [], []⟩).1.rs.length kx2, .slice ax3 (runI ss ⟨xs, [], []⟩).1.ws.length kx3]) (by simp [results, results39, go_sem, *]) rfl HEND.out
end
def bnd (n : Nat) : Nat → Nat
 | 0 => n
 | k + 1 => bnd (n + (7 * n + 308)) k
theorem mok_run : ∀ (ys : List Stp) (p : Mch × List Ans) (n : Nat), MOk n p.1 → MOk (bnd n ys.length) (ys.foldl stepI p).1
 | [], _, _, h => h
 | x :: ys, p, n, h => by
  obtain ⟨m2, an, F⟩ : ∃ aa bb, (callP x.proc x.call).run p.1 = (aa, bb) := ⟨_, _, rfl⟩;have h1 : MOk (n + (7 * n + 308)) (stepI p x).1 := by
   unfold stepI;rw [F];exact (callP_cost x.proc x.call).okE h F
  exact mok_run ys _ _ h1
theorem MOk.up {n n' : Nat} {m : Mch} (h : MOk n m) (hn : n ≤ n') : MOk n' m := ⟨Nat.le_trans h.l1 hn, Nat.le_trans h.l2 hn, Nat.le_trans h.l3 hn, h.sz⟩
theorem runOk_of {n : Nat} {ss : List Stp} {xs : Sto} (h : MOk n ⟨xs, [], []⟩) (hn : n ≤ 1048576) (hl : ss.length ≤ 1048576) (hs : StpsOk ss) (hb : ∀ j, j ≤ ss.length → bnd n j ≤ 100000000000) : RunOk ss xs :=
 ⟨Nat.le_trans h.l1 hn, hl, hs, fun k hk => (mok_run (ss.take k) (⟨xs, [], []⟩, []) n h).up (hb _ (by rw [List.length_take]; exact Nat.min_le_right ..))⟩
theorem bnd6 : ∀ j, j ≤ 6 → bnd 600 j ≤ 100000000000 := by decide
theorem bnd3 : ∀ j, j ≤ 3 → bnd 600 j ≤ 400000 := by decide
theorem bnd33 : ∀ j, j ≤ 3 → bnd 400000 j ≤ 100000000000 := by decide
theorem runOk_six {n : Nat} {ss : List Stp} {xs : Sto} (hg : Grown n xs) (hn : n ≤ 12) (hz : ∀ x ∈ xs, x.1.size ≤ 1048576 ∧ x.2.size ≤ 1048576) (hl : ss.length ≤ 6) (hs : StpsOk ss) : RunOk ss xs :=
 runOk_of (grown_mok hg hn hz) (by decide) (by omega) hs (fun j hj => bnd6 j (by omega))
theorem runOk_half {n : Nat} {ss ts : List Stp} {xs : Sto} (hg : Grown n xs) (hn : n ≤ 12) (hz : ∀ x ∈ xs, x.1.size ≤ 1048576 ∧ x.2.size ≤ 1048576) (hl : ss.length ≤ 3) (hlt : ts.length ≤ 3) (ht : StpsOk ts) : RunOk ts (runI ss ⟨xs, [], []⟩).1.st := by
 have h := (mok_run ss (⟨xs, [], []⟩, []) 600 (grown_mok hg hn hz)).up (bnd3 _ hl);exact runOk_of (n := 400000) ⟨h.l1, Nat.zero_le _, Nat.zero_le _, h.sz⟩ (by decide) (by omega) ht (fun j hj => bnd33 j (by omega))
section
open Go Go.ChangeShapes Go.WideShapes Go.ChangeAt Go.RowKit
def left (l : Array Bool) : Nat := l.toList.countP (fun b => !b)
theorem countP_set_true : ∀ (l : List Bool) (i : Nat), l[i]? = some false → (l.set i true).countP (fun b => !b) + 1 = l.countP (fun b => !b)
 | [], i, h => by simp at h
 | x :: l, 0, h => by
  simp only [List.getElem?_cons_zero, Option.some.injEq] at h;subst h;simp
 | x :: l, i + 1, h => by
  simp only [List.getElem?_cons_succ] at h;have := countP_set_true l i h;cases x <;> simp <;> omega
theorem left_set {l : Array Bool} {i : Nat} (h : l.getD i true = false) : left (l.setIfInBounds i true) + 1 = left l := by
 unfold left;rw [Array.toList_setIfInBounds];apply countP_set_true;rw [Array.getElem?_toList];rw [Array.getD_eq_getD_getElem?] at h;cases hx : l[i]? with
 | none => rw [hx] at h; cases h
 | some b => rw [hx] at h; simp at h; rw [h]
theorem ready_at {ops : Array Oper} {l : Array Bool} {i : Nat} (h : i ∈ Region.ready .any ops l) : l.getD i true = false ∧ ∃ o, ops[i]? = some o ∧ (o.after.all fun e => !Region.binds .any e || l.getD e.on false) = true := by
 unfold Region.ready at h;simp only [List.mem_filter, List.mem_range, Bool.and_eq_true, Bool.not_eq_true'] at h;obtain ⟨hi, h1, h2⟩ := h;refine ⟨h1, ops[i], by simp [hi], ?_⟩;simpa [hi] using h2
theorem wpAny_inv {P : Program} {ops : Array Oper} {Q : Exit → Act → World → Prop} (R : Array Bool → Act → World → Prop)
 (hs : ∀ l a w, R l a w → ∀ i, i < ops.size → l.getD i true = false → (∀ o, ops[i]? = some o → (o.after.all fun e => !Region.binds .any e || l.getD e.on false) = true) → wpOp P ops Q i (fun a' w' => R (l.setIfInBounds i true) a' w') a w)
 (he : ∀ l a w, R l a w → Region.ready .any ops l = [] → Q .normal a w) : ∀ (n : Nat) (l : Array Bool) (a : Act) (w : World), R l a w → left l ≤ n → wpAny P .any ops Q n l a w
 | 0, l, a, w, h, hn => by
  have hr : Region.ready .any ops l = [] := by
   cases hr : Region.ready .any ops l with
   | nil => rfl
   | cons i r =>
    have := left_set (ready_at (i := i) (by rw [hr]; exact List.mem_cons_self ..)).1;omega
  exact ⟨hr, he l a w h hr⟩
 | n + 1, l, a, w, h, hn => ⟨he l a w h, fun i hi => by
  obtain ⟨h1, o, ho, h2⟩ := ready_at hi;have hlt : i < ops.size := (Array.getElem?_eq_some_iff.1 ho).1;refine wpOp_mono (fun a' w' hR => ?_) (hs l a w h i hlt h1 (fun o' ho' => by rw [ho] at ho'; cases ho'; exact h2));exact wpAny_inv R hs he n _ _ _ hR (by have := left_set h1; omega)⟩
theorem left_new (n : Nat) : left (Array.replicate n false) ≤ n := by
 unfold left;rw [Array.toList_replicate];exact Nat.le_trans (List.countP_le_length ..) (by simp)
theorem wp_region_inv {P : Program} {ops : Array Oper} {Q : Exit → Act → World → Prop} {id : Nat} {a : Act} {w : World} (R : Array Bool → Act → World → Prop) (hm : P.follows .mixedOrders = true) (h0 : R (Array.replicate ops.size false) a w.drew)
 (hs : ∀ l a w, R l a w → ∀ i, i < ops.size → l.getD i true = false → (∀ o, ops[i]? = some o → (o.after.all fun e => !Region.binds .any e || l.getD e.on false) = true) → wpOp P ops Q i (fun a' w' => R (l.setIfInBounds i true) a' w') a w)
 (he : ∀ l a w, R l a w → Region.ready .any ops l = [] → Q .normal a w) : (Code.region id ops true).wp P Q a w :=
 wp_region_any hm (wpAny_inv R hs he _ _ _ _ h0 (left_new _))
def early (ops : Array Oper) : Bool := (List.range ops.size).all (fun i => match ops[i]? with | some o => o.after.all (fun e => Nat.blt e.on i) | none => true)
theorem all_listed {ops : Array Oper} {l : Array Bool} (h : early ops = true) (hz : l.size = ops.size) (hr : Region.ready .any ops l = []) : ∀ i, i < ops.size → l.getD i true = true := by
 intro i
 induction i using Nat.strongRecOn with
 | ind i ih =>
  intro hi;cases hl : l.getD i true with
  | true => rfl
  | false =>
   exfalso;have he := List.all_eq_true.1 h i (List.mem_range.2 hi);have hx : ops[i]? = some ops[i] := by simp [hi]
   rw [hx] at he;have hm : i ∈ Region.ready .any ops l := by
    unfold Region.ready;simp only [List.mem_filter, List.mem_range, Bool.and_eq_true, Bool.not_eq_true'];refine ⟨hi, hl, ?_⟩;rw [hx];simp only [Option.map_some, Option.getD_some, Array.all_eq_true] at he ⊢;intro j hj;have h1 := he j hj;have h2 : (ops[i].after[j]).on < i := by simpa using h1
    have h3 := ih _ h2 (Nat.lt_trans h2 hi);have h4 : (ops[i].after[j]).on < l.size := by omega
    simp only [Array.getD_eq_getD_getElem?, Array.getElem?_eq_getElem h4, Option.getD_some] at h3 ⊢;simp [h3]
   rw [hr] at hm;cases hm
theorem wp_region_run {P : Program} {ops : Array Oper} {Q : Exit → Act → World → Prop} {id : Nat} {a : Act} {w : World} (R : Array Bool → Act → World → Prop) (hm : P.follows .mixedOrders = true) (ho : early ops = true) (h0 : R (Array.replicate ops.size false) a w.drew)
 (hs : ∀ l a w, R l a w → ∀ i, i < ops.size → l.getD i true = false → (∀ o, ops[i]? = some o → ∀ j (hj : j < o.after.size), Region.binds .any o.after[j] = true → l.getD (o.after[j]).on false = true) → wpOp P ops Q i (fun a' w' => R (l.setIfInBounds i true) a' w' ∨ ((∀ j, j < ops.size → (l.setIfInBounds i true).getD j true = true) ∧ Q .normal a' w')) a w)
 (he : ∀ l a w, R l a w → l.size = ops.size ∧ ∃ i, i < ops.size ∧ l.getD i true = false) : (Code.region id ops true).wp P Q a w :=
 wp_region_inv (fun l a w => R l a w ∨ ((∀ j, j < ops.size → l.getD j true = true) ∧ Q .normal a w)) hm (.inl h0)
  (fun l a w h i hi h1 h2 => by
   rcases h with h | h
   ·exact hs l a w h i hi h1 (fun o ho j hj hb => by
     have := Array.all_eq_true.1 (h2 o ho) j hj;simpa [hb] using this)
   ·rw [h.1 i hi] at h1;cases h1)
  (fun l a w h hr => by
   rcases h with h | h
   ·obtain ⟨hz, i, hi, h1⟩ := he l a w h;rw [all_listed ho hz hr i hi] at h1;cases h1
   ·exact h.2)
theorem wpOp_ok {P : Program} {ops : Array Oper} {Q : Exit → Act → World → Prop} {K : Act → World → Prop} {a : Act} {w w' : World} {i : Nat} {o : Oper} {v : Value} (hi : ops[i]? = some o) (hg : o.guard = none) (he : (execOp a.eval o).run P w = .ok (.value v) w') (hK : K (a.put o.dst v) w') : wpOp P ops Q i K a w :=
 wpOp_step hi (fun K' hK' => by
  rw [if_pos (by simp [Region.wanted, hg])];unfold Oper.wp;rw [he];exact hK' _ _ hK)
def Way (W : World) (B : Nat) (b0 b3 : Bool) (x8 x11 : Value) (L : List ByteArray) (o : Option Nat) : Prop :=
 match b3 with
 | true => W.ownsRow B 9 1 x11 L.length (L.flatMap encS) ∧ x11.ownBlock = o
 | false => match b0 with
  | true => W.ownsRow B 9 1 x8 0 [] ∧ x8.ownBlock = o
  | false => o = none
def Boxed (W : World) (B : Nat) (b9 : Bool) (x5 : Value) (Z : List Value) (o : Option Nat) : Prop :=
 match b9 with
 | true => ∃ k, x5 = .pointer (some ⟨k, 0, none⟩) ∧ Box W k Z ∧ B ≤ k ∧ o = some k
 | false => o = none
def Apart (o o' : Option Nat) : Prop := ∀ k, o = some k → o' ≠ some k
theorem Apart.symm {o o' : Option Nat} (h : Apart o o') : Apart o' o := fun k h1 h2 => h k h2 h1
section
variable {W W' : World} {B : Nat} {b0 b3 b9 : Bool} {x8 x11 x5 : Value} {L : List ByteArray} {Z : List Value} {o o' o2 row : Option Nat}
theorem Way.kept (h : Way W B b0 b3 x8 x11 L o) (hg : W.grownBy W' row) (hr : Apart o row) : Way W' B b0 b3 x8 x11 L o := by
 have key : ∀ {v : Value} {n : Nat} {xs : List Value}, W.ownsRow B 9 1 v n xs → v.ownBlock = o → W'.ownsRow B 9 1 v n xs := fun {v n xs} h1 h2 => by
  refine h1.kept hg ?_;cases hv : v.ownBlock with
  | none => exact .inl rfl
  | some k => exact .inr (fun e => hr k (by rw [← h2, hv]) e.symm)
 cases b3
 ·cases b0
  ·exact h
  ·exact ⟨key h.1 h.2, h.2⟩
 ·exact ⟨key h.1 h.2, h.2⟩
theorem Way.lt (h : Way W B b0 b3 x8 x11 L o) : ∀ k, o = some k → B ≤ k ∧ k < W.heap.size := fun k hk => by
 cases b3
 ·cases b0
  ·cases h.symm.trans hk
  ·exact h.1.lt k (h.2.trans hk)
 ·exact h.1.lt k (h.2.trans hk)
theorem Boxed.kept (h : Boxed W B b9 x5 Z o) (hg : W.grownBy W' row) (hr : Apart o row) : Boxed W' B b9 x5 Z o := by
 cases b9
 ·exact h
 ·obtain ⟨k, rfl, ⟨h1, T, h2⟩, h3, rfl⟩ := h;exact ⟨k, rfl, ⟨Nat.lt_of_lt_of_le h1 hg.size, T, (hg.block k h1 (fun e => hr k rfl e.symm)).trans h2⟩, h3, rfl⟩
theorem Boxed.lt (h : Boxed W B b9 x5 Z o) : ∀ k, o = some k → B ≤ k ∧ k < W.heap.size := fun k hk => by
 cases b9
 ·cases h.symm.trans hk
 ·obtain ⟨j, rfl, h2, h3, rfl⟩ := h;cases hk;exact ⟨h3, h2.1⟩
theorem Apart.upd (h : Apart o o2) (hn : o' = o ∨ ∀ k, o' = some k → W.heap.size ≤ k) (hl : ∀ k, o2 = some k → B ≤ k ∧ k < W.heap.size) : Apart o' o2 := by
 rcases hn with rfl | hn
 ·exact h
 ·intro k h1 h2;have := hn k h1;have := (hl k h2).2;omega
end
structure JF (W0 : World) (L M : List ByteArray) (Z : List Value) (b0 b3 b4 b7 b9 : Bool) (x8 x11 x12 x15 x5 : Value) (W : World) : Prop where
 ex : ∃ o1 o2 o3, Way W W0.heap.size b0 b3 x8 x11 L o1 ∧ Way W W0.heap.size b4 b7 x12 x15 M o2 ∧ Boxed W W0.heap.size b9 x5 Z o3 ∧ Apart o1 o2 ∧ Apart o1 o3 ∧ Apart o2 o3 ∧ Below W0.heap.size W0 W
section
variable {W0 W W' : World} {L M : List ByteArray} {Z : List Value} {b0 b3 b4 b7 b9 : Bool} {x8 x11 x12 x15 x5 v v' : Value}
theorem JF.bel (h : JF W0 L M Z b0 b3 b4 b7 b9 x8 x11 x12 x15 x5 W) : Below W0.heap.size W0 W := by
 obtain ⟨_, _, _, _, _, _, _, _, _, h⟩ := h.ex;exact h
theorem apart_none (o : Option Nat) : Apart o none := fun _ _ h => by cases h
theorem JF.swap (h : JF W0 L M Z b0 b3 b4 b7 b9 x8 x11 x12 x15 x5 W) : JF W0 M L Z b4 b7 b0 b3 b9 x12 x15 x8 x11 x5 W := by
 obtain ⟨o1, o2, o3, h1, h2, h3, h4, h5, h6, h7⟩ := h.ex;exact ⟨o2, o1, o3, h2, h1, h3, h4.symm, h6, h5, h7⟩
theorem JF.move {b0' b3' : Bool} {x8' x11' : Value} (h : JF W0 L M Z b0 b3 b4 b7 b9 x8 x11 x12 x15 x5 W)
 (hn : ∀ o1, Way W W0.heap.size b0 b3 x8 x11 L o1 → ∃ o1', W.grownBy W' o1 ∧ Way W' W0.heap.size b0' b3' x8' x11' L o1' ∧ (o1' = o1 ∨ ∀ k, o1' = some k → W.heap.size ≤ k)) : JF W0 L M Z b0' b3' b4 b7 b9 x8' x11' x12 x15 x5 W' := by
 obtain ⟨o1, o2, o3, h1, h2, h3, h4, h5, h6, h7⟩ := h.ex;obtain ⟨o1', g, q1, q2⟩ := hn o1 h1;refine ⟨o1', o2, o3, q1, h2.kept g h4.symm, h3.kept g h5.symm, h4.upd q2 h2.lt, h5.upd q2 h3.lt, h6, h7.grown g h7.size (fun k hk => (h1.lt k hk).1)⟩
theorem grown_new (W : World) (o : Obj) (r : Option Nat) : W.grownBy (W.alloc o) r := grownBy_of_below ((Below.refl _ _).alloc (Nat.le_refl _) o) r
theorem JF.empty (h : JF W0 L M Z false false b4 b7 b9 x8 x11 x12 x15 x5 W) : JF W0 L M Z true false b4 b7 b9 (.slice (some ⟨W.heap.size, 0, none⟩) 0 0) x11 x12 x15 x5 (W.alloc (.cells #[] 9)) :=
 h.move (fun o1 _ => ⟨some W.heap.size, grown_new _ _ _, ⟨World.ownsRow_made W #[] 0 h.bel.size (Nat.zero_le _) (by simp), rfl⟩, .inr (fun k hk => by cases hk; exact Nat.le_refl _)⟩)
theorem JF.row (h : JF W0 L M Z true false b4 b7 b9 x8 x11 x12 x15 x5 W) (ho : W'.ownsRow W0.heap.size 9 1 v (0 + L.length) ([] ++ L.flatMap encS)) (hg : W.grownBy W' x8.ownBlock) (hor : OwnOr W x8 v) : JF W0 L M Z true true b4 b7 b9 x8 v x12 x15 x5 W' :=
 h.move (fun o1 h1 => ⟨v.ownBlock, h1.2 ▸ hg, ⟨by simpa using ho, rfl⟩, h1.2 ▸ hor⟩)
theorem JF.own (h : JF W0 L M Z true false b4 b7 b9 x8 x11 x12 x15 x5 W) : W.ownsRow W0.heap.size 9 1 x8 0 [] := by
 obtain ⟨o1, _, _, h1, _⟩ := h.ex;exact h1.1
theorem JF.row1 (h : JF W0 L M Z b0 true b4 b7 b9 x8 x11 x12 x15 x5 W) : W.ownsRow W0.heap.size 9 1 x11 L.length (L.flatMap encS) := by
 obtain ⟨o1, _, _, h1, _⟩ := h.ex;exact h1.1
theorem JF.box (T : TypeId) (h : JF W0 L M Z b0 b3 b4 b7 false x8 x11 x12 x15 x5 W) : JF W0 L M Z b0 b3 b4 b7 true x8 x11 x12 x15 (.pointer (some ⟨W.heap.size, 0, none⟩)) (W.alloc (.cells Z.toArray T)) := by
 obtain ⟨o1, o2, o3, h1, h2, h3, h4, h5, h6, h7⟩ := h.ex;have g := grown_new W (.cells Z.toArray T) none;have f : ∀ {o : Option Nat}, (∀ k, o = some k → W0.heap.size ≤ k ∧ k < W.heap.size) → Apart o (some W.heap.size) := fun hl k h1 h2 => by cases h2; exact Nat.lt_irrefl _ (hl _ h1).2
 exact ⟨o1, o2, some W.heap.size, h1.kept g (apart_none _), h2.kept g (apart_none _), ⟨_, rfl, Box.new W Z T, h7.size, rfl⟩, h4, f h1.lt, f h2.lt, h7.trans ((Below.refl _ _).alloc h7.size _)⟩
end
end
section
open Go.RowKit
attribute [local go_sem ↓] Go.wp_at_zero Go.wp_at_succ
theorem readqCString {w wr : World} {a : Option Addr} {xs : List ByteArray} (hr : Reads w a 1 encS xs) (hb : Below w.heap.size w wr) {k : Nat} {x : ByteArray} (hx : xs[k]? = some x) :
 ∃ b off, a = some ⟨b, off, none⟩ ∧ wr.cell? ⟨b, off + k, none⟩ = some (.string x) := by
 rcases hr.below hb with rfl | ⟨b, off, h1, _, h3⟩
 ·simp at hx
 ·exact ⟨b, off, h1, by simpa [Nat.add_assoc] using h3 k x hx 0 _ rfl⟩
theorem lawEqString_c (a a2 : Option Addr) (cap cap2 : Nat) (xs ys : List ByteArray) (w : World) (hlen : xs.length ≤ maxLen) (hr : Reads w a 1 encS xs) (hr2 : Reads w a2 1 encS ys) :
 Calls prog 71 #[.slice a xs.length cap, .slice a2 ys.length cap2] w fun e w' => e = .returned (.bool (same xs ys)) ∧ Below w.heap.size w w' := by
 have HR := hid9 hr;have HR2 := hid9 hr2;clear hr hr2;unfold maxLen at hlen;by_cases h1 : xs.length = ys.length
 ·have HE := hid9 h1;have hq : ((xs.length : Int) != (ys.length : Int)) = false := by simp [h1]
  have h1' : ys.length ≤ xs.length := by omega
  have h1'' : xs.length ≤ ys.length := by omega
  clear h1;go_enter func71, ntmps71;go_wp2;go_loopw [5] (fun i wr => ∃ k : Nat, k ≤ xs.length ∧ i = .int .i64 k ∧ upTo xs ys k ∧ Below w.heap.size w wr) (fun i _ => xs.length - (intOf i).toNat)
  case atStart => exact ⟨0, Nat.zero_le _, rfl, upTo_zero _ _, bel8⟩
  case round =>
   obtain ⟨k, hk, rfl, hup, hb⟩ := hrel;by_cases hlt : k < xs.length
   ·obtain ⟨x, hx⟩ := some_of_lt hlt;obtain ⟨y, hy⟩ := some_of_lt (xs := ys) (k := k) (by omega);obtain ⟨b, off, rfl, c0⟩ := readqCString HR.out hb hx;obtain ⟨b2, off2, rfl, d0⟩ := readqCString HR2.out hb hy;have p1 : (0 : Int) ≤ (k : Int) := by omega
    have p2 : (k : Int) < (xs.length : Int) := by omega
    have p3 : (k : Int) < (ys.length : Int) := by omega
    have HX := hid9 hx;have HY := hid9 hy;clear hx hy;by_cases h2 : x = y
    rotate_left
    ·have HN := hid9 (same_at HX.out HY.out (same_ne (by simp [h2])));have q1 := toList_ne h2;have q2 := beq_toList_false h2;have q3 := bne_toList_true h2;clear HX HY;go_wp2_with fail;go_region_held3 (fun w' => w'.cell? ⟨b, off + k, none⟩ = some (.string x) ∧ w'.cell? ⟨b2, off2 + k, none⟩ = some (.string y)) ((go_split_ands; (repeat' apply And.intro) <;> first | assumption | exact keepS (by assumption) (by assumption))) (fail);go_wp2;go_ret;exact ⟨by rw [HN.out]; rfl, bel9⟩
    subst h2;have hs := upTo_succ hup HX.out HY.out (same_self _);clear HX HY;go_wp2_with fail;go_region_held3 (fun w' => w'.cell? ⟨b, off + k, none⟩ = some (.string x) ∧ w'.cell? ⟨b2, off2 + k, none⟩ = some (.string x)) ((go_split_ands; (repeat' apply And.intro) <;> first | assumption | exact keepS (by assumption) (by assumption))) (fail);go_wp2;go_roundw
    case rel => exact ⟨k + 1, by omega, by go_num, hs, bel9⟩
    case measure => simp [intOf]; omega
   ·have HS := hid9 (same_end hup (by omega) (by omega));go_wp2;go_ret;exact ⟨by rw [HS.out]; rfl, hb⟩
 ·have HS := hid9 (same_len h1);have hq : ((xs.length : Int) != (ys.length : Int)) = true := by simp; omega
  clear h1;go_enter func71, ntmps71;go_wp2;go_ret;exact ⟨by rw [HS.out]; rfl, bel8⟩
end
section
open Go.ChangeShapes Go.WideShapes Go.ChangeAt Go.RowKit
attribute [local go_sem ↓] Go.wp_at_zero Go.wp_at_succ
theorem step_append_reads {P : Program} {α : Type} {enc : α → List Value} (w : World) {ops : Array Oper} {o : Oper} {a : Act} {K : Act → World → Prop} {Q : Exit → Act → World → Prop} {E : Prop} (hgd : o.guard = none) (s x : Operand) (t : TypeId)
 (ho : o.op = .call { callee := .builtin .append, args := #[s, x], argTypes := #[t, t] })
 (base : Nat) (e : TypeId) (i : TypeInfo) (z : Value) (size bytes : Nat) (ht : P.underlying t = some (.slice e)) (hi : P.info? e = some i) (hz : i.zero = some z)
 (hsize : i.size = size) (hby : i.bytes = bytes) (hzs : z.cells.size = size) (hsz : 0 < size) (hk : ∀ x, (enc x).length = size) (h1 : ∀ x, ∀ u ∈ enc x, u.oneCell' = true)
 (v : Value) (n : Nat) (xs : List Value) (hs : a.eval s = v) (hown : w.ownsRow base e size v n xs)
 (A : Option Addr) (m c : Nat) (ys : List α) (hx : a.eval x = .slice A m c) (hm : m = ys.length) (hr : Reads w A size enc ys)
 (h63 : n + ys.length ≤ maxLen) (hbytes : (n + ys.length) * bytes ≤ 140737488355328) (hbase : base ≤ w.heap.size)
 (h : ∀ v' w', w'.ownsRow base e size v' (n + ys.length) (xs ++ ys.flatMap enc) → w.grownBy w' v.ownBlock → OwnOr w v v' → K (a.put o.dst v') w') :
 if Region.wanted o (yielded ops a.tmps) = true then Oper.wp P o a w K Q else E := by
 subst hm;have hw : Region.wanted o (yielded ops a.tmps) = true := by simp [Region.wanted, hgd]
 rw [if_pos hw];obtain ⟨v', w', hrun, h2, h3, h4⟩ := run_append_reads (P := P) w base t o.type e i z size bytes ht hi hz hsize hby hzs hsz hk h1 v n xs hown A c ys hr h63 hbytes hbase;unfold Oper.wp execOp;simp only [ho, resolve, invoke, builtin, Sem.run_bind, Sem.run_pure, Result.andThen_ok, List.map_toArray, List.map_cons, List.map_nil, hs, hx, hrun];exact h v' w' h2 h3 h4
def JT (base b5 : Nat) (L M : List ByteArray) (W : World) : Prop := ∃ v1 v2, Box W b5 [v1, v2] ∧ base ≤ b5 ∧ W.ownsRow base 9 1 v1 L.length (L.flatMap encS) ∧ W.ownsRow base 9 1 v2 M.length (M.flatMap encS) ∧ v1.ownBlock ≠ some b5 ∧ v2.ownBlock ≠ some b5
theorem own_setJ {W : World} {base T n : Nat} {v u : Value} {xs : List Value} {b i : Nat} (h : W.ownsRow base T 1 v n xs) (hne : v.ownBlock ≠ some b) : (W.setCell ⟨b, i, none⟩ u).ownsRow base T 1 v n xs := h.kept (grownBy_setCell W b i u) (.inr hne)
theorem own_lowJ {W : World} {base base' T K n : Nat} {v : Value} {xs : List Value} (h : W.ownsRow base T K v n xs) (hb : base' ≤ base) : W.ownsRow base' T K v n xs := by
 rcases h with ⟨h1, h2 | ⟨g, cap, cur, h2, h3, h4⟩⟩
 ·exact ⟨h1, .inl h2⟩
 ·exact ⟨h1, .inr ⟨g, cap, cur, h2, Nat.le_trans hb h3, h4⟩⟩
theorem JT.next {base b5 : Nat} {L M L' : List ByteArray} {W W' : World} {v : Value} (h : JT base b5 L M W) (hz : base ≤ W.heap.size) (hb : Below W.heap.size W W') (ho : W'.ownsRow W.heap.size 9 1 v L'.length (L'.flatMap encS)) : JT base b5 L' M (W'.setCell ⟨b5, 0, none⟩ v) := by
 obtain ⟨v1, v2, x, hb5, o1, o2, n1, n2⟩ := h;have hv : v.ownBlock ≠ some b5 := fun e => by have := (ho.lt b5 e).1; have := x.1; omega
 exact ⟨v, v2, boxS _ _ _ 0 v (x.below hb), hb5, own_setJ (own_lowJ ho hz) hv, own_setJ (ownsRow_below o2 hb) n2, hv, n2⟩
theorem JT.next2 {base b5 : Nat} {L M M' : List ByteArray} {W W' : World} {v : Value} (h : JT base b5 L M W) (hz : base ≤ W.heap.size) (hb : Below W.heap.size W W') (ho : W'.ownsRow W.heap.size 9 1 v M'.length (M'.flatMap encS)) : JT base b5 L M' (W'.setCell ⟨b5, 1, none⟩ v) := by
 obtain ⟨v1, v2, x, hb5, o1, o2, n1, n2⟩ := h;have hv : v.ownBlock ≠ some b5 := fun e => by have := (ho.lt b5 e).1; have := x.1; omega
 exact ⟨v1, v, boxS _ _ _ 1 v (x.below hb), hb5, own_setJ (ownsRow_below o1 hb) n1, own_setJ (own_lowJ ho hz) hv, n1, hv⟩
theorem joinS_len : ∀ (b a : List ByteArray), (joinS a b).length ≤ a.length + b.length
 | [], a => by simp [joinS]
 | x :: b, a => by
  have h := joinS_len b (addS a x);have h2 := addS_len a x;show (joinS (addS a x) b).length ≤ _;simp only [List.length_cons];omega
theorem joinS_take {a b : List ByteArray} {k : Nat} {x : ByteArray} (h : b[k]? = some x) : joinS a (b.take (k + 1)) = addS (joinS a (b.take k)) x := by
 unfold joinS;rw [take_snoc_of h, List.foldl_append];rfl
theorem all11 : ∀ j, j < 11 → (#[true, true, true, true, true, true, true, true, true, true, false].setIfInBounds 10 true).getD j true = true := by decide
theorem way_jt {W W0 : World} {kb : Nat} {L M : List ByteArray} {x8 x11 x12 x15 : Value} {o1 o2 : Option Nat} (q1 : Way W W0.heap.size true true x8 x11 L o1) (q2 : Way W W0.heap.size true true x12 x15 M o2) (qb : Box W kb [.slice none 0 0, .slice none 0 0]) (p1 : Apart o1 (some kb)) (p2 : Apart o2 (some kb)) (hk : W0.heap.size ≤ kb) (hB : Below W0.heap.size W0 W) :
 Below W0.heap.size W0 ((W.setCell ⟨kb, 0, none⟩ x11).setCell ⟨kb, 1, none⟩ x15) ∧ JT W0.heap.size kb L M ((W.setCell ⟨kb, 0, none⟩ x11).setCell ⟨kb, 1, none⟩ x15) := by
 have n1 : x11.ownBlock ≠ some kb := fun e => p1 kb (q1.2.symm.trans e) rfl;have n2 : x15.ownBlock ≠ some kb := fun e => p2 kb (q2.2.symm.trans e) rfl;exact ⟨(hB.setCell hk _).setCell hk _, x11, x15, boxS _ _ _ 1 _ (boxS _ _ _ 0 _ qb), hk, own_setJ (own_setJ q1.1 n1) n1, own_setJ (own_setJ q2.1 n2) n2, n1, n2⟩
def JRet (L M : List ByteArray) (w : World) (e : Ending) (w' : World) : Prop := ∃ a5 c5 a6 c6, e = .returned (.agg #[.slice a5 L.length c5, .slice a6 M.length c6]) ∧ Below w.heap.size w w' ∧ w'.ownsRow w.heap.size 9 1 (.slice a5 L.length c5) L.length (L.flatMap encS) ∧ w'.ownsRow w.heap.size 9 1 (.slice a6 M.length c6) M.length (M.flatMap encS)
set_option maxRecDepth 100000 in
theorem specJoin_c (a b a2 b2 : Option Addr) (c d c2 d2 : Nat) (rs ws rs2 ws2 : List ByteArray) (w : World) (l1 : rs.length + rs2.length ≤ 1000000000000) (l2 : ws.length + ws2.length ≤ 1000000000000) (h1 : Reads w a 1 encS rs) (h2 : Reads w b 1 encS ws) (h3 : Reads w a2 1 encS rs2) (h4 : Reads w b2 1 encS ws2) :
 Calls prog 145 #[.agg #[.slice a rs.length c, .slice b ws.length d], .agg #[.slice a2 rs2.length c2, .slice b2 ws2.length d2]] w (JRet (joinS rs rs2) (joinS ws ws2) w) := by
 obtain ⟨i0, hi0, hzz⟩ := Option.map_eq_some_iff.1 infoString;simp only [Prod.mk.injEq] at hzz;have HI := hid9 hi0;have HZ := hid9 hzz;clear hi0 hzz;obtain ⟨W0, hW0⟩ : ∃ W0, W0 = ((w.alloc (.cells #[.slice a rs.length c, .slice b ws.length d] 31)).alloc (.cells #[.slice a2 rs2.length c2, .slice b2 ws2.length d2] 31)).alloc (.cells #[.slice none 0 0, .slice none 0 0] 31) := ⟨_, rfl⟩;have HB0 := hid9 (show Below w.heap.size w W0 from by subst hW0; exact bel9);have X2 := hid9 (show Box W0 w.heap.size [.slice a rs.length c, .slice b ws.length d] from by subst hW0; exact ((Box.new w _ _).alloc _).alloc _);have X3 := hid9 (show Box W0 (w.heap.size + 1) [.slice a2 rs2.length c2, .slice b2 ws2.length d2] from by
  subst hW0;have h := (Box.new (w.alloc (.cells #[.slice a rs.length c, .slice b ws.length d] 31)) [.slice a2 rs2.length c2, .slice b2 ws2.length d2] 31).alloc (.cells #[.slice none 0 0, .slice none 0 0] 31);simpa using h)
 have X4 := hid9 (show Box W0 (w.heap.size + 1 + 1) [.slice none 0 0, .slice none 0 0] from by
  subst hW0;have h := Box.new ((w.alloc (.cells #[.slice a rs.length c, .slice b ws.length d] 31)).alloc (.cells #[.slice a2 rs2.length c2, .slice b2 ws2.length d2] 31)) [.slice none 0 0, .slice none 0 0] 31;simpa using h)
 have R3 := hid9 (h3.below HB0.out);have R4 := hid9 (h4.below HB0.out);have hs0 : W0.heap.size = w.heap.size + 3 := by subst hW0; simp
 have R1 := hid9 (h1.below HB0.out);have R2 := hid9 (h2.below HB0.out);clear h1 h2 h3 h4;go_enter func145, ntmps145;go_upto_region 1 with fail;rw [← hW0];clear hW0;go_cut [5] from 8 to 17 (fun sx wx => Hid (∃ b5, sx = .pointer (some ⟨b5, 0, none⟩) ∧ Below W0.heap.size W0 wx ∧ JT W0.heap.size b5 rs ws wx))
 case first =>
  have hbel := hid9 (fun X (h : Below W0.heap.size W0 X) => (X2.out.below h : Box X w.heap.size [.slice a rs.length c, .slice b ws.length d]));have hRa := hid9 (fun X (h : Below W0.heap.size W0 X) => (R1.out.below h : Reads X a 1 encS rs));have hRb := hid9 (fun X (h : Below W0.heap.size W0 X) => (R2.out.below h : Reads X b 1 encS ws));clear R1 R2 X2 HB0;refine wp_region_run (fun l A W => Hid (∃ g0 g1 g2 g3 g4 g5 g6 g7 g8 g9 x5 x8 x9 x10 x11 x12 x13 x14 x15 x16, l = #[g0, g1, g2, g3, g4, g5, g6, g7, g8, g9, false] ∧ A = { tmps := #[.agg #[.slice a rs.length c, .slice b ws.length d], .agg #[.slice a2 rs2.length c2, .slice b2 ws2.length d2], .pointer (some ⟨w.heap.size, 0, none⟩), .pointer (some ⟨w.heap.size + 1, 0, none⟩), .pointer (some ⟨w.heap.size + 1 + 1, 0, none⟩), x5, undef, undef, x8, x9, x10, x11, x12, x13, x14, x15, x16, undef, undef, undef, undef, undef, undef, undef, undef, undef, undef, undef, undef, undef, undef, undef, undef, undef, undef, undef, undef, undef, undef, undef, undef, undef, undef, undef, undef, undef, undef, undef, undef, undef], defers := [] } ∧ JF W0 rs ws [.slice none 0 0, .slice none 0 0] g0 g3 g4 g7 g9 x8 x11 x12 x15 x5 W ∧ ((g3 = true → g0 = true) ∧ (g7 = true → g4 = true) ∧ (g8 = true → g3 = true ∧ g7 = true)) ∧ (g1 = true → x9 = .pointer (some ⟨w.heap.size, 0, none⟩)) ∧ (g2 = true → x10 = .slice a rs.length c) ∧ (g5 = true → x13 = .pointer (some ⟨w.heap.size, 1, none⟩)) ∧ (g6 = true → x14 = .slice b ws.length d) ∧ (g8 = true → x16 = .agg #[x11, x15]))) (by kernel_rfl) (by kernel_rfl) ?_ ?_ ?_
  ·exact hid9 ⟨false, false, false, false, false, false, false, false, false, false, undef, undef, undef, undef, undef, undef, undef, undef, undef, undef, rfl, rfl, ⟨⟨none, none, none, rfl, rfl, rfl, apart_none _, apart_none _, apart_none _, (Below.refl _ _).drew⟩⟩, ⟨fun h => h, fun h => h, fun h => ⟨h, h⟩⟩, by simp, by simp, by simp, by simp, by simp⟩
  ·rintro l A W hR i hi hl hr;obtain ⟨g0, g1, g2, g3, g4, g5, g6, g7, g8, g9, x5, x8, x9, x10, x11, x12, x13, x14, x15, x16, rfl, rfl, hF, ⟨h30, h74, h83⟩, h9, h10, h13, h14, h16⟩ := hR.out;have hB := hF.bel;clear hR;have hi' : i < 11 := hi;obtain rfl | rfl | rfl | rfl | rfl | rfl | rfl | rfl | rfl | rfl | rfl : i = 0 ∨ i = 1 ∨ i = 2 ∨ i = 3 ∨ i = 4 ∨ i = 5 ∨ i = 6 ∨ i = 7 ∨ i = 8 ∨ i = 9 ∨ i = 10 := by omega
   ·have hl : g0 = false := hl;subst hl;clear hr hi hi';have e : g3 = false := by cases h : g3 with | false => rfl | true => exact absurd (h30 h) (by decide)
    subst e;refine wpOp_ok (v := .slice (some ⟨W.heap.size, 0, none⟩) 0 0) (w' := W.alloc (.cells #[] 9)) rfl rfl (by go_simp) ?_;exact .inl (hid9 ⟨true, g1, g2, false, g4, g5, g6, g7, g8, g9, x5, _, x9, x10, x11, x12, x13, x14, x15, x16, rfl, rfl, hF.empty, ⟨(fun _ => rfl), h74, h83⟩, h9, h10, h13, h14, h16⟩)
   ·have hl : g1 = false := hl;subst hl;clear hr hi hi';refine wpOp_ok (v := .pointer (some ⟨w.heap.size, 0, none⟩)) (w' := W) rfl rfl (by go_simp) ?_;exact .inl (hid9 ⟨g0, true, g2, g3, g4, g5, g6, g7, g8, g9, x5, x8, _, x10, x11, x12, x13, x14, x15, x16, rfl, rfl, hF, ⟨h30, h74, h83⟩, (fun _ => rfl), h10, h13, h14, h16⟩)
   ·have hl : g2 = false := hl;have d1 : g1 = true := hr _ rfl 0 (by decide) rfl;subst d1;subst hl;clear hr hi hi';have e := h9 rfl;subst e;have k0 := (hbel.out W hB).cell 0 _ rfl;refine wpOp_ok (v := .slice a rs.length c) (w' := W) rfl rfl (by clear h10 h14 h16 h9 h13 h30 h74 h83; go_simp) ?_;exact .inl (hid9 ⟨g0, true, true, g3, g4, g5, g6, g7, g8, g9, x5, x8, _, _, x11, x12, x13, x14, x15, x16, rfl, rfl, hF, ⟨h30, h74, h83⟩, (fun _ => rfl), (fun _ => rfl), h13, h14, h16⟩)
   ·have hl : g3 = false := hl;have d0 : g0 = true := hr _ rfl 0 (by decide) rfl;have d2 : g2 = true := hr _ rfl 1 (by decide) rfl;subst d0;subst d2;subst hl;clear hr hi hi';have e := h10 rfl;subst e;have hX := hid9 (hRa.out W hB);refine wpOp_step rfl (fun K2 hK2 => ?_);refine step_append_reads W (by rfl) _ _ _ (by rfl) W0.heap.size 9 i0 (.string ⟨#[]⟩) 1 16 underlying29 HI.out HZ.out.1 HZ.out.2.1 HZ.out.2.2 rfl (by decide) encS_len encS_one _ 0 [] (by rfl) hF.own a _ c rs (by rfl) rfl hX.out (by unfold maxLen; omega) (by omega) hB.size ?_;intro v1 w1 ho hg hor;refine hK2 _ _ ?_;exact .inl (hid9 ⟨true, g1, true, true, g4, g5, g6, g7, g8, g9, x5, x8, x9, _, _, x12, x13, x14, x15, x16, rfl, rfl, (hF.row ho hg hor), ⟨(fun _ => rfl), h74, (fun h => absurd (h83 h).1 (by decide))⟩, h9, h10, h13, h14, (fun h => absurd (h83 h).1 (by decide))⟩)
   ·have hl : g4 = false := hl;subst hl;clear hr hi hi';have e : g7 = false := by cases h : g7 with | false => rfl | true => exact absurd (h74 h) (by decide)
    subst e;refine wpOp_ok (v := .slice (some ⟨W.heap.size, 0, none⟩) 0 0) (w' := W.alloc (.cells #[] 9)) rfl rfl (by go_simp) ?_;exact .inl (hid9 ⟨g0, g1, g2, g3, true, g5, g6, false, g8, g9, x5, x8, x9, x10, x11, _, x13, x14, x15, x16, rfl, rfl, hF.swap.empty.swap, ⟨h30, (fun _ => rfl), h83⟩, h9, h10, h13, h14, h16⟩)
   ·have hl : g5 = false := hl;subst hl;clear hr hi hi';refine wpOp_ok (v := .pointer (some ⟨w.heap.size, 1, none⟩)) (w' := W) rfl rfl (by go_simp) ?_;exact .inl (hid9 ⟨g0, g1, g2, g3, g4, true, g6, g7, g8, g9, x5, x8, x9, x10, x11, x12, _, x14, x15, x16, rfl, rfl, hF, ⟨h30, h74, h83⟩, h9, h10, (fun _ => rfl), h14, h16⟩)
   ·have hl : g6 = false := hl;have d5 : g5 = true := hr _ rfl 0 (by decide) rfl;subst d5;subst hl;clear hr hi hi';have e := h13 rfl;subst e;have k1 := (hbel.out W hB).cell 1 _ rfl;refine wpOp_ok (v := .slice b ws.length d) (w' := W) rfl rfl (by clear h10 h14 h16 h9 h13 h30 h74 h83; go_simp) ?_;exact .inl (hid9 ⟨g0, g1, g2, g3, g4, true, true, g7, g8, g9, x5, x8, x9, x10, x11, x12, _, _, x15, x16, rfl, rfl, hF, ⟨h30, h74, h83⟩, h9, h10, (fun _ => rfl), (fun _ => rfl), h16⟩)
   ·have hl : g7 = false := hl;have d4 : g4 = true := hr _ rfl 0 (by decide) rfl;have d6 : g6 = true := hr _ rfl 1 (by decide) rfl;subst d4;subst d6;subst hl;clear hr hi hi';have e := h14 rfl;subst e;have hX := hid9 (hRb.out W hB);refine wpOp_step rfl (fun K2 hK2 => ?_);refine step_append_reads W (by rfl) _ _ _ (by rfl) W0.heap.size 9 i0 (.string ⟨#[]⟩) 1 16 underlying29 HI.out HZ.out.1 HZ.out.2.1 HZ.out.2.2 rfl (by decide) encS_len encS_one _ 0 [] (by rfl) hF.swap.own b _ d ws (by rfl) rfl hX.out (by unfold maxLen; omega) (by omega) hB.size ?_;intro v1 w1 ho hg hor;refine hK2 _ _ ?_;exact .inl (hid9 ⟨g0, g1, g2, g3, true, g5, true, true, g8, g9, x5, x8, x9, x10, x11, x12, x13, _, _, x16, rfl, rfl, (hF.swap.row ho hg hor).swap, ⟨h30, (fun _ => rfl), (fun h => absurd (h83 h).2 (by decide))⟩, h9, h10, h13, h14, (fun h => absurd (h83 h).2 (by decide))⟩)
   ·have hl : g8 = false := hl;have d3 : g3 = true := hr _ rfl 0 (by decide) rfl;have d7 : g7 = true := hr _ rfl 1 (by decide) rfl;subst d3;subst d7;subst hl;clear hr hi hi';obtain ⟨y1, e1, hv1, -⟩ := reads_of_owns (enc := encS) (K := 1) encS_len hF.row1;obtain ⟨y2, e2, hv2, -⟩ := reads_of_owns (enc := encS) (K := 1) encS_len hF.swap.row1;subst hv1;subst hv2;refine wpOp_ok (v := .agg #[.slice y1 rs.length e1, .slice y2 ws.length e2]) (w' := W) rfl rfl (by clear h10 h14 h16 h9 h13 h30 h74 h83; go_simp) ?_;exact .inl (hid9 ⟨g0, g1, g2, true, g4, g5, g6, true, true, g9, x5, x8, x9, x10, _, x12, x13, x14, _, _, rfl, rfl, hF, ⟨h30, h74, (fun _ => ⟨rfl, rfl⟩)⟩, h9, h10, h13, h14, (fun _ => rfl)⟩)
   ·have hl : g9 = false := hl;subst hl;clear hr hi hi';refine wpOp_ok (v := .pointer (some ⟨W.heap.size, 0, none⟩)) (w' := W.alloc (.cells #[.slice none 0 0, .slice none 0 0] 31)) rfl rfl (by go_simp) ?_;exact .inl (hid9 ⟨g0, g1, g2, g3, g4, g5, g6, g7, g8, true, _, x8, x9, x10, x11, x12, x13, x14, x15, x16, rfl, rfl, hF.box 31, ⟨h30, h74, h83⟩, h9, h10, h13, h14, h16⟩)
   ·have hl : false = false := hl;have d9 : g9 = true := hr _ rfl 0 (by decide) rfl;have d8 : g8 = true := hr _ rfl 1 (by decide) rfl;have d7 : g7 = true := hr _ rfl 2 (by decide) rfl;have d0 : g0 = true := hr _ rfl 3 (by decide) rfl;have d1 : g1 = true := hr _ rfl 4 (by decide) rfl;have d2 : g2 = true := hr _ rfl 5 (by decide) rfl;have d3 : g3 = true := hr _ rfl 6 (by decide) rfl;have d4 : g4 = true := hr _ rfl 7 (by decide) rfl;have d5 : g5 = true := hr _ rfl 8 (by decide) rfl;have d6 : g6 = true := hr _ rfl 9 (by decide) rfl;subst d9;subst d8;subst d7;subst d0;subst d1;subst d2;subst d3;subst d4;subst d5;subst d6;clear hr hi hi';have e := h16 rfl;subst e;obtain ⟨y1, e1, hv1, -⟩ := reads_of_owns (enc := encS) (K := 1) encS_len hF.row1;obtain ⟨y2, e2, hv2, -⟩ := reads_of_owns (enc := encS) (K := 1) encS_len hF.swap.row1;subst hv1;subst hv2;obtain ⟨o1, o2, o3, q1, q2, ⟨kb, rfl, qb, hkb, rfl⟩, p12, p13, p23, hB2⟩ := hF.ex;clear h9 h10 h13 h14 h16 h30 h74 h83 hF;refine wpOp_step rfl (fun K2 hK2 => ?_);have HK2 := hid9 hK2;clear hK2;have Q1 := hid9 q1;have Q2 := hid9 q2;have QB := hid9 qb;have P13 := hid9 p13;have P23 := hid9 p23;have P12 := hid9 p12;have HB2 := hid9 hB2;have f0 := qb.free 0;have f1 := qb.free 1;have c0 := qb.cell 0 _ rfl;have c1 := qb.cell 1 _ rfl;clear q1 q2 qb p12 p13 p23 hB2 hB;go_simp;have hj := way_jt Q1.out Q2.out QB.out P13.out P23.out hkb HB2.out;refine HK2.out _ _ (.inr ⟨all11, ?_⟩);have HJ := hid9 hj;clear hj HK2 K2 c0 c1 f0 f1 Q1 Q2 QB P13 P23 P12 HB2;generalize (World.setCell _ _ _).setCell _ _ = WW at HJ ⊢;go_wp2;go_meet;exact hid9 ⟨kb, rfl, HJ.out.1, HJ.out.2⟩
  ·rintro l A W hR;obtain ⟨g0, g1, g2, g3, g4, g5, g6, g7, g8, g9, x5, x8, x9, x10, x11, x12, x13, x14, x15, x16, rfl, rfl, -⟩ := hR.out;exact ⟨rfl, 10, by decide, rfl⟩
 case rest =>
  obtain ⟨b5, rfl, hbx, hj⟩ := hcut.out;have B00 := hid9 hbx;have J00 := hid9 hj;clear hbx hj hcut R1 R2 X2;go_wp2_with fail;go_loopw [6] (fun i wr => ∃ k : Nat, k ≤ rs2.length ∧ i = .int .i64 k ∧ Hid (Below W0.heap.size W0 wr ∧ JT W0.heap.size b5 (joinS rs (rs2.take k)) ws wr)) (fun i _ => rs2.length - (intOf i).toNat)
  case atStart => exact ⟨0, Nat.zero_le _, rfl, hid9 ⟨B00.out, J00.out⟩⟩
  case round =>
   obtain ⟨k, hk, rfl, HJ⟩ := hrel;obtain ⟨hB, hj⟩ := HJ.out;have hB' := hid9 hB.drew;have HJ2 := hid9 (show JT W0.heap.size b5 (joinS rs (rs2.take k)) ws wr.drew from hj);obtain ⟨v1, v2, xb, hb5, o1, o2, n1, n2⟩ := hj;obtain ⟨y1, e1, hv1, r1, q1, q2⟩ := reads_of_owns' encS_len o1;obtain ⟨y2, e2, hv2, -⟩ := reads_of_owns encS_len o2;subst hv1;subst hv2;have x30 := (X3.out.below hB).cell 0 _ rfl;have XB := hid9 xb.drew;have c0 := xb.cell 0 _ rfl;by_cases hlt : k < rs2.length
   ·obtain ⟨x, hx⟩ := some_of_lt hlt;obtain ⟨bq, off, hab, cx⟩ := readqCString (R3.out.below hB) (Below.refl _ _) hx;have hab' := hab;subst hab';have p1 : (0 : Int) ≤ (k : Int) := by omega
    have p2 : (k : Int) < (rs2.length : Int) := by omega
    have HX := hid9 hx;have hle : (joinS rs (rs2.take k)).length ≤ 2100000000000 := by
     have h := joinS_len (rs2.take k) rs;rw [List.length_take, Nat.min_eq_left hk] at h;omega
    have K1 := hid9 (specAddSpan_c y1 e1 (joinS rs (rs2.take k)) x wr.drew hle r1 q1 q2);clear hx hlt hab r1 q1 q2 o1 o2 n1 n2 xb hB HJ hle;go_wp2_with fail;go_region_with (refine K1.out.mono ?_; rintro e w2 ⟨v3, rfl, ho3, hb3⟩; obtain ⟨y3, e3, hv3, -⟩ := reads_of_owns encS_len ho3; subst hv3; have f9 := (XB.out.below hb3).free 0; have c9 := (XB.out.below hb3).cell 0 _ rfl; have HN := hid9 (And.intro ((hB'.out.trans (hb3.mono hB'.out.size)).setCell hb5 _ : Below W0.heap.size W0 (w2.setCell ⟨b5, 0, none⟩ (.slice y3 (addS (joinS rs (List.take k rs2)) x).length e3))) (HJ2.out.next hB'.out.size hb3 ho3)); clear c0 x30 cx ho3 hb3)
    all_goals go_wp2
    all_goals exact ⟨⟨k + 1, by omega, by go_num, hid9 ⟨HN.out.1, by rw [joinS_take HX.out]; exact HN.out.2⟩⟩, by simp [intOf]; omega⟩
   ·obtain rfl : k = rs2.length := by omega
    have p2 : ¬ ((rs2.length : Nat) : Int) < (rs2.length : Int) := by omega
    obtain ⟨hB2, hj2⟩ := HJ.out;rw [List.take_length] at hj2;have B0 := hid9 hB2;have J0 := hid9 hj2;clear o1 o2 n1 n2 r1 q1 q2 xb XB c0 hB HJ HJ2 hB' hB2 hj2 hlt R3;go_wp2_with fail;clear x30;go_loopw [7] (fun i wr => ∃ k : Nat, k ≤ ws2.length ∧ i = .int .i64 k ∧ Hid (Below W0.heap.size W0 wr ∧ JT W0.heap.size b5 (joinS rs rs2) (joinS ws (ws2.take k)) wr)) (fun i _ => ws2.length - (intOf i).toNat)
    case atStart => exact ⟨0, Nat.zero_le _, rfl, hid9 ⟨B0.out, J0.out⟩⟩
    case round =>
     obtain ⟨k, hk, rfl, HJ⟩ := hrel;obtain ⟨hB, hj⟩ := HJ.out;have hB' := hid9 hB.drew;have HJ2 := hid9 (show JT W0.heap.size b5 (joinS rs rs2) (joinS ws (ws2.take k)) wr.drew from hj);obtain ⟨v1, v2, xb, hb5, o1, o2, n1, n2⟩ := hj;obtain ⟨y1, e1, hv1, -⟩ := reads_of_owns encS_len o1;obtain ⟨y2, e2, hv2, r1, q1, q2⟩ := reads_of_owns' encS_len o2;subst hv1;subst hv2;have x31 := (X3.out.below hB).cell 1 _ rfl;have XB := hid9 xb.drew;have c0 := xb.cell 1 _ rfl;by_cases hlt : k < ws2.length
     ·obtain ⟨x, hx⟩ := some_of_lt hlt;obtain ⟨bq, off, hab, cx⟩ := readqCString (R4.out.below hB) (Below.refl _ _) hx;have hab' := hab;subst hab';have p1 : (0 : Int) ≤ (k : Int) := by omega
      have p2 : (k : Int) < (ws2.length : Int) := by omega
      have HX := hid9 hx;have hle : (joinS ws (ws2.take k)).length ≤ 2100000000000 := by
       have h := joinS_len (ws2.take k) ws;rw [List.length_take, Nat.min_eq_left hk] at h;omega
      have K1 := hid9 (specAddSpan_c y2 e2 (joinS ws (ws2.take k)) x wr.drew hle r1 q1 q2);clear hx hlt hab r1 q1 q2 o1 o2 n1 n2 xb hB HJ hle;go_wp2_with fail;go_region_with (refine K1.out.mono ?_; rintro e w2 ⟨v3, rfl, ho3, hb3⟩; obtain ⟨y3, e3, hv3, -⟩ := reads_of_owns encS_len ho3; subst hv3; have f9 := (XB.out.below hb3).free 1; have c9 := (XB.out.below hb3).cell 1 _ rfl; have HN := hid9 (And.intro ((hB'.out.trans (hb3.mono hB'.out.size)).setCell hb5 _ : Below W0.heap.size W0 (w2.setCell ⟨b5, 1, none⟩ (.slice y3 (addS (joinS ws (List.take k ws2)) x).length e3))) (HJ2.out.next2 hB'.out.size hb3 ho3)); clear c0 x31 cx ho3 hb3)
      all_goals go_wp2
      all_goals exact ⟨⟨k + 1, by omega, by go_num, hid9 ⟨HN.out.1, by rw [joinS_take HX.out]; exact HN.out.2⟩⟩, by simp [intOf]; omega⟩
     ·obtain rfl : k = ws2.length := by omega
      have p2 : ¬ ((ws2.length : Nat) : Int) < (ws2.length : Int) := by omega
      rw [List.take_length] at o2;have c1 := c0;have c0 := xb.cell 0 _ rfl;have z0 := (X4.out.below hB).cell 0 _ rfl;have z1 := (X4.out.below hB).cell 1 _ rfl;have g0 := (X4.out.below hB).free 0;have g1 := (X4.out.below hB).free 1;rw [List.take_length] at c1;have HE := hid9 (show Below w.heap.size w ((wr.setCell ⟨w.heap.size + 1 + 1, 0, none⟩ (.slice y1 (joinS rs rs2).length e1)).setCell ⟨w.heap.size + 1 + 1, 1, none⟩ (.slice y2 (joinS ws ws2).length e2)) ∧ World.ownsRow ((wr.setCell ⟨w.heap.size + 1 + 1, 0, none⟩ (.slice y1 (joinS rs rs2).length e1)).setCell ⟨w.heap.size + 1 + 1, 1, none⟩ (.slice y2 (joinS ws ws2).length e2)) w.heap.size 9 1 (.slice y1 (joinS rs rs2).length e1) (joinS rs rs2).length ((joinS rs rs2).flatMap encS) ∧ World.ownsRow ((wr.setCell ⟨w.heap.size + 1 + 1, 0, none⟩ (.slice y1 (joinS rs rs2).length e1)).setCell ⟨w.heap.size + 1 + 1, 1, none⟩ (.slice y2 (joinS ws ws2).length e2)) w.heap.size 9 1 (.slice y2 (joinS ws ws2).length e2) (joinS ws ws2).length ((joinS ws ws2).flatMap encS) from by
       rw [List.take_length] at n2;have m1 : (Value.slice y1 (joinS rs rs2).length e1).ownBlock ≠ some (w.heap.size + 1 + 1) := fun e => by have := (o1.lt _ e).1; omega
       have m2 : (Value.slice y2 (joinS ws ws2).length e2).ownBlock ≠ some (w.heap.size + 1 + 1) := fun e => by have := (o2.lt _ e).1; omega
       refine ⟨((HB0.out.trans (hB.mono HB0.out.size)).setCell (by show w.heap.size ≤ w.heap.size + 1 + 1; omega) _).setCell (by show w.heap.size ≤ w.heap.size + 1 + 1; omega) _, ?_, ?_⟩
       ·exact own_lowJ (own_setJ (own_setJ o1 m1) m1) (by omega)
       ·exact own_lowJ (own_setJ (own_setJ o2 m2) m2) (by omega))
      clear o1 o2 n1 n2 r1 q1 q2 xb XB hB HJ HJ2 hB' hlt R4 HB0;go_wp2_with fail;refine bodyPost_ret (v := .agg #[.slice y1 (joinS rs rs2).length e1, .slice y2 (joinS ws ws2).length e2]) (by simp [results, results145, go_sem, z0, z1]) rfl ⟨y1, e1, y2, e2, rfl, HE.out⟩
end
section
open Go Go.ChangeShapes Go.WideShapes Go.ChangeAt Go.RowKit
def vbz (z : Value) : Option Nat → Value
 | none => z
 | some b => ptr0 b
section
variable (P : Program) (ops : Array Oper) (Q : Exit → Act → World → Prop) (S : World → Prop) (p q tp tq : Nat) (Zp Zq : List Value) (z1 z2 : Value)
def GZ (B f : Nat) (l : Array Bool) (a : Act) (F : Nat → Prop) (Inv : World → Prop) : Prop :=
 ∀ (o1 o2 : Option Nat) (W : World), Inv W → (∀ k, F k → k < W.heap.size) → B ≤ W.heap.size → Made W B Zp F o1 → Made W B Zq F o2 → (∀ b, o1 = some b → o2 ≠ some b) → wpAnyY P .any ops Q S [] (f + need o1 + need o2) (mk2 l p q o1 o2) (pA a tp tq (vbz z1 o1) (vbz z2 o2)) W
end
section
variable {P : Program} {ops : Array Oper} {Q : Exit → Act → World → Prop} {S : World → Prop} {p q tp tq : Nat} {Zp Zq : List Value} {z1 z2 : Value} {Tp Tq : TypeId} {B f : Nat} {l : Array Bool} {a : Act} {F : Nat → Prop} {Inv : World → Prop}
theorem GZ.start (h : GZ P ops Q S p q tp tq Zp Zq z1 z2 B f l a F Inv) {W : World} (hI : Inv W) (hF : ∀ k, F k → k < W.heap.size) (hB : B ≤ W.heap.size) (ha : pA a tp tq z1 z2 = a) : wpAnyY P .any ops Q S [] (f + 1 + 1) l a W := by
 have := h none none W hI hF hB Made.none Made.none (fun b e => by cases e);rw [show pA a tp tq (vbz z1 none) (vbz z2 none) = a from ha] at this;exact this
theorem GZ.begin (T : TwoAl P ops Q p q tp tq Zp Zq Tp Tq) {W : World} (hI : Inv W) (hF : ∀ k, F k → k < W.heap.size) (hB : B ≤ W.heap.size) (h : TwoAl P ops Q p q tp tq Zp Zq Tp Tq → GZ P ops Q S p q tp tq Zp Zq z1 z2 B f l a F Inv) (ha : pA a tp tq z1 z2 = a := by rfl) : wpAnyY P .any ops Q S [] (f + 1 + 1) l a W := (h T).start hI hF hB ha
theorem GZ.build (T : TwoAl P ops Q p q tp tq Zp Zq Tp Tq) (hS : ∀ W, Inv W → S W) (hinv : ∀ W W', Inv W → Below W.heap.size W W' → Inv W') (c : List Nat)
 (hr : (((Region.ready .any ops l).all (fun i => i == p || i == q || c.contains i) && !(Region.ready .any ops l).isEmpty) && ((Region.ready .any ops (l.setIfInBounds p true)).all (fun i => i == q || c.contains i) && !(Region.ready .any ops (l.setIfInBounds p true)).isEmpty) && ((Region.ready .any ops (l.setIfInBounds q true)).all (fun i => i == p || c.contains i) && !(Region.ready .any ops (l.setIfInBounds q true)).isEmpty)) = true)
 (h11 : ∀ b1 b2 W, Inv W → (∀ k, F k → k < W.heap.size) → B ≤ W.heap.size → Made W B Zp F (some b1) → Made W B Zq F (some b2) → b1 ≠ b2 → wpAnyY P .any ops Q S [] f ((l.setIfInBounds p true).setIfInBounds q true) (pA a tp tq (ptr0 b1) (ptr0 b2)) W)
 (hc : ∀ i ∈ c, ∀ (o1 o2 : Option Nat) (n : Nat) (W : World), (o1 = none ∨ o2 = none) → n + 1 = f + need o1 + need o2 → Inv W → (∀ k, F k → k < W.heap.size) → B ≤ W.heap.size → Made W B Zp F o1 → Made W B Zq F o2 → (∀ b, o1 = some b → o2 ≠ some b) → wpOp P ops Q i (fun a' w' => (anyOf [] ((mk2 l p q o1 o2).setIfInBounds i true) = true ∨ S w') ∧ wpAnyY P .any ops Q S [] n ((mk2 l p q o1 o2).setIfInBounds i true) a' w') (pA a tp tq (vbz z1 o1) (vbz z2 o2)) W) :
 GZ P ops Q S p q tp tq Zp Zq z1 z2 B f l a F Inv := by
 simp only [Bool.and_eq_true, Bool.not_eq_true', List.all_eq_true, Bool.or_eq_true, beq_iff_eq, List.isEmpty_eq_false_iff] at hr;obtain ⟨⟨⟨r0, e0⟩, ⟨r1, e1⟩⟩, ⟨r2, e2⟩⟩ := hr;have h10 : ∀ b1 W, Inv W → (∀ k, F k → k < W.heap.size) → B ≤ W.heap.size → Made W B Zp F (some b1) → wpAnyY P .any ops Q S [] (f + 1) (l.setIfInBounds p true) (pA a tp tq (ptr0 b1) z2) W := fun b1 W hI hF hB m1 => by
  refine ⟨fun h => absurd h e1, fun i hi => ?_⟩;rcases r1 i hi with rfl | hci
  ·refine T.hq _ _ W ⟨.inr (hS _ (hinv _ _ hI (below_alloc _ _))), ?_⟩;rw [pA_q];exact h11 b1 W.heap.size _ (hinv _ _ hI (below_alloc _ _)) (fun k hk => Nat.lt_of_lt_of_le (hF k hk) (below_alloc W _).size) (Nat.le_trans hB (below_alloc W _).size) (m1.below (below_alloc _ _)) (made_new B Zq F Tq hF hB) (fun e => by have := ((m1.h b1 rfl).1).1; omega)
  ·exact hc i (by simpa using hci) (some b1) none f W (.inr rfl) (by simp [need]) hI hF hB m1 Made.none (fun b e => by simp)
 have h01 : ∀ b2 W, Inv W → (∀ k, F k → k < W.heap.size) → B ≤ W.heap.size → Made W B Zq F (some b2) → wpAnyY P .any ops Q S [] (f + 1) (l.setIfInBounds q true) (pA a tp tq z1 (ptr0 b2)) W := fun b2 W hI hF hB m2 => by
  refine ⟨fun h => absurd h e2, fun i hi => ?_⟩;rcases r2 i hi with rfl | hci
  ·refine T.hp _ _ W ⟨.inr (hS _ (hinv _ _ hI (below_alloc _ _))), ?_⟩;rw [pA_p T.tpq, set_comm _ (fun e => T.pq e.symm)];exact h11 W.heap.size b2 _ (hinv _ _ hI (below_alloc _ _)) (fun k hk => Nat.lt_of_lt_of_le (hF k hk) (below_alloc W _).size) (Nat.le_trans hB (below_alloc W _).size) (made_new B Zp F Tp hF hB) (m2.below (below_alloc _ _)) (fun e => by have := ((m2.h b2 rfl).1).1; omega)
  ·exact hc i (by simpa using hci) none (some b2) f W (.inl rfl) (by simp [need]) hI hF hB Made.none m2 (fun b e => by cases e)
 have h00 : ∀ W, Inv W → (∀ k, F k → k < W.heap.size) → B ≤ W.heap.size → wpAnyY P .any ops Q S [] (f + 1 + 1) l (pA a tp tq z1 z2) W := fun W hI hF hB => by
  refine ⟨fun h => absurd h e0, fun i hi => ?_⟩;rcases r0 i hi with (rfl | rfl) | hci
  ·refine T.hp _ _ W ⟨.inr (hS _ (hinv _ _ hI (below_alloc _ _))), ?_⟩;rw [pA_p T.tpq];exact h10 W.heap.size _ (hinv _ _ hI (below_alloc _ _)) (fun k hk => Nat.lt_of_lt_of_le (hF k hk) (below_alloc W _).size) (Nat.le_trans hB (below_alloc W _).size) (made_new B Zp F Tp hF hB)
  ·refine T.hq _ _ W ⟨.inr (hS _ (hinv _ _ hI (below_alloc _ _))), ?_⟩;rw [pA_q];exact h01 W.heap.size _ (hinv _ _ hI (below_alloc _ _)) (fun k hk => Nat.lt_of_lt_of_le (hF k hk) (below_alloc W _).size) (Nat.le_trans hB (below_alloc W _).size) (made_new B Zq F Tq hF hB)
  ·exact hc i (by simpa using hci) none none (f + 1) W (.inl rfl) (by simp [need]) hI hF hB Made.none Made.none (fun b e => by cases e)
 intro o1 o2 W hI hF hB m1 m2 hd;cases o1 with
 | none => cases o2 with
  | none => exact h00 W hI hF hB
  | some b2 => exact h01 b2 W hI hF hB m2
 | some b1 => cases o2 with
  | none => exact h10 b1 W hI hF hB m1
  | some b2 => exact h11 b1 b2 W hI hF hB m1 m2 (fun e => hd b1 rfl (by rw [e]))
theorem GZ.last (T : TwoAl P ops Q p q tp tq Zp Zq Tp Tq) (hS : ∀ W, Inv W → S W) (hinv : ∀ W W', Inv W → Below W.heap.size W W' → Inv W')
 (h11 : ∀ b1 b2 W, Inv W → Box W b1 Zp → Box W b2 Zq → B ≤ b1 → B ≤ b2 → ¬ F b1 → ¬ F b2 → b1 ≠ b2 → wpAnyY P .any ops Q S [] f ((l.setIfInBounds p true).setIfInBounds q true) (pA a tp tq (ptr0 b1) (ptr0 b2)) W)
 (hr : (((Region.ready .any ops l).all (fun i => i == p || i == q || ([] : List Nat).contains i) && !(Region.ready .any ops l).isEmpty) && ((Region.ready .any ops (l.setIfInBounds p true)).all (fun i => i == q || ([] : List Nat).contains i) && !(Region.ready .any ops (l.setIfInBounds p true)).isEmpty) && ((Region.ready .any ops (l.setIfInBounds q true)).all (fun i => i == p || ([] : List Nat).contains i) && !(Region.ready .any ops (l.setIfInBounds q true)).isEmpty)) = true := by kernel_rfl) :
 GZ P ops Q S p q tp tq Zp Zq z1 z2 B f l a F Inv :=
 GZ.build T hS hinv [] hr (fun b1 b2 W hI hF hB m1 m2 hd => by
  obtain ⟨x1, x2, x3⟩ := m1.h b1 rfl;obtain ⟨y1, y2, y3⟩ := m2.h b2 rfl;exact h11 b1 b2 W hI x1 y1 x2 y2 x3 y3 hd) (fun i hi => by simp at hi)
theorem GZ.call (T : TwoAl P ops Q p q tp tq Zp Zq Tp Tq) (hS : ∀ W, Inv W → S W) (hinv : ∀ W W', Inv W → Below W.heap.size W W' → Inv W') (c : Nat) {oc : Oper} {d : Nat} (Post : Value → World → Prop) (Own : Value → Nat → Prop)
 (hpost : ∀ u W W', Post u W → Below W.heap.size W W' → Post u W')
 (hcall : ∀ x y W, Inv W → ∀ K : Act → World → Prop, Shut (∀ u W', Below W.heap.size W W' → Post u W' → (∀ k, Own u k → W.heap.size ≤ k ∧ k < W'.heap.size) → K ((pA a tp tq x y).put (some d) u) W') → Oper.wp P oc (pA a tp tq x y) W K Q)
 (hnext : ∀ u, (∃ W, Post u W) → GZ P ops Q S p q tp tq Zp Zq z1 z2 B f (l.setIfInBounds c true) (a.put (some d) u) (fun k => F k ∨ Own u k) (fun W => Inv W ∧ Post u W))
 (hc : ops[c]? = some oc := by rfl) (hd : oc.dst = some d := by rfl) (hg : oc.guard = none := by rfl) (n1 : d ≠ tp := by decide) (n2 : d ≠ tq := by decide) (n3 : c ≠ p := by decide) (n4 : c ≠ q := by decide)
 (hr : ((((Region.ready .any ops l).all (fun i => i == p || i == q || [c].contains i) && !(Region.ready .any ops l).isEmpty) && ((Region.ready .any ops (l.setIfInBounds p true)).all (fun i => i == q || [c].contains i) && !(Region.ready .any ops (l.setIfInBounds p true)).isEmpty) && ((Region.ready .any ops (l.setIfInBounds q true)).all (fun i => i == p || [c].contains i) && !(Region.ready .any ops (l.setIfInBounds q true)).isEmpty)) && ((Region.ready .any ops ((l.setIfInBounds p true).setIfInBounds q true)).all (fun i => i == c) && !(Region.ready .any ops ((l.setIfInBounds p true).setIfInBounds q true)).isEmpty)) = true := by kernel_rfl) :
 GZ P ops Q S p q tp tq Zp Zq z1 z2 B (f + 1) l a F Inv := by
 rw [Bool.and_eq_true] at hr;obtain ⟨hr, hr2⟩ := hr;have step : ∀ (o1 o2 : Option Nat) (n : Nat) (W : World), n + 1 = f + 1 + need o1 + need o2 → Inv W → (∀ k, F k → k < W.heap.size) → B ≤ W.heap.size → Made W B Zp F o1 → Made W B Zq F o2 → (∀ b, o1 = some b → o2 ≠ some b) → wpOp P ops Q c (fun a' w' => (anyOf [] ((mk2 l p q o1 o2).setIfInBounds c true) = true ∨ S w') ∧ wpAnyY P .any ops Q S [] n ((mk2 l p q o1 o2).setIfInBounds c true) a' w') (pA a tp tq (vbz z1 o1) (vbz z2 o2)) W := by
  intro o1 o2 n W hn hI hF hB m1 m2 hdd;obtain rfl : n = f + need o1 + need o2 := by omega
  refine wpOp_step hc (fun K' hK => ?_);rw [if_pos (wanted_none hg _)];refine hcall _ _ W hI K' (fun u W' hb hp ho => hK _ _ ⟨.inr (hS _ (hinv _ _ hI hb)), ?_⟩);rw [pA_o n1 n2, mk_o n3 n4];refine hnext u ⟨W', hp⟩ o1 o2 W' ⟨hinv _ _ hI hb, hp⟩ (fun k hk => hk.elim (fun h => Nat.lt_of_lt_of_le (hF k h) hb.size) (fun h => (ho k h).2)) (Nat.le_trans hB hb.size) ⟨fun b e => ?_⟩ ⟨fun b e => ?_⟩ hdd
  ·obtain ⟨h1, h2, h3⟩ := m1.h b e;exact ⟨h1.below hb, h2, fun h => h.elim h3 (fun h => by have := (ho b h).1; have := h1.1; omega)⟩
  ·obtain ⟨h1, h2, h3⟩ := m2.h b e;exact ⟨h1.below hb, h2, fun h => h.elim h3 (fun h => by have := (ho b h).1; have := h1.1; omega)⟩
 refine GZ.build T hS hinv [c] hr (fun b1 b2 W hI hF hB m1 m2 hd12 => ?_) (fun i hi o1 o2 n W _ hn hI hF hB m1 m2 hdd => by
  obtain rfl := List.mem_singleton.1 hi;exact step o1 o2 n W hn hI hF hB m1 m2 hdd)
 simp only [Bool.and_eq_true, Bool.not_eq_true', List.all_eq_true, beq_iff_eq, List.isEmpty_eq_false_iff] at hr2;refine ⟨fun h => absurd h hr2.2, fun i hi => ?_⟩;obtain rfl := hr2.1 i hi;exact step (some b1) (some b2) f W (by simp [need]) hI hF hB m1 m2 (fun b e e2 => by cases e; cases e2; exact hd12 rfl)
theorem GZ.pure (hS : ∀ W, Inv W → S W) (i : Nat) {oi : Oper} {d : Nat} {v : Value} (hy : ∀ x y W, (execOp (pA a tp tq x y).eval oi).run P W = .ok (.value v) W)
 (h : GZ P ops Q S p q tp tq Zp Zq z1 z2 B f (l.setIfInBounds i true) (a.put (some d) v) F Inv) (hi : ops[i]? = some oi := by rfl) (hd : oi.dst = some d := by rfl) (hg : oi.guard = none := by rfl) (n1 : d ≠ tp := by decide) (n2 : d ≠ tq := by decide) (n3 : i ≠ p := by decide) (n4 : i ≠ q := by decide)
 (hs : Region.noSelect ops = true := by kernel_rfl) (hr : chk4 (fun l => Region.free .any ops l i && (Region.ready .any ops l).contains i) l p q = true := by kernel_rfl) (hQ : ∀ c a w, Q (.panic c) (a.put (some d) v) w → Q (.panic c) a w := by exact fun _ _ _ h => h) :
 GZ P ops Q S p q tp tq Zp Zq z1 z2 B (f + 1) l a F Inv := by
 intro o1 o2 W hI hF hB m1 m2 hdd;have hk := chk4_mk (o1 := o1) (o2 := o2) hr;rw [Bool.and_eq_true] at hk;have key := h o1 o2 W hI hF hB m1 m2 hdd;rw [← pA_o n1 n2, ← mk_o n3 n4] at key;rw [show f + 1 + need o1 + need o2 = (f + need o1 + need o2) + 1 by omega];rw [← hd] at key;exact wpAnyY_pure hi hs hk.1 hk.2 rfl (by rw [hd]; exact hQ) (Or.inl ⟨wanted_none hg _, fun w _ => hy _ _ w⟩) (Or.inr (hS _ hI)) key
theorem GZ.load (hS : ∀ W, Inv W → S W) (i : Nat) {oi : Oper} {d : Nat} {v : Value} (hy : ∀ x y W, S W → (execOp (pA a tp tq x y).eval oi).run P W = .ok (.value v) W)
 (h : GZ P ops Q S p q tp tq Zp Zq z1 z2 B f (l.setIfInBounds i true) (a.put (some d) v) F Inv) (hi : ops[i]? = some oi := by rfl) (hd : oi.dst = some d := by rfl) (hg : oi.guard = none := by rfl) (n1 : d ≠ tp := by decide) (n2 : d ≠ tq := by decide) (n3 : i ≠ p := by decide) (n4 : i ≠ q := by decide)
 (hs : Region.noSelect ops = true := by kernel_rfl) (hr : chk4 (fun l => Region.free .any ops l i && (Region.ready .any ops l).contains i && (closedB .any ops l && !(anyOf [] l))) l p q = true := by kernel_rfl) (hQ : ∀ c a w, Q (.panic c) (a.put (some d) v) w → Q (.panic c) a w := by exact fun _ _ _ h => h) :
 GZ P ops Q S p q tp tq Zp Zq z1 z2 B (f + 1) l a F Inv := by
 intro o1 o2 W hI hF hB m1 m2 hdd;have hk := chk4_mk (o1 := o1) (o2 := o2) hr;rw [Bool.and_eq_true, Bool.and_eq_true] at hk;have key := h o1 o2 W hI hF hB m1 m2 hdd;rw [← pA_o n1 n2, ← mk_o n3 n4] at key;rw [show f + 1 + need o1 + need o2 = (f + need o1 + need o2) + 1 by omega];rw [← hd] at key;exact wpAnyY_load 12 hi hs hk.1.1 hk.1.2 hk.2 (by rw [hd]; exact hQ) (Or.inl ⟨wanted_none hg _, fun w hw => hy _ _ w hw⟩) (hS _ hI) (fun _ => key)
end
end
section
open Go.ChangeShapes Go.WideShapes Go.ChangeAt Go.RowKit
attribute [local go_sem ↓] Go.wp_at_zero Go.wp_at_succ
structure LR (base b8 : Nat) (v0 v7 v1 v2 : Value) (m : Mch) (ns : List Ans) (W : World) : Prop where
 x : Box W b8 [v1, v2]
 hb : base ≤ b8
 o0 : W.ownsRow base 99 2 v0 m.st.length (m.st.flatMap encC)
 o7 : W.ownsRow base 28 3 v7 ns.length (ns.flatMap encA)
 o1 : W.ownsRow base 9 1 v1 m.rs.length (m.rs.flatMap encS)
 o2 : W.ownsRow base 9 1 v2 m.ws.length (m.ws.flatMap encS)
 n0 : v0.ownBlock ≠ some b8
 n7 : v7.ownBlock ≠ some b8
 n1 : v1.ownBlock ≠ some b8
 n2 : v2.ownBlock ≠ some b8
 d0 : Apart v7.ownBlock v0.ownBlock
 d1 : Apart v7.ownBlock v1.ownBlock
 d2 : Apart v7.ownBlock v2.ownBlock
section
variable {base b8 : Nat} {v0 v7 v1 v2 v7' u u1 u2 : Value} {m : Mch} {ns ns2 : List Ans} {W W' : World}
theorem LR.below (h : LR base b8 v0 v7 v1 v2 m ns W) (hb : Below W.heap.size W W') : LR base b8 v0 v7 v1 v2 m ns W' :=
 ⟨h.x.below hb, h.hb, ownsRow_below h.o0 hb, ownsRow_below h.o7 hb, ownsRow_below h.o1 hb, ownsRow_below h.o2 hb, h.n0, h.n7, h.n1, h.n2, h.d0, h.d1, h.d2⟩
theorem own_apart {B T K n : Nat} {v : Value} {xs : List Value} {row : Option Nat} (h : W.ownsRow B T K v n xs) (hg : W.grownBy W' row) (ha : Apart row v.ownBlock) : W'.ownsRow B T K v n xs := by
 refine h.kept hg ?_;cases hv : v.ownBlock with
 | none => exact .inl rfl
 | some k => exact .inr (fun e => ha k e.symm hv)
theorem LR.app (h : LR base b8 v0 v7 v1 v2 m ns W) (hg : W.grownBy W' v7.ownBlock) (hor : OwnOr W v7 v7') (ho : W'.ownsRow base 28 3 v7' ns2.length (ns2.flatMap encA)) : LR base b8 v0 v7' v1 v2 m ns2 W' := by
 have up : ∀ {v : Value}, Apart v7.ownBlock v.ownBlock → (∀ k, v.ownBlock = some k → base ≤ k ∧ k < W.heap.size) → Apart v7'.ownBlock v.ownBlock := fun ha hl => ha.upd hor hl;refine ⟨?_, h.hb, own_apart h.o0 hg h.d0, ho, own_apart h.o1 hg h.d1, own_apart h.o2 hg h.d2, h.n0, ?_, h.n1, h.n2, up h.d0 h.o0.lt, up h.d1 h.o1.lt, up h.d2 h.o2.lt⟩
 ·exact ⟨Nat.lt_of_lt_of_le h.x.1 hg.size, h.x.2.elim fun T hT => ⟨T, (hg.block b8 h.x.1 (fun e => h.n7 e.symm)).trans hT⟩⟩
 ·rcases hor with e | hn
  ·rw [e];exact h.n7
  ·intro e;have := hn b8 e;have := h.x.1;omega
theorem LR.state {st : Sto} (h : LR base b8 v0 v7 v1 v2 m ns W) (hz : base ≤ W.heap.size) (hb : Below W.heap.size W W') (ho : W'.ownsRow W.heap.size 99 2 u st.length (st.flatMap encC)) : LR base b8 u v7 v1 v2 ⟨st, m.rs, m.ws⟩ ns W' := by
 have g := h.below hb;refine ⟨g.x, g.hb, own_lowJ ho hz, g.o7, g.o1, g.o2, fun e => ?_, g.n7, g.n1, g.n2, fun k h1 h2 => ?_, g.d1, g.d2⟩
 ·have := (ho.lt _ e).1;have := h.x.1;omega
 ·have := (ho.lt _ h2).1;have := (h.o7.lt _ h1).2;omega
theorem LR.store {L M : List ByteArray} (h : LR base b8 v0 v7 v1 v2 m ns W) (hz : base ≤ W.heap.size) (hb : Below W.heap.size W W') (p1 : W'.ownsRow W.heap.size 9 1 u1 L.length (L.flatMap encS)) (p2 : W'.ownsRow W.heap.size 9 1 u2 M.length (M.flatMap encS)) : LR base b8 v0 v7 u1 u2 ⟨m.st, L, M⟩ ns ((W'.setCell ⟨b8, 0, none⟩ u1).setCell ⟨b8, 1, none⟩ u2) := by
 have g := h.below hb;have q1 : u1.ownBlock ≠ some b8 := fun e => by
  have := (p1.lt _ e).1;have := h.x.1;omega
 have q2 : u2.ownBlock ≠ some b8 := fun e => by
  have := (p2.lt _ e).1;have := h.x.1;omega
 have s : ∀ {T K n : Nat} {v : Value} {xs : List Value}, W'.ownsRow base T K v n xs → v.ownBlock ≠ some b8 → ((W'.setCell ⟨b8, 0, none⟩ u1).setCell ⟨b8, 1, none⟩ u2).ownsRow base T K v n xs := fun h1 h2 => (h1.kept (grownBy_setCell _ b8 0 u1) (.inr h2)).kept (grownBy_setCell _ b8 1 u2) (.inr h2);refine ⟨boxS _ _ _ 1 u2 (boxS _ _ _ 0 u1 g.x), g.hb, s g.o0 g.n0, s g.o7 g.n7, s (own_lowJ p1 hz) q1, s (own_lowJ p2 hz) q2, g.n0, g.n7, q1, q2, g.d0, fun k h1 h2 => ?_, fun k h1 h2 => ?_⟩
 ·have := (p1.lt _ h2).1;have := (h.o7.lt _ h1).2;omega
 ·have := (p2.lt _ h2).1;have := (h.o7.lt _ h1).2;omega
theorem box_grownJ {b : Nat} {xs : List Value} {row : Option Nat} (h : Box W b xs) (hg : W.grownBy W' row) (hn : row ≠ some b) : Box W' b xs := ⟨Nat.lt_of_lt_of_le h.1 hg.size, h.2.elim fun T hT => ⟨T, (hg.block b h.1 (fun e => hn e.symm)).trans hT⟩⟩
theorem LR.fin (h : LR base b8 v0 v7 v1 v2 m ns W) {c : Nat} (hc : c < base) : World.ownsRow ((W.setCell ⟨c, 0, none⟩ u).setCell ⟨c, 1, none⟩ u1) c 99 2 v0 m.st.length (m.st.flatMap encC) ∧ World.ownsRow ((W.setCell ⟨c, 0, none⟩ u).setCell ⟨c, 1, none⟩ u1) c 28 3 v7 ns.length (ns.flatMap encA) ∧ World.ownsRow ((W.setCell ⟨c, 0, none⟩ u).setCell ⟨c, 1, none⟩ u1) c 9 1 v1 m.rs.length (m.rs.flatMap encS) ∧ World.ownsRow ((W.setCell ⟨c, 0, none⟩ u).setCell ⟨c, 1, none⟩ u1) c 9 1 v2 m.ws.length (m.ws.flatMap encS) := by
 have s : ∀ {T K n : Nat} {v : Value} {xs : List Value}, W.ownsRow base T K v n xs → ((W.setCell ⟨c, 0, none⟩ u).setCell ⟨c, 1, none⟩ u1).ownsRow c T K v n xs := fun {T K n v xs} h1 => by
  have ne : v.ownBlock ≠ some c := fun e => by
   have := (h1.lt _ e).1;omega
  exact own_lowJ ((h1.kept (grownBy_setCell _ c 0 u) (.inr ne)).kept (grownBy_setCell _ c 1 u1) (.inr ne)) (Nat.le_of_lt hc)
 exact ⟨s h.o0, s h.o7, s h.o1, s h.o2⟩
theorem LR.start (hx : Box W b8 [.slice none 0 0, .slice none 0 0]) (hb : base ≤ b8) {st : Sto} (o0 : W.ownsRow base 99 2 v0 st.length (st.flatMap encC)) (o7 : W.ownsRow base 28 3 v7 0 []) (n0 : v0.ownBlock ≠ some b8) (n7 : v7.ownBlock ≠ some b8) (d0 : Apart v7.ownBlock v0.ownBlock) : LR base b8 v0 v7 (.slice none 0 0) (.slice none 0 0) ⟨st, [], []⟩ [] W :=
 ⟨hx, hb, o0, o7, World.ownsRow_nil _ _ _ _, World.ownsRow_nil _ _ _ _, n0, n7, fun h => by simp [Value.ownBlock] at h, fun h => by simp [Value.ownBlock] at h, d0, fun k _ h => by simp [Value.ownBlock] at h, fun k _ h => by simp [Value.ownBlock] at h⟩
end
theorem own_noneJ {w : World} {base T K n cap : Nat} {a : Option Addr} {m : Nat} {cells : List Value} (h : w.ownsRow base T K (.slice a n cap) m cells) : a = none → cap = 0 := fun e => by
 subst e;rcases h.2 with ⟨h1, _⟩ | ⟨_, _, _, h1, _⟩
 ·cases h1;rfl
 ·cases h1
def LQ (base b8 : Nat) (w0 : World) (m : Mch) (ns : List Ans) (v0 v7 : Value) (W : World) : Prop := ∃ a0 c0 a7 c7 v1 v2, v0 = .slice a0 m.st.length c0 ∧ v7 = .slice a7 ns.length c7 ∧ LR base b8 v0 v7 v1 v2 m ns W ∧ Below base w0 W
theorem encC_oneJ (x : ByteArray × ByteArray) : ∀ u ∈ encC x, u.oneCell' = true := by
 intro u hu;simp only [encC, List.mem_cons, List.not_mem_nil, or_false] at hu;rcases hu with rfl | rfl <;> rfl
def LRet (m' : Mch) (ns : List Ans) (w : World) (e : Ending) (w' : World) : Prop :=
 ∃ a0 c0 a7 c7 a1 c1 a2 c2, e = .returned (.tuple #[.slice a0 m'.st.length c0, .slice a7 ns.length c7, .agg #[.slice a1 m'.rs.length c1, .slice a2 m'.ws.length c2]]) ∧ Below w.heap.size w w' ∧ w'.ownsRow w.heap.size 99 2 (.slice a0 m'.st.length c0) m'.st.length (m'.st.flatMap encC) ∧ w'.ownsRow w.heap.size 28 3 (.slice a7 ns.length c7) ns.length (ns.flatMap encA) ∧ w'.ownsRow w.heap.size 9 1 (.slice a1 m'.rs.length c1) m'.rs.length (m'.rs.flatMap encS) ∧ w'.ownsRow w.heap.size 9 1 (.slice a2 m'.ws.length c2) m'.ws.length (m'.ws.flatMap encS)
set_option maxRecDepth 100000 in
theorem l15Run_c (a a2 : Option Addr) (cap cap2 : Nat) (xs : Sto) (ss : List Stp) (w : World) (hr : Reads w a 2 encC xs) (hr2 : Reads w a2 7 encStp ss) (ho : RunOk ss xs) :
 Calls prog 82 #[.slice a xs.length cap, .slice a2 ss.length cap2] w (LRet (runT ss ⟨xs, [], []⟩).1 (runT ss ⟨xs, [], []⟩).2 w) := by
 obtain ⟨i0, hi0, hzz⟩ := Option.map_eq_some_iff.1 infoCell;obtain ⟨i1, hi1, hz1⟩ := Option.map_eq_some_iff.1 infoAnswer;simp only [Prod.mk.injEq] at hzz hz1;have HI := hid9 hi0;have HZ := hid9 hzz;have HI1 := hid9 hi1;have HZ1 := hid9 hz1;have HR := hid9 hr;have HR2 := hid9 hr2;have HL := hid9 ho.2.1;have HS := hid9 ho.2.2.1;have HO := hid9 ho.2.2.2;have hxl := ho.1;clear hi0 hzz hi1 hz1 hr hr2 ho;have HE0 := hid9 (show World.ownsRow ((w.alloc (.cells #[.slice none 0 0, .slice none 0 0] 31)).alloc (.cells #[] 99)) (w.heap.size + 1) 99 2 (.slice (some ⟨w.heap.size + 1, 0, none⟩) 0 0) 0 [] from by
  have h := World.ownsRow_made (base := w.heap.size + 1) (e := 99) (size := 2) (w.alloc (.cells #[.slice none 0 0, .slice none 0 0] 31)) #[] 0 (by simp) (Nat.zero_le _) (by simp);simpa using h)
 go_enter func82, ntmps82;go_wp2_with (at_builtin; refine wpList_append_reads _ rfl _ _ 26 rfl (w.heap.size + 1) 99 i0 _ 2 32 underlying26 HI.out HZ.out.1 HZ.out.2.1 HZ.out.2.2 rfl (by decide) encC_len encC_oneJ _ 0 [] rfl HE0.out a xs.length cap xs rfl rfl (HR.out.below bel9) (by unfold maxLen; omega) (by omega) (by simp) ?_);intro v0 w1 o0 g0 or0;obtain ⟨W0, hW0⟩ : ∃ W0, W0 = w.alloc (.cells #[.slice none 0 0, .slice none 0 0] 31) := ⟨_, rfl⟩;have hs0 : W0.heap.size = w.heap.size + 1 := by subst hW0; simp
 have X6 := hid9 (show Box W0 w.heap.size [.slice none 0 0, .slice none 0 0] from by subst hW0; exact Box.new w [.slice none 0 0, .slice none 0 0] _);have BW := hid9 (show Below w.heap.size w W0 from by subst hW0; exact bel9);rw [← hW0] at g0 or0;have B1 := hid9 (show Below W0.heap.size W0 w1 from Below.grown ((Below.refl _ _).alloc (Nat.le_refl _) _) g0 (by simp) (fun k hk => by cases hk; rw [hs0]; exact Nat.le_refl _));obtain ⟨av, cv, hv0, -⟩ := reads_of_owns encC_len o0;subst hv0;rw [← hs0] at o0;have O0 := hid9 o0;clear hW0 g0 or0 o0 HE0;have hz1 := B1.out.size;go_wp2_with fail;have H0 := hid9 (show LQ W0.heap.size (w1.heap.size + 1) W0 ⟨xs, [], []⟩ [] (.slice av xs.length cv) (.slice (some ⟨w1.heap.size, 0, none⟩) 0 0) ((w1.alloc (.cells #[] 28)).alloc (.cells #[.slice none 0 0, .slice none 0 0] 31)) from by
  have hx := Box.new (w1.alloc (.cells #[] 28)) [.slice none 0 0, .slice none 0 0] 31;have hx' : Box ((w1.alloc (.cells #[] 28)).alloc (.cells #[.slice none 0 0, .slice none 0 0] 31)) (w1.heap.size + 1) [.slice none 0 0, .slice none 0 0] := by simpa using hx
  have o7 := World.ownsRow_made (base := W0.heap.size) (e := 28) (size := 3) w1 #[] 0 hz1 (Nat.zero_le _) (by simp);refine ⟨av, cv, _, 0, _, _, rfl, rfl, LR.start hx' (by omega) (ownsRow_below O0.out bel9) (ownsRow_below o7 bel9) (fun e => ?_) (fun e => ?_) (fun k h1 h2 => ?_), B1.out.trans ((show Below w1.heap.size w1 ((w1.alloc (.cells #[] 28)).alloc (.cells #[.slice none 0 0, .slice none 0 0] 31)) from bel9).mono hz1)⟩
  ·have := (O0.out.lt _ e).2;omega
  ·simp [Value.ownBlock] at e
  ·have := (O0.out.lt _ h2).2;cases h1;exact Nat.lt_irrefl _ this)
 obtain ⟨b8, hb8⟩ : ∃ b, w1.heap.size + 1 = b := ⟨_, rfl⟩;generalize ((w1.alloc (.cells #[] 28)).alloc (.cells #[.slice none 0 0, .slice none 0 0] 31)) = W1 at H0 ⊢;rw [hb8] at H0 ⊢;go_loopw [0, 7, 9] (fun v0 v7 i wr => ∃ k : Nat, k ≤ ss.length ∧ i = .int .i64 k ∧ Hid (LQ W0.heap.size b8 W0 (runT (ss.take k) ⟨xs, [], []⟩).1 (runT (ss.take k) ⟨xs, [], []⟩).2 v0 v7 wr)) (fun _ _ i _ => ss.length - (intOf i).toNat)
 case atStart => exact ⟨0, Nat.zero_le _, rfl, H0⟩
 case round =>
  obtain ⟨k, hk, rfl, HI0⟩ := hrel;obtain ⟨a0, c0, a7, c7, v1, v2, rfl, rfl, hl, hb⟩ := HI0.out;have HO1 := hid9 (HO.out k hk);rw [show (runI (ss.take k) ⟨xs, [], []⟩) = runT (ss.take k) ⟨xs, [], []⟩ from run_same _ _] at HO1;have hlk : (runT (ss.take k) ⟨xs, [], []⟩).2.length = k := by
   rw [← run_same];have h := runI_len (ss.take k) (⟨xs, [], []⟩, []);rw [List.length_take, Nat.min_eq_left hk] at h;exact h.trans (by simp)
  by_cases hlt : k < ss.length
  ·obtain ⟨x, hx⟩ := some_of_lt hlt;obtain ⟨m', an, F⟩ : ∃ aa bb, (callP x.proc x.call).run ⟨(runT (ss.take k) ⟨xs, [], []⟩).1.st, [], []⟩ = (aa, bb) := ⟨_, _, rfl⟩;have HSn := hid9 (show runT (ss.take (k + 1)) ⟨xs, [], []⟩ = (⟨m'.st, joinS (runT (ss.take k) ⟨xs, [], []⟩).1.rs m'.rs, joinS (runT (ss.take k) ⟨xs, [], []⟩).1.ws m'.ws⟩, (runT (ss.take k) ⟨xs, [], []⟩).2 ++ [an]) from by rw [take_snoc_of hx, runT_snoc]; unfold stepT; rw [F]);obtain ⟨mk, hmk⟩ : ∃ mk, (runT (ss.take k) ⟨xs, [], []⟩).1 = mk := ⟨_, rfl⟩;obtain ⟨ol, hol⟩ : ∃ ol, (runT (ss.take k) ⟨xs, [], []⟩).2 = ol := ⟨_, rfl⟩;rw [hmk, hol] at hl;rw [hmk] at HO1 F;rw [hmk, hol] at HSn;rw [hol] at hlk;have HLK := hid9 (show ol.length ≤ 1048576 from by have := HL.out; omega);clear hlk;have g1 := hmk;have g2 := hol;rw [hmk, hol];have HB := hid9 hb;have HLR := hid9 hl;have HBw := hid9 (BW.out.trans (hb.mono BW.out.size));have hz2 : W0.heap.size ≤ wr.heap.size := hb.size;obtain ⟨bq, off, hab, -⟩ := readStep HR2.out HBw.out hx;subst hab;have p1 : (0 : Int) ≤ (k : Int) := by omega
   have p2 : (k : Int) < (ss.length : Int) := by omega
   obtain ⟨sp, sc⟩ := HS.out x (List.mem_of_getElem? hx);have HX := hid9 hx;have HLT := hid9 hlt;have p3 : (k : Int) + 1 ≤ 1048576 := by have := HL.out; omega
   have HMO := hid9 (show MOk 100000000000 ⟨mk.st, [], []⟩ from ⟨HO1.out.l1, Nat.zero_le _, Nat.zero_le _, HO1.out.sz⟩);have HMK := hid9 (show m'.rs.length ≤ 800000000308 ∧ m'.ws.length ≤ 800000000308 from by have h := (callP_cost x.proc x.call).okE HMO.out F; exact ⟨by have := h.l2; omega, by have := h.l3; omega⟩);have KS := hid9 (fun (X : World) (hX : Below wr.heap.size wr X) => callOnS_c a0 c0 mk.st x.proc x.call m' an X (reads_owns2 encC_len ((HLR.out.below hX).o0)) (own_noneJ (HLR.out.below hX).o0) HMO.out sp sc F);have C0 := hid9 (fun (W : World) (hW : Below wr.heap.size wr W) => show W.cell? ⟨bq, off + k * 7, none⟩ = some (.int .i64 x.proc) ∧ W.cell? ⟨bq, off + k * 7 + 1, none⟩ = some (.int .i64 x.call.kind) ∧ W.cell? ⟨bq, off + k * 7 + 2, none⟩ = some (.string x.call.name) ∧ W.cell? ⟨bq, off + k * 7 + 3, none⟩ = some (.string x.call.dest) ∧ W.cell? ⟨bq, off + k * 7 + 4, none⟩ = some (.int .i64 x.call.a) ∧ W.cell? ⟨bq, off + k * 7 + 5, none⟩ = some (.int .i64 x.call.b) ∧ W.cell? ⟨bq, off + k * 7 + 6, none⟩ = some (.string x.call.text) from by obtain ⟨b', o', e, h⟩ := readStep HR2.out (HBw.out.trans (hW.mono HBw.out.size)) HX.out; cases e; exact h);clear hl hb HI0 hx hlt F sp sc hmk hol H0;go_wp2_with fail;refine wp_region_noPanic ?_;refine wp_region_Y (fun w' => Below wr.heap.size wr w') [] (by kernel_rfl) (Below.refl _ _).drew (fun hS => ?_);refine GZ.begin (p := 16) (q := 17) (tp := 11) (tq := 12) (Zp := [.int .i64 0, .int .i64 0, .string ⟨#[]⟩]) (Zq := [.slice none 0 0, .slice none 0 0]) (z1 := u11) (z2 := u12) (Tp := 28) (Tq := 31) (B := wr.heap.size) (f := 19) (F := fun _ => False) (Inv := fun W => Below wr.heap.size wr W) ?_ hS (fun k h => h.elim) hS.size (fun T => ?_)
   ·refine TwoAl.of ?_ ?_
    ·intro a W; go_simp
    ·intro a W; go_simp
   refine GZ.pure (fun _ h => h) 0 (v := ?_) ?_ ?_
   rotate_left
   ·(intro x y w; simp only [pA, Act.put, sq1, sq2, sq3, sq4, sq5, sq6]; go_simp); all_goals with_reducible rfl
   try simp only [Act.put, sq1, sq2, sq3, sq4, sq5, sq6]
   refine GZ.pure (fun _ h => h) 1 (v := ?_) ?_ ?_
   rotate_left
   ·(intro x y w; simp only [pA, Act.put, sq1, sq2, sq3, sq4, sq5, sq6]; go_simp); all_goals with_reducible rfl
   try simp only [Act.put, sq1, sq2, sq3, sq4, sq5, sq6]
   refine GZ.pure (fun _ h => h) 2 (v := ?_) ?_ ?_
   rotate_left
   ·(intro x y w; simp only [pA, Act.put, sq1, sq2, sq3, sq4, sq5, sq6]; go_simp); all_goals with_reducible rfl
   try simp only [Act.put, sq1, sq2, sq3, sq4, sq5, sq6]
   refine GZ.pure (fun _ h => h) 3 (v := ?_) ?_ ?_
   rotate_left
   ·(intro x y w; simp only [pA, Act.put, sq1, sq2, sq3, sq4, sq5, sq6]; go_simp); all_goals with_reducible rfl
   try simp only [Act.put, sq1, sq2, sq3, sq4, sq5, sq6]
   refine GZ.pure (fun _ h => h) 4 (v := ?_) ?_ ?_
   rotate_left
   ·(intro x y w; simp only [pA, Act.put, sq1, sq2, sq3, sq4, sq5, sq6]; go_simp); all_goals with_reducible rfl
   try simp only [Act.put, sq1, sq2, sq3, sq4, sq5, sq6]
   refine GZ.load (fun _ h => h) 5 (v := ?_) ?_ ?_
   rotate_left
   ·(intro x y W hW; (try dsimp only at hW); simp only [pA, Act.put, sq1, sq2, sq3, sq4, sq5, sq6]; obtain ⟨k0, k1, k2, k3, k4, k5, k6⟩ := C0.out W hW; go_simp); all_goals with_reducible rfl
   try simp only [Act.put, sq1, sq2, sq3, sq4, sq5, sq6]
   refine GZ.pure (fun _ h => h) 6 (v := ?_) ?_ ?_
   rotate_left
   ·(intro x y w; simp only [pA, Act.put, sq1, sq2, sq3, sq4, sq5, sq6]; go_simp); all_goals with_reducible rfl
   try simp only [Act.put, sq1, sq2, sq3, sq4, sq5, sq6]
   refine GZ.pure (fun _ h => h) 7 (v := ?_) ?_ ?_
   rotate_left
   ·(intro x y w; simp only [pA, Act.put, sq1, sq2, sq3, sq4, sq5, sq6]; go_simp); all_goals with_reducible rfl
   try simp only [Act.put, sq1, sq2, sq3, sq4, sq5, sq6]
   refine GZ.pure (fun _ h => h) 8 (v := ?_) ?_ ?_
   rotate_left
   ·(intro x y w; simp only [pA, Act.put, sq1, sq2, sq3, sq4, sq5, sq6]; go_simp); all_goals with_reducible rfl
   try simp only [Act.put, sq1, sq2, sq3, sq4, sq5, sq6]
   refine GZ.pure (fun _ h => h) 9 (v := ?_) ?_ ?_
   rotate_left
   ·(intro x y w; simp only [pA, Act.put, sq1, sq2, sq3, sq4, sq5, sq6]; go_simp); all_goals with_reducible rfl
   try simp only [Act.put, sq1, sq2, sq3, sq4, sq5, sq6]
   refine GZ.load (fun _ h => h) 10 (v := ?_) ?_ ?_
   rotate_left
   ·(intro x y W hW; (try dsimp only at hW); simp only [pA, Act.put, sq1, sq2, sq3, sq4, sq5, sq6]; obtain ⟨k0, k1, k2, k3, k4, k5, k6⟩ := C0.out W hW; go_simp); all_goals with_reducible rfl
   try simp only [Act.put, sq1, sq2, sq3, sq4, sq5, sq6]
   refine GZ.call T (fun _ h => h) (fun _ _ h hb => h.trans (hb.mono h.size)) 11 (COutS m' an wr.heap.size) COwn (fun _ _ _ h hb => h.below hb) ?_ ?_
   ·rintro x y W hI K hK
    (try dsimp only at hI)
    simp only [pA, Act.put, sq1, sq2, sq3, sq4, sq5, sq6];go_simp;refine (KS.out W hI).mono ?_;rintro e wb hf;obtain ⟨u, rfl, h1, h2, h3⟩ := crets_out hf hI.size;go_wp2_with fail;exact hK.out u wb h1 h2 h3
   ·rintro u ⟨W9, u1, u2, u3, rfl, hu1⟩;obtain ⟨aaS, kaS, abS, kbS, acS, kcS, rfl, rfl, rfl⟩ := hu1.vals;clear hu1
    try simp only [Act.put, sq1, sq2, sq3, sq4, sq5, sq6]
    refine GZ.pure (fun _ h => h.1) 12 (v := ?_) ?_ ?_
    rotate_left
    ·(intro x y w; simp only [pA, Act.put, sq1, sq2, sq3, sq4, sq5, sq6]; go_simp); all_goals with_reducible rfl
    try simp only [Act.put, sq1, sq2, sq3, sq4, sq5, sq6]
    refine GZ.pure (fun _ h => h.1) 13 (v := ?_) ?_ ?_
    rotate_left
    ·(intro x y w; simp only [pA, Act.put, sq1, sq2, sq3, sq4, sq5, sq6]; go_simp); all_goals with_reducible rfl
    try simp only [Act.put, sq1, sq2, sq3, sq4, sq5, sq6]
    refine GZ.pure (fun _ h => h.1) 14 (v := ?_) ?_ ?_
    rotate_left
    ·(intro x y w; simp only [pA, Act.put, sq1, sq2, sq3, sq4, sq5, sq6]; go_simp); all_goals with_reducible rfl
    try simp only [Act.put, sq1, sq2, sq3, sq4, sq5, sq6]
    refine GZ.pure (fun _ h => h.1) 15 (v := ?_) ?_ ?_
    rotate_left
    ·(intro x y w; simp only [pA, Act.put, sq1, sq2, sq3, sq4, sq5, sq6]; go_simp); all_goals with_reducible rfl
    try simp only [Act.put, sq1, sq2, sq3, sq4, sq5, sq6]
    refine GZ.last T (fun _ h => h.1) (fun _ _ h hb => ⟨h.1.trans (hb.mono h.1.size), h.2.below hb⟩) ?_;rintro b1 b2 W ⟨hB, hu⟩ x1 x2 g1' g2' n1 n2 ne;have hO := hu.outs;have q1 := not_cown (fun h => n1 (.inr h));have q2 := not_cown (fun h => n2 (.inr h));clear hu n1 n2;have H1 := hid9 ((((show TwoB m' wr.heap.size _ _ _ b1 b2 _ _ wr W from ⟨x1, x2, hO, hB, g1', g2', ne, q1, q2⟩).set1 0 (.int .i64 an.code)).set1 1 (.int .i64 an.n)).set1 2 (.string an.text));have c0 := x1.cell 0 _ rfl;have f0 := x1.free 0;have c1 := x1.cell 1 _ rfl;have f1 := x1.free 1;have c2 := x1.cell 2 _ rfl;have f2 := x1.free 2;have hS := hB;clear x1 x2 q1 q2 hO;simp only [pA, ptr0, Act.put, sq1, sq2, sq3, sq4, sq5, sq6];refine wpO 18 fun K hK => ?_;go_simp;refine hK.out _ _ (Or.inr hB) ?_;clear hK K
    try simp only [Act.put, sq1, sq2, sq3, sq4, sq5, sq6]
    refine wpO 19 fun K hK => ?_;go_simp;refine hK.out _ _ (Or.inr H1.out.bel) ?_;clear hK K
    try simp only [Act.put, sq1, sq2, sq3, sq4, sq5, sq6]
    generalize hWz : ((World.setCell _ _ _).setCell _ _).setCell _ _ = Wz at H1 ⊢;clear hWz hB c0 f0 c1 f1 c2 f2;have c3 := H1.out.x2.cell 0 _ rfl;have f3 := H1.out.x2.free 0;have c4 := H1.out.x2.cell 1 _ rfl;have f4 := H1.out.x2.free 1;have H2 := hid9 ((H1.out.set2 0 (.slice abS m'.rs.length kbS)).set2 1 (.slice acS m'.ws.length kcS));refine wpO 20 fun K hK => ?_;go_simp;refine hK.out _ _ (Or.inr H2.out.bel) ?_;clear hK K
    try simp only [Act.put, sq1, sq2, sq3, sq4, sq5, sq6]
    refine wpAnyY_done (by kernel_rfl) ?_ _;refine NoPanic.normal ?_;clear c3 f3 c4 f4 H1 hS T KS C0;generalize (World.setCell _ _ _).setCell _ _ = Wy at H2 ⊢;have GL := hid9 (HLR.out.state hz2 H2.out.bel H2.out.outs.o1);have HX1 := hid9 H2.out.x1;have HX2 := hid9 H2.out.x2;have HQ2 := hid9 H2.out.outs.o2;have HQ3 := hid9 H2.out.outs.o3;have HBy := hid9 (HB.out.trans (H2.out.bel.mono hz2));have hz3 := H2.out.bel.size;have hg1 := H2.out.g1;have hg2 := H2.out.g2;have k0 := HX1.out.cell 0 _ rfl;have k1 := HX1.out.cell 1 _ rfl;have k2 := HX1.out.cell 2 _ rfl;have hzb : W0.heap.size ≤ Wy.heap.size := by omega
    go_wp2_with (at_builtin; refine wpList_append_own2 _ rfl _ _ 61 rfl W0.heap.size 28 i1 _ 3 32 underlying61 HI1.out HZ1.out.1 HZ1.out.2.1 HZ1.out.2.2 rfl (by decide) _ _ _ rfl (GL.out.o7.alloc _) ⟨Wy.heap.size, 0, none⟩ 1 1 (encA an) rfl rfl (box_news (Box.new _ (encA an) _)) (encA_one an) (by have := HLK.out; unfold maxLen; omega) (by have := HLK.out; omega) (by simp; omega) ?_);intro v7' w3 o7 g7 or7;have GN := hid9 (((GL.out.below (show Below Wy.heap.size Wy (Wy.alloc (.cells #[.int .i64 an.code, .int .i64 an.n, .string an.text] 28)) from bel9)).app (ns2 := ol ++ [an]) g7 or7 (by rw [hs0, List.length_append, List.flatMap_append]; simpa using o7)) : LR W0.heap.size b8 _ v7' v1 v2 ⟨m'.st, mk.rs, mk.ws⟩ (ol ++ [an]) w3);have n2 : (Value.slice a7 ol.length c7).ownBlock ≠ some b2 := fun e => by have := (HLR.out.o7.lt _ e).2; omega
    have hap : ∀ {v : Value} {T K n : Nat} {cs : List Value}, Wy.ownsRow wr.heap.size T K v n cs → w3.ownsRow wr.heap.size T K v n cs := fun h => own_apart (ownsRow_below h (show Below Wy.heap.size Wy (Wy.alloc (.cells #[.int .i64 an.code, .int .i64 an.n, .string an.text] 28)) from bel9)) g7 (fun k h1 h2 => by have := (HLR.out.o7.lt _ h1).2; have := (h.lt _ h2).1; omega);have HQ2 := hid9 (hap HQ2.out);have HQ3 := hid9 (hap HQ3.out);have HX2 := hid9 (box_grownJ (HX2.out.below (show Below Wy.heap.size Wy (Wy.alloc (.cells #[.int .i64 an.code, .int .i64 an.n, .string an.text] 28)) from bel9)) g7 n2);have hz4 : Wy.heap.size ≤ w3.heap.size := by have := g7.size; simp at this; omega
    have HB3 := hid9 (show Below W0.heap.size W0 w3 from ((HBy.out.alloc hzb _)).grown g7 (by simp; omega) (fun k hk => (HLR.out.o7.lt _ hk).1));clear o7 g7 or7 hap n2 k0 k1 k2 GL HX1;obtain ⟨a9, c9, hv9, -⟩ := reads_of_owns encA_len GN.out.o7;rw [show (ol ++ [an]).length = ol.length + 1 from by simp] at hv9;subst hv9;obtain ⟨e1, d1, hv1, r1⟩ := reads_of_owns encS_len GN.out.o1;obtain ⟨e2, d2, hv2, r2⟩ := reads_of_owns encS_len GN.out.o2;subst hv1;subst hv2;have KJ := hid9 (specJoin_c e1 e2 abS acS d1 d2 kbS kcS mk.rs mk.ws m'.rs m'.ws w3 (by have := HO1.out.l2; have := HMK.out.1; omega) (by have := HO1.out.l3; have := HMK.out.2; omega) r1 r2 (reads_owns2 encS_len HQ2.out) (reads_owns2 encS_len HQ3.out));clear r1 r2;have k0 := GN.out.x.cell 0 _ rfl;have k1 := GN.out.x.cell 1 _ rfl;have t0 := HX2.out.cell 0 _ rfl;have t1 := HX2.out.cell 1 _ rfl;go_wp2_with fail;refine KJ.out.mono ?_;rintro e w5 ⟨a5, c5, a6, c6, rfl, hb5, p5, p6⟩;have GE := hid9 (GN.out.store (by omega) hb5 p5 p6);have HBE := hid9 (((HB3.out.trans (hb5.mono (by omega))).setCell GN.out.hb (p := ⟨b8, 0, none⟩) (.slice a5 (joinS mk.rs m'.rs).length c5)).setCell GN.out.hb (p := ⟨b8, 1, none⟩) (.slice a6 (joinS mk.ws m'.ws).length c6));have f0 := (GN.out.x.below hb5).free 0;have f1 := (GN.out.x.below hb5).free 1;have k0 := (GN.out.x.below hb5).cell 0 _ rfl;have k1 := (GN.out.x.below hb5).cell 1 _ rfl;clear t0 t1 hb5 p5 p6 KJ;go_wp2_with fail;go_roundw
    case rel => exact ⟨k + 1, by have := HLT.out; omega, by go_num, hid9 (by rw [HSn.out]; exact ⟨_, _, a9, c9, _, _, rfl, by simp, GE.out, HBE.out⟩)⟩
    case measure => have := HLT.out; simp [intOf]; omega
  ·obtain rfl : k = ss.length := by omega
   have p2 : ¬ ((ss.length : Nat) : Int) < (ss.length : Int) := by omega
   rw [List.take_length] at hl;obtain ⟨mk, hmk⟩ : ∃ mk, (runT ss ⟨xs, [], []⟩).1 = mk := ⟨_, rfl⟩;obtain ⟨ol, hol⟩ : ∃ ol, (runT ss ⟨xs, [], []⟩).2 = ol := ⟨_, rfl⟩;rw [List.take_length, hmk, hol];rw [hmk, hol] at hl;have EM := hid9 hmk;have EO := hid9 hol;have HLR := hid9 hl;have HB := hid9 hb;have hz2 : W0.heap.size ≤ wr.heap.size := hb.size;obtain ⟨e1, d1, hv1, -⟩ := reads_of_owns encS_len hl.o1;obtain ⟨e2, d2, hv2, -⟩ := reads_of_owns encS_len hl.o2;subst hv1;subst hv2;have k0 := hl.x.cell 0 _ rfl;have k1 := hl.x.cell 1 _ rfl;have z0 := (X6.out.below hb).cell 0 _ rfl;have z1 := (X6.out.below hb).cell 1 _ rfl;have f0 := (X6.out.below hb).free 0;have f1 := (X6.out.below hb).free 1;have HF := hid9 (LR.fin (u := .slice e1 mk.rs.length d1) (u1 := .slice e2 mk.ws.length d2) hl (c := w.heap.size) (by omega));have HG := hid9 (((BW.out.trans (hb.mono BW.out.size)).setCell (p := ⟨w.heap.size, 0, none⟩) (Nat.le_refl _) (.slice e1 mk.rs.length d1)).setCell (p := ⟨w.heap.size, 1, none⟩) (Nat.le_refl _) (.slice e2 mk.ws.length d2));clear hl hb HI0 HO1 hlk hmk hol;go_wp2_with fail;go_region
   all_goals go_wp2
   all_goals exact bodyPost_ret (v := .tuple #[.slice a0 mk.st.length c0, .slice a7 ol.length c7, .agg #[.slice e1 mk.rs.length d1, .slice e2 mk.ws.length d2]]) (by simp [results, results82, go_sem, z0, z1]) rfl (by rw [EM.out, EO.out]; exact ⟨a0, c0, a7, c7, e1, d1, e2, d2, rfl, HG.out.drew, HF.out⟩)
end
section
open Go.RowKit
attribute [local go_sem ↓] Go.wp_at_zero Go.wp_at_succ
theorem readqSAnswer {w wr : World} {a : Option Addr} {xs : List Ans} (hr : Reads w a 3 encA xs) (hb : Below w.heap.size w wr) {k : Nat} {x : Ans} (hx : xs[k]? = some x) :
 ∃ b off, a = some ⟨b, off, none⟩ ∧ wr.cell? ⟨b, off + k * 3, none⟩ = some (.int .i64 x.code) ∧ wr.cell? ⟨b, off + k * 3 + 1, none⟩ = some (.int .i64 x.n) ∧ wr.cell? ⟨b, off + k * 3 + 2, none⟩ = some (.string x.text) := by
 rcases hr.below hb with rfl | ⟨b, off, h1, _, h3⟩
 ·simp at hx
 ·exact ⟨b, off, h1, by simpa [Nat.add_assoc] using h3 k x hx 0 _ rfl, by simpa [Nat.add_assoc] using h3 k x hx 1 _ rfl, by simpa [Nat.add_assoc] using h3 k x hx 2 _ rfl⟩
theorem specEqAnswer_c (a a2 : Option Addr) (cap cap2 : Nat) (xs ys : List Ans) (w : World) (hlen : xs.length ≤ maxLen) (hr : Reads w a 3 encA xs) (hr2 : Reads w a2 3 encA ys) :
 Calls prog 86 #[.slice a xs.length cap, .slice a2 ys.length cap2] w fun e w' => e = .returned (.bool (same xs ys)) ∧ Below w.heap.size w w' := by
 have HR := hid9 hr;have HR2 := hid9 hr2;clear hr hr2;unfold maxLen at hlen;by_cases h1 : xs.length = ys.length
 ·have HE := hid9 h1;have hq : ((xs.length : Int) != (ys.length : Int)) = false := by simp [h1]
  have h1' : ys.length ≤ xs.length := by omega
  have h1'' : xs.length ≤ ys.length := by omega
  clear h1;go_enter func86, ntmps86;go_wp2;go_loopw [5] (fun i wr => ∃ k : Nat, k ≤ xs.length ∧ i = .int .i64 k ∧ upTo xs ys k ∧ Below w.heap.size w wr) (fun i _ => xs.length - (intOf i).toNat)
  case atStart => exact ⟨0, Nat.zero_le _, rfl, upTo_zero _ _, bel8⟩
  case round =>
   obtain ⟨k, hk, rfl, hup, hb⟩ := hrel;by_cases hlt : k < xs.length
   ·obtain ⟨x, hx⟩ := some_of_lt hlt;obtain ⟨y, hy⟩ := some_of_lt (xs := ys) (k := k) (by omega);obtain ⟨b, off, rfl, c0, c1, c2⟩ := readqSAnswer HR.out hb hx;obtain ⟨b2, off2, rfl, d0, d1, d2⟩ := readqSAnswer HR2.out hb hy;have p1 : (0 : Int) ≤ (k : Int) := by omega
    have p2 : (k : Int) < (xs.length : Int) := by omega
    have p3 : (k : Int) < (ys.length : Int) := by omega
    have HX := hid9 hx;have HY := hid9 hy;clear hx hy;obtain ⟨a0, a1, a2⟩ := x;obtain ⟨e0, e1, e2⟩ := y;dsimp only at c0 c1 c2 d0 d1 d2;by_cases h2 : a0 = e0
    rotate_left
    ·have HN := hid9 (same_at HX.out HY.out (same_ne (by simp [h2])));have q1 : (a0 != e0) = true := by simp [h2]
     have q2 : (a0 == e0) = false := by simp [h2]
     clear HX HY;go_wp2_with fail;go_region_held3 (fun w' => w'.cell? ⟨b, off + k * 3, none⟩ = some (.int .i64 a0) ∧ w'.cell? ⟨b, off + k * 3 + 1, none⟩ = some (.int .i64 a1) ∧ w'.cell? ⟨b, off + k * 3 + 2, none⟩ = some (.string a2) ∧ w'.cell? ⟨b2, off2 + k * 3, none⟩ = some (.int .i64 e0) ∧ w'.cell? ⟨b2, off2 + k * 3 + 1, none⟩ = some (.int .i64 e1) ∧ w'.cell? ⟨b2, off2 + k * 3 + 2, none⟩ = some (.string e2)) ((go_split_ands; (repeat' apply And.intro) <;> first | assumption | exact keepS (by assumption) (by assumption))) (fail);go_wp2;go_ret;exact ⟨by rw [HN.out]; rfl, bel9⟩
    subst h2;by_cases h3 : a1 = e1
    rotate_left
    ·have HN := hid9 (same_at HX.out HY.out (same_ne (by simp [h3])));have q1 : (a1 != e1) = true := by simp [h3]
     have q2 : (a1 == e1) = false := by simp [h3]
     clear HX HY;go_wp2_with fail;go_region_held3 (fun w' => w'.cell? ⟨b, off + k * 3, none⟩ = some (.int .i64 a0) ∧ w'.cell? ⟨b, off + k * 3 + 1, none⟩ = some (.int .i64 a1) ∧ w'.cell? ⟨b, off + k * 3 + 2, none⟩ = some (.string a2) ∧ w'.cell? ⟨b2, off2 + k * 3, none⟩ = some (.int .i64 a0) ∧ w'.cell? ⟨b2, off2 + k * 3 + 1, none⟩ = some (.int .i64 e1) ∧ w'.cell? ⟨b2, off2 + k * 3 + 2, none⟩ = some (.string e2)) ((go_split_ands; (repeat' apply And.intro) <;> first | assumption | exact keepS (by assumption) (by assumption))) (fail);go_wp2;go_ret;exact ⟨by rw [HN.out]; rfl, bel9⟩
    subst h3;by_cases h4 : a2 = e2
    rotate_left
    ·have HN := hid9 (same_at HX.out HY.out (same_ne (by simp [h4])));have q1 := toList_ne h4;have q2 := beq_toList_false h4;have q3 := bne_toList_true h4;clear HX HY;go_wp2_with fail;go_region_held3 (fun w' => w'.cell? ⟨b, off + k * 3, none⟩ = some (.int .i64 a0) ∧ w'.cell? ⟨b, off + k * 3 + 1, none⟩ = some (.int .i64 a1) ∧ w'.cell? ⟨b, off + k * 3 + 2, none⟩ = some (.string a2) ∧ w'.cell? ⟨b2, off2 + k * 3, none⟩ = some (.int .i64 a0) ∧ w'.cell? ⟨b2, off2 + k * 3 + 1, none⟩ = some (.int .i64 a1) ∧ w'.cell? ⟨b2, off2 + k * 3 + 2, none⟩ = some (.string e2)) ((go_split_ands; (repeat' apply And.intro) <;> first | assumption | exact keepS (by assumption) (by assumption))) (fail);go_wp2;go_ret;exact ⟨by rw [HN.out]; rfl, bel9⟩
    subst h4;have hs := upTo_succ hup HX.out HY.out (same_self _);clear HX HY;go_wp2_with fail;go_region_held3 (fun w' => w'.cell? ⟨b, off + k * 3, none⟩ = some (.int .i64 a0) ∧ w'.cell? ⟨b, off + k * 3 + 1, none⟩ = some (.int .i64 a1) ∧ w'.cell? ⟨b, off + k * 3 + 2, none⟩ = some (.string a2) ∧ w'.cell? ⟨b2, off2 + k * 3, none⟩ = some (.int .i64 a0) ∧ w'.cell? ⟨b2, off2 + k * 3 + 1, none⟩ = some (.int .i64 a1) ∧ w'.cell? ⟨b2, off2 + k * 3 + 2, none⟩ = some (.string a2)) ((go_split_ands; (repeat' apply And.intro) <;> first | assumption | exact keepS (by assumption) (by assumption))) (fail);go_wp2;go_roundw
    case rel => exact ⟨k + 1, by omega, by go_num, hs, bel9⟩
    case measure => simp [intOf]; omega
   ·have HS := hid9 (same_end hup (by omega) (by omega));go_wp2;go_ret;exact ⟨by rw [HS.out]; rfl, hb⟩
 ·have HS := hid9 (same_len h1);have hq : ((xs.length : Int) != (ys.length : Int)) = true := by simp; omega
  clear h1;go_enter func86, ntmps86;go_wp2;go_ret;exact ⟨by rw [HS.out]; rfl, bel8⟩
theorem readqLAnswer {w wr : World} {a : Option Addr} {xs : List Ans} (hr : Reads w a 3 encA xs) (hb : Below w.heap.size w wr) {k : Nat} {x : Ans} (hx : xs[k]? = some x) :
 ∃ b off, a = some ⟨b, off, none⟩ ∧ wr.cell? ⟨b, off + k * 3, none⟩ = some (.int .i64 x.code) ∧ wr.cell? ⟨b, off + k * 3 + 1, none⟩ = some (.int .i64 x.n) ∧ wr.cell? ⟨b, off + k * 3 + 2, none⟩ = some (.string x.text) := by
 rcases hr.below hb with rfl | ⟨b, off, h1, _, h3⟩
 ·simp at hx
 ·exact ⟨b, off, h1, by simpa [Nat.add_assoc] using h3 k x hx 0 _ rfl, by simpa [Nat.add_assoc] using h3 k x hx 1 _ rfl, by simpa [Nat.add_assoc] using h3 k x hx 2 _ rfl⟩
theorem libEqAnswer_c (a a2 : Option Addr) (cap cap2 : Nat) (xs ys : List Ans) (w : World) (hlen : xs.length ≤ maxLen) (hr : Reads w a 3 encA xs) (hr2 : Reads w a2 3 encA ys) :
 Calls prog 87 #[.slice a xs.length cap, .slice a2 ys.length cap2] w fun e w' => e = .returned (.bool (same xs ys)) ∧ Below w.heap.size w w' := by
 have HR := hid9 hr;have HR2 := hid9 hr2;clear hr hr2;unfold maxLen at hlen;by_cases h1 : xs.length = ys.length
 ·have HE := hid9 h1;have hq : ((xs.length : Int) != (ys.length : Int)) = false := by simp [h1]
  have h1' : ys.length ≤ xs.length := by omega
  have h1'' : xs.length ≤ ys.length := by omega
  clear h1;go_enter func87, ntmps87;go_wp2;go_loopw [13] (fun i wr => ∃ k : Nat, k ≤ xs.length ∧ i = .int .i64 k ∧ upTo xs ys k ∧ Below w.heap.size w wr) (fun i _ => xs.length - (intOf i).toNat)
  case atStart => exact ⟨0, Nat.zero_le _, rfl, upTo_zero _ _, bel8⟩
  case round =>
   obtain ⟨k, hk, rfl, hup, hb⟩ := hrel;by_cases hlt : k < xs.length
   ·obtain ⟨x, hx⟩ := some_of_lt hlt;obtain ⟨y, hy⟩ := some_of_lt (xs := ys) (k := k) (by omega);obtain ⟨b, off, rfl, c0, c1, c2⟩ := readqLAnswer HR.out hb hx;obtain ⟨b2, off2, rfl, d0, d1, d2⟩ := readqLAnswer HR2.out hb hy;have p1 : (0 : Int) ≤ (k : Int) := by omega
    have p2 : (k : Int) < (xs.length : Int) := by omega
    have p3 : (k : Int) < (ys.length : Int) := by omega
    have HX := hid9 hx;have HY := hid9 hy;clear hx hy;obtain ⟨a0, a1, a2⟩ := x;obtain ⟨e0, e1, e2⟩ := y;dsimp only at c0 c1 c2 d0 d1 d2;by_cases h2 : a0 = e0
    rotate_left
    ·have HN := hid9 (same_at HX.out HY.out (same_ne (by simp [h2])));have q1 : (a0 != e0) = true := by simp [h2]
     have q2 : (a0 == e0) = false := by simp [h2]
     clear HX HY;go_wp2_with fail;go_region_held3 (fun w' => w'.cell? ⟨b, off + k * 3, none⟩ = some (.int .i64 a0) ∧ w'.cell? ⟨b, off + k * 3 + 1, none⟩ = some (.int .i64 a1) ∧ w'.cell? ⟨b, off + k * 3 + 2, none⟩ = some (.string a2) ∧ w'.cell? ⟨b2, off2 + k * 3, none⟩ = some (.int .i64 e0) ∧ w'.cell? ⟨b2, off2 + k * 3 + 1, none⟩ = some (.int .i64 e1) ∧ w'.cell? ⟨b2, off2 + k * 3 + 2, none⟩ = some (.string e2)) ((go_split_ands; (repeat' apply And.intro) <;> first | assumption | exact keepS (by assumption) (by assumption))) (fail);go_wp2;go_ret;exact ⟨by rw [HN.out]; rfl, bel9⟩
    subst h2;by_cases h3 : a1 = e1
    rotate_left
    ·have HN := hid9 (same_at HX.out HY.out (same_ne (by simp [h3])));have q1 : (a1 != e1) = true := by simp [h3]
     have q2 : (a1 == e1) = false := by simp [h3]
     clear HX HY;go_wp2_with fail;go_region_held3 (fun w' => w'.cell? ⟨b, off + k * 3, none⟩ = some (.int .i64 a0) ∧ w'.cell? ⟨b, off + k * 3 + 1, none⟩ = some (.int .i64 a1) ∧ w'.cell? ⟨b, off + k * 3 + 2, none⟩ = some (.string a2) ∧ w'.cell? ⟨b2, off2 + k * 3, none⟩ = some (.int .i64 a0) ∧ w'.cell? ⟨b2, off2 + k * 3 + 1, none⟩ = some (.int .i64 e1) ∧ w'.cell? ⟨b2, off2 + k * 3 + 2, none⟩ = some (.string e2)) ((go_split_ands; (repeat' apply And.intro) <;> first | assumption | exact keepS (by assumption) (by assumption))) (fail);go_wp2;go_ret;exact ⟨by rw [HN.out]; rfl, bel9⟩
    subst h3;by_cases h4 : a2 = e2
    rotate_left
    ·have HN := hid9 (same_at HX.out HY.out (same_ne (by simp [h4])));have q1 := toList_ne h4;have q2 := beq_toList_false h4;have q3 := bne_toList_true h4;clear HX HY;go_wp2_with fail;go_region_held3 (fun w' => w'.cell? ⟨b, off + k * 3, none⟩ = some (.int .i64 a0) ∧ w'.cell? ⟨b, off + k * 3 + 1, none⟩ = some (.int .i64 a1) ∧ w'.cell? ⟨b, off + k * 3 + 2, none⟩ = some (.string a2) ∧ w'.cell? ⟨b2, off2 + k * 3, none⟩ = some (.int .i64 a0) ∧ w'.cell? ⟨b2, off2 + k * 3 + 1, none⟩ = some (.int .i64 a1) ∧ w'.cell? ⟨b2, off2 + k * 3 + 2, none⟩ = some (.string e2)) ((go_split_ands; (repeat' apply And.intro) <;> first | assumption | exact keepS (by assumption) (by assumption))) (fail);go_wp2;go_ret;exact ⟨by rw [HN.out]; rfl, bel9⟩
    subst h4;have hs := upTo_succ hup HX.out HY.out (same_self _);clear HX HY;go_wp2_with fail;go_region_held3 (fun w' => w'.cell? ⟨b, off + k * 3, none⟩ = some (.int .i64 a0) ∧ w'.cell? ⟨b, off + k * 3 + 1, none⟩ = some (.int .i64 a1) ∧ w'.cell? ⟨b, off + k * 3 + 2, none⟩ = some (.string a2) ∧ w'.cell? ⟨b2, off2 + k * 3, none⟩ = some (.int .i64 a0) ∧ w'.cell? ⟨b2, off2 + k * 3 + 1, none⟩ = some (.int .i64 a1) ∧ w'.cell? ⟨b2, off2 + k * 3 + 2, none⟩ = some (.string a2)) ((go_split_ands; (repeat' apply And.intro) <;> first | assumption | exact keepS (by assumption) (by assumption))) (fail);go_wp2;go_roundw
    case rel => exact ⟨k + 1, by omega, by go_num, hs, bel9⟩
    case measure => simp [intOf]; omega
   ·have HS := hid9 (same_end hup (by omega) (by omega));go_wp2;go_ret;exact ⟨by rw [HS.out]; rfl, hb⟩
 ·have HS := hid9 (same_len h1);have hq : ((xs.length : Int) != (ys.length : Int)) = true := by simp; omega
  clear h1;go_enter func87, ntmps87;go_wp2;go_ret;exact ⟨by rw [HS.out]; rfl, bel8⟩
end
section
open Go.RowKit
theorem implSameAnswers_c (a a2 : Option Addr) (cap cap2 : Nat) (xs ys : List Ans) (w : World) (hlen : xs.length ≤ maxLen) (hr : Reads w a 3 encA xs) (hr2 : Reads w a2 3 encA ys) :
 Calls prog 47 #[.slice a xs.length cap, .slice a2 ys.length cap2] w fun e w' => e = .returned (.bool (same xs ys)) ∧ Below w.heap.size w w' := by
 have H := hid9 (libEqAnswer_c a a2 cap cap2 xs ys w hlen hr hr2);clear hr hr2 hlen;generalize same xs ys = r at *;go_enter func47, ntmps47;go_wp2_with fail;refine H.out.mono ?_;rintro e w1 ⟨rfl, hb⟩;go_wp2;go_ret;exact ⟨rfl, hb⟩
end
section
open Go.ChangeShapes Go.WideShapes Go.ChangeAt Go.RowKit
attribute [local go_sem ↓] Go.wp_at_zero Go.wp_at_succ
def SerRet (m' : Mch) (ns : List Ans) (w : World) (e : Ending) (w' : World) : Prop :=
 ∃ a0 c0 a7 c7, e = .returned (.tuple #[.slice a0 m'.st.length c0, .slice a7 ns.length c7]) ∧ Below w.heap.size w w' ∧ w'.ownsRow w.heap.size 99 2 (.slice a0 m'.st.length c0) m'.st.length (m'.st.flatMap encC) ∧ w'.ownsRow w.heap.size 28 3 (.slice a7 ns.length c7) ns.length (ns.flatMap encA)
set_option maxRecDepth 100000 in
theorem serialS_c (a a2 : Option Addr) (cap cap2 : Nat) (xs : Sto) (ss : List Stp) (w : World) (hr : Reads w a 2 encC xs) (hr2 : Reads w a2 7 encStp ss) (ho : RunOk ss xs) :
 Calls prog 37 #[.slice a xs.length cap, .slice a2 ss.length cap2] w (SerRet (runT ss ⟨xs, [], []⟩).1 (runT ss ⟨xs, [], []⟩).2 w) := by
 have KL := hid9 (l15Run_c a a2 cap cap2 xs ss w hr hr2 ho);clear hr hr2 ho;go_enter func37, ntmps37;go_wp2_with fail;refine KL.out.mono ?_;rintro e w1 ⟨a0, c0, a7, c7, a1, c1, a9, c9, rfl, hb, o0, o7, o1, o2⟩;have HEND := hid9 (fun (W : World) (hW : Below w1.heap.size w1 W) => show SerRet (runT ss ⟨xs, [], []⟩).1 (runT ss ⟨xs, [], []⟩).2 w (.returned (.tuple #[.slice a0 (runT ss ⟨xs, [], []⟩).1.st.length c0, .slice a7 (runT ss ⟨xs, [], []⟩).2.length c7])) W from ⟨a0, c0, a7, c7, rfl, hb.trans (hW.mono hb.size), ownsRow_below o0 hW, ownsRow_below o7 hW⟩);clear hb o0 o7 o1 o2 KL;go_wp2;exact bodyPost_ret (v := .tuple #[.slice a0 (runT ss ⟨xs, [], []⟩).1.st.length c0, .slice a7 (runT ss ⟨xs, [], []⟩).2.length c7]) (by simp [results, results37, go_sem]) rfl (HEND.out _ bel9)
set_option maxRecDepth 100000 in
theorem touchS_c (a a2 : Option Addr) (cap cap2 : Nat) (xs : Sto) (ss : List Stp) (w : World) (hr : Reads w a 2 encC xs) (hr2 : Reads w a2 7 encStp ss) (ho : RunOk ss xs) :
 Calls prog 40 #[.slice a xs.length cap, .slice a2 ss.length cap2] w (JRet (runT ss ⟨xs, [], []⟩).1.rs (runT ss ⟨xs, [], []⟩).1.ws w) := by
 obtain ⟨W0, hW0⟩ : ∃ W0, W0 = w.alloc (.cells #[.slice none 0 0, .slice none 0 0] 31) := ⟨_, rfl⟩;have HB0 := hid9 (show Below w.heap.size w W0 from by subst hW0; exact bel9);have T0 := hid9 (show Box W0 w.heap.size [.slice none 0 0, .slice none 0 0] from by subst hW0; exact Box.new w _ _);have hs0 : W0.heap.size = w.heap.size + 1 := by subst hW0; simp
 have KL := hid9 (l15Run_c a a2 cap cap2 xs ss W0 (hr.below HB0.out) (hr2.below HB0.out) ho);clear hr hr2 ho;go_enter func40, ntmps40;go_upto_region 1 with fail;rw [← hW0];clear hW0;go_wp2_with fail;refine KL.out.mono ?_;rintro e w1 ⟨a0, c0, a7, c7, a1, c1, a9, c9, rfl, hb, o0, o7, o1, o2⟩;obtain ⟨W1, hW1⟩ : ∃ W1, W1 = w1.alloc (.cells #[.slice a1 (runT ss ⟨xs, [], []⟩).1.rs.length c1, .slice a9 (runT ss ⟨xs, [], []⟩).1.ws.length c9] 31) := ⟨_, rfl⟩;have hB1 : Below w1.heap.size w1 W1 := by subst hW1; exact bel9
 have T2 := T0.out.below (hb.trans (hB1.mono hb.size));have t0 := T2.cell 0 _ rfl;have t1 := T2.cell 1 _ rfl;have f0 := T2.free 0;have f1 := T2.free 1;have far : ∀ (n : Nat) (u : Value) (cs : List Value) (X Y : Value), w1.ownsRow W0.heap.size 9 1 u n cs → ((W1.setCell ⟨w.heap.size, 0, none⟩ X).setCell ⟨w.heap.size, 1, none⟩ Y).ownsRow w.heap.size 9 1 u n cs := fun n u cs X Y h => by
  have n1 : u.ownBlock = none ∨ u.ownBlock ≠ some w.heap.size := .inr (fun e => by have := (h.lt _ e).1; omega);exact ownsRow_base (((ownsRow_below h hB1).kept (grownBy_setCell W1 w.heap.size 0 X) n1).kept (grownBy_setCell _ w.heap.size 1 Y) n1) HB0.out.size
 have HEND := hid9 (show JRet (runT ss ⟨xs, [], []⟩).1.rs (runT ss ⟨xs, [], []⟩).1.ws w (.returned (.agg #[.slice a1 (runT ss ⟨xs, [], []⟩).1.rs.length c1, .slice a9 (runT ss ⟨xs, [], []⟩).1.ws.length c9])) ((W1.setCell ⟨w.heap.size, 0, none⟩ (.slice a1 (runT ss ⟨xs, [], []⟩).1.rs.length c1)).setCell ⟨w.heap.size, 1, none⟩ (.slice a9 (runT ss ⟨xs, [], []⟩).1.ws.length c9)) from
  ⟨a1, c1, a9, c9, rfl, Below.setCell (p := ⟨w.heap.size, 1, none⟩) (Below.setCell (p := ⟨w.heap.size, 0, none⟩) (HB0.out.trans ((hb.trans (hB1.mono hb.size)).mono HB0.out.size)) (Nat.le_refl _) _) (Nat.le_refl _) _, far _ _ _ _ _ o1, far _ _ _ _ _ o2⟩)
 have HW1 := hid9 hW1;clear hb o0 o7 o1 o2 KL T2 far hB1 T0 HB0;subst hW1;clear HW1;go_wp2;exact bodyPost_ret (v := .agg #[.slice a1 (runT ss ⟨xs, [], []⟩).1.rs.length c1, .slice a9 (runT ss ⟨xs, [], []⟩).1.ws.length c9]) (by simp [results, results40, go_sem, *]) rfl HEND.out
theorem runT_len (ss : List Stp) (m : Sto) : (runT ss ⟨m, [], []⟩).2.length = ss.length := by
 rw [← run_same];exact (runI_len ss (⟨m, [], []⟩, [])).trans (by simp)
set_option maxRecDepth 100000 in
theorem agreesS_c (a a2 a3 : Option Addr) (cap cap2 cap3 : Nat) (xs : Sto) (ss : List Stp) (ys : List Ans) (w : World) (hr : Reads w a 2 encC xs) (hr2 : Reads w a2 7 encStp ss) (hr3 : Reads w a3 3 encA ys) (ho : RunOk ss xs) :
 Calls prog 46 #[.slice a xs.length cap, .slice a2 ss.length cap2, .slice a3 ys.length cap3] w (fun e w' => e = .returned (.bool (same (runT ss ⟨xs, [], []⟩).2 ys)) ∧ Below w.heap.size w w') := by
 have KL := hid9 (serialS_c a a2 cap cap2 xs ss w hr hr2 ho);have KS := hid9 (fun (W : World) (hW : Below w.heap.size w W) (a7 : Option Addr) (c7 : Nat) (h : W.ownsRow w.heap.size 28 3 (.slice a7 (runT ss ⟨xs, [], []⟩).2.length c7) (runT ss ⟨xs, [], []⟩).2.length ((runT ss ⟨xs, [], []⟩).2.flatMap encA)) => specEqAnswer_c a7 a3 c7 cap3 (runT ss ⟨xs, [], []⟩).2 ys W (by rw [runT_len]; have := ho.2.1; unfold maxLen; omega) (reads_owns2 encA_len h) (hr3.below hW));clear hr hr2 hr3 ho;go_enter func46, ntmps46;go_wp2_with fail;refine KL.out.mono ?_;rintro e w1 ⟨a0, c0, a7, c7, rfl, hb, o0, o7⟩;have K2 := hid9 (KS.out w1 hb a7 c7 o7);have HB := hid9 hb;clear hb o0 o7 KS KL;go_wp2_with fail;refine K2.out.mono ?_;rintro e w2 ⟨rfl, hb2⟩;have HE := hid9 (HB.out.trans (hb2.mono HB.out.size));clear hb2 K2;go_wp2;go_ret;exact ⟨rfl, HE.out⟩
set_option maxRecDepth 100000 in
theorem agreesI_c (a a2 a3 : Option Addr) (cap cap2 cap3 : Nat) (xs : Sto) (ss : List Stp) (ys : List Ans) (w : World) (hr : Reads w a 2 encC xs) (hr2 : Reads w a2 7 encStp ss) (hr3 : Reads w a3 3 encA ys) (ho : RunOk ss xs) (HT : ∀ W, Below w.heap.size w W → Tabs W) :
 Calls prog 45 #[.slice a xs.length cap, .slice a2 ss.length cap2, .slice a3 ys.length cap3] w (fun e w' => e = .returned (.bool (same (runT ss ⟨xs, [], []⟩).2 ys)) ∧ Below w.heap.size w w') := by
 have KL := hid9 (serialI_c a a2 cap cap2 xs ss w hr hr2 ho HT);rw [run_same] at KL;have KS := hid9 (fun (W : World) (hW : Below w.heap.size w W) (a7 : Option Addr) (c7 : Nat) (h : W.ownsRow w.heap.size 28 3 (.slice a7 (runT ss ⟨xs, [], []⟩).2.length c7) (runT ss ⟨xs, [], []⟩).2.length ((runT ss ⟨xs, [], []⟩).2.flatMap encA)) => implSameAnswers_c a7 a3 c7 cap3 (runT ss ⟨xs, [], []⟩).2 ys W (by rw [runT_len]; have := ho.2.1; unfold maxLen; omega) (reads_owns2 encA_len h) (hr3.below hW));clear hr hr2 hr3 ho HT;go_enter func45, ntmps45;go_wp2_with fail;refine KL.out.mono ?_;rintro e w1 ⟨u1, a7, c7, rfl, hb, o0, o7, -⟩;obtain ⟨a0, c0, hv, -⟩ := reads_of_owns encC_len o0;subst hv;have K2 := hid9 (KS.out w1 hb a7 c7 o7);have HB := hid9 hb;clear hb o0 o7 KS KL;go_wp2_with fail;refine K2.out.mono ?_;rintro e w2 ⟨rfl, hb2⟩;have HE := hid9 (HB.out.trans (hb2.mono HB.out.size));clear hb2 K2;go_wp2;go_ret;exact ⟨rfl, HE.out⟩
end
end Go.Proofs.YtihghflppegnmaaGreatDoor
