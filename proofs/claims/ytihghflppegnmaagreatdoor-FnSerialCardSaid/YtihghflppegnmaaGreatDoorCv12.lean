/- Lemmas and contracts that the last text leans on, joined: DrawZ, Grow, NumFacts, KidFacts, Big, DrawK, SliceStep, DrawL, Touch, DrawA, Join, SliceAnswer, RunI. Conditions: as each theorem says. -/
import Derived.Test.YtihghflppegnmaaGreatDoorCv0
import Derived.Test.YtihghflppegnmaaGreatDoorCv11
set_option linter.unusedSimpArgs false
set_option linter.unusedVariables false
set_option maxHeartbeats 40000000
namespace Go.Proofs.YtihghflppegnmaaGreatDoor
open Go.Proofs.Tryz
section
open Go.ChangeShapes Go.WideShapes Go.ChangeAt Go.RowKit
attribute [local go_sem ↓] Go.wp_at_zero Go.wp_at_succ
theorem Cur.grown {w0 w w' : World} {c b : Nat} (h : Cur w0 w c) (hg : w.grownBy w' (some b)) (hne : b ≠ c) (hb : w0.heap.size ≤ b) : Cur w0 w' c := by
 have hlt := h.lt;obtain ⟨a, len, cap, z, i, x, h1, h2, h3, h4, h5⟩ := h;exact ⟨a, len, cap, z, i, x, h1, h2, ⟨hg.os.trans h3.os, hg.tape.trans h3.tape, hg.output.trans h3.output, Nat.le_trans h3.size hg.size, fun k hk => (hg.block k (Nat.lt_of_lt_of_le hk h3.size) (fun e => by cases e; omega)).trans (h3.block k hk)⟩, h4, (hg.block c hlt (fun e => by cases e; exact hne rfl)).trans h5⟩
theorem grown_above {w W w' : World} {c b : Nat} (h1 : w.grownBy W (some c)) (h2 : W.grownBy w' (some b)) (hb : w.heap.size ≤ b) : w.grownBy w' (some c) :=
 ⟨h2.os.trans h1.os, h2.tape.trans h1.tape, h2.output.trans h1.output, Nat.le_trans h1.size h2.size, fun k hk hne => (h2.block k (Nat.lt_of_lt_of_le hk h1.size) (fun e => by cases e; omega)).trans (h1.block k hk hne)⟩
theorem grown_setCell (w : World) (b i : Nat) (v : Value) : w.grownBy (w.setCell ⟨b, i, none⟩ v) (some b) := grownBy_setCell w b i v
theorem Box.grown {w w' : World} {b c : Nat} {xs : List Value} (h : Box w b xs) (hg : w.grownBy w' (some c)) (hne : b ≠ c) : Box w' b xs :=
 ⟨Nat.lt_of_lt_of_le h.1 hg.size, h.2.elim fun T hT => ⟨T, (hg.block b h.1 (fun e => by cases e; exact hne rfl)).trans hT⟩⟩
def fieldsV (k : Int) (n d : ByteArray) (a b : Int) (t : ByteArray) : List Value := [.int .i64 k, .string n, .string d, .int .i64 a, .int .i64 b, .string t]
abbrev zeroV : List Value := fieldsV 0 ⟨#[]⟩ ⟨#[]⟩ 0 0 ⟨#[]⟩
def okI (x : Int) : Prop := -9223372036854775808 ≤ x ∧ x ≤ 9223372036854775807
def IsCal (v : Value) (_ : World) : Prop := ∃ (k : Int) (n d : ByteArray) (a b : Int) (t : ByteArray), v = .agg #[.int .i64 k, .string n, .string d, .int .i64 a, .int .i64 b, .string t] ∧ n.size ≤ 100 ∧ d.size ≤ 100 ∧ t.size ≤ 100 ∧ okI a ∧ okI b
structure St (w0 w : World) (c r bx : Nat) (xs : List Value) (W : World) : Prop where
 cur : Cur w0 W c
 gr : w.grownBy W (some c)
 rb : Box W r zeroV
 xb : Box W bx xs
 hr : w.heap.size ≤ r
 hx : w.heap.size ≤ bx
 ne : r ≠ bx
 hc : c < w.heap.size
 hw : w0.heap.size ≤ w.heap.size
theorem St.draw {w0 w W W2 : World} {c r bx : Nat} {xs : List Value} (h : St w0 w c r bx xs W) (hc2 : Cur w0 W2 c) (hg2 : W.grownBy W2 (some c)) : St w0 w c r bx xs W2 :=
 ⟨hc2, grownBy_trans h.gr hg2, h.rb.grown hg2 (by have := h.hr; have := h.hc; omega), h.xb.grown hg2 (by have := h.hx; have := h.hc; omega), h.hr, h.hx, h.ne, h.hc, h.hw⟩
theorem St.below {w0 w W W2 : World} {c r bx : Nat} {xs : List Value} (h : St w0 w c r bx xs W) (hb : Below W.heap.size W W2) : St w0 w c r bx xs W2 :=
 ⟨h.cur.below hb, grownBy_below2 h.gr hb, h.rb.below hb, h.xb.below hb, h.hr, h.hx, h.ne, h.hc, h.hw⟩
theorem St.set {w0 w W : World} {c r bx : Nat} {xs : List Value} (h : St w0 w c r bx xs W) (i : Nat) (v : Value) {ys : List Value} (hy : xs.set i v = ys) : St w0 w c r bx ys (W.setCell ⟨bx, i, none⟩ v) := by
 subst hy;have h1 := h.hx; have h2 := h.hc; have h3 := h.hw;exact ⟨h.cur.grown (grown_setCell W bx i v) (by omega) (by omega), grown_above h.gr (grown_setCell W bx i v) h.hx, box_far2 h.rb h.ne i v, box_put h.xb i v, h.hr, h.hx, h.ne, h.hc, h.hw⟩
theorem St.last {w0 w W : World} {c r bx : Nat} {xs : List Value} (h : St w0 w c r bx xs W) (vs : List Value) : Cur w0 (sets W r 0 vs) c ∧ w.grownBy (sets W r 0 vs) (some c) := by
 have h1 := h.hr; have h2 := h.hc; have h3 := h.hw;exact ⟨h.cur.grown (sets_grown vs W r 0) (by omega) (by omega), grown_above h.gr (sets_grown vs W r 0) h.hr⟩
theorem strIf_size (b : Bool) (s : ByteArray) : (strIf b s).size ≤ s.size := by
 cases b
 ·exact Nat.zero_le _
 ·exact Nat.le_refl _
theorem told_n (x : Cal) : (toldOf x).name.size ≤ x.name.size := strIf_size (useN x.kind) x.name
theorem told_d (x : Cal) : (toldOf x).dest.size ≤ x.dest.size := strIf_size (useT x.kind) x.dest
theorem intIf_ok (b : Bool) {x : Int} (h : okI x) : okI (intIf b x) := by
 cases b
 ·exact ⟨(by decide : (-9223372036854775808 : Int) ≤ 0), (by decide : (0 : Int) ≤ 9223372036854775807)⟩
 ·exact h
theorem told_a (x : Cal) (h : okI x.a) : okI (toldOf x).a := intIf_ok (useA x.kind) h
theorem told_b (x : Cal) (h : okI x.b) : okI (toldOf x).b := intIf_ok (useB x.kind) h
theorem told_t (x : Cal) : (toldOf x).text.size ≤ x.text.size := strIf_size (useX x.kind) x.text
def IsOneInt (xs : List Int) (v : Value) (_ : World) : Prop := ∃ n, v = .int .i64 n ∧ n ∈ xs
theorem pickInt_c (w0 w : World) (c : Nat) (a : Option Addr) (cap : Nat) (xs : List Int) (hc : Cur w0 w c) (hlen : 0 < xs.length) (hl2 : xs.length ≤ maxLen) (hr : Reads w a 1 encI xs) (hne : ∀ b off, a = some ⟨b, off, none⟩ → b ≠ c) :
 Calls prog 125 #[.pointer (some ⟨c, 0, none⟩), .slice a xs.length cap] w (Drawn w0 c (IsOneInt xs) w) := by
 unfold maxLen at hl2;have K := hid9 (below_c w0 w c (xs.length : Int) hc (by omega));have HR := hid9 hr;have HN := hid9 hne;clear hc hr hne;go_enter func125, ntmps125;go_wp2_with fail;refine K.out.mono ?_;rintro e w1 ⟨v, rfl, ⟨x, rfl, x0, x1, _⟩, hc1, hg1⟩;have hx1 := x1 (by omega);obtain ⟨k, rfl⟩ : ∃ k : Nat, x = (k : Int) := ⟨x.toNat, by omega⟩;obtain ⟨y, hy⟩ := some_of_lt (xs := xs) (k := k) (by omega);obtain ⟨b, off, hab, c0⟩ := readFI HR.out (Below.refl _ _) hy;have hbn := HN.out b off hab;have c1 : w1.cell? ⟨b, off + k, none⟩ = some (.int .i64 y) := (World.cell?_of_block (hg1.block b (World.block_lt_of_cell? w _ c0) (fun e => hbn (by cases e; rfl)))).trans c0;subst hab;have HEND := hid9 (show Drawn w0 c (IsOneInt xs) w (.returned (.int .i64 y)) w1 from ⟨_, rfl, ⟨y, rfl, List.mem_of_getElem? hy⟩, hc1, hg1⟩);clear hc1 hg1 hy c0 x1;go_wp2;go_ret;exact HEND.out
theorem readsI_new (w : World) (xs : List Int) (T : TypeId) : Reads (w.alloc (.cells (xs.flatMap encI).toArray T)) (some ⟨w.heap.size, 0, none⟩) 1 encI xs :=
 .inr ⟨w.heap.size, 0, rfl, by simp, fun i x hx j v hv => by
  have hj : j = 0 := by
   have := (List.getElem?_eq_some_iff.1 hv).1;simp [encI] at this; omega
  subst hj;have h := getElem_flatMap encI_len xs i 0 x hx (by decide);rw [Nat.zero_add];exact (Box.new w (xs.flatMap encI) T).cell _ v (h.trans hv)⟩
theorem pickIntN_c (w0 w : World) (c : Nat) (xs : List Int) (T : TypeId) (n N : Nat) (hn : n = xs.length) (hN : N = w.heap.size) (hc : Cur w0 w c) (hlen : 0 < xs.length) (hl2 : xs.length ≤ maxLen) :
 Calls prog 125 #[.pointer (some ⟨c, 0, none⟩), .slice (some ⟨N, 0, none⟩) n n] (w.alloc (.cells (xs.flatMap encI).toArray T)) (Drawn w0 c (IsOneInt xs) w) := by
 subst hn hN;refine (pickInt_c w0 _ c _ _ xs (hc.below ((Below.refl _ _).alloc (Nat.le_refl _) _)) hlen hl2 (readsI_new w xs T) (fun b off e => ?_)).mono fun e w' h => Drawn.from (grownBy_of_below ((Below.refl _ _).alloc (Nat.le_refl _) _) _) h;cases e;have := hc.lt;omega
theorem pickN_c (w0 w : World) (c : Nat) (xs : List ByteArray) (T : TypeId) (n N : Nat) (hn : n = xs.length) (hN : N = w.heap.size) (hc : Cur w0 w c) (hlen : 0 < xs.length) (hl2 : xs.length ≤ maxLen) :
 Calls prog 65 #[.pointer (some ⟨c, 0, none⟩), .slice (some ⟨N, 0, none⟩) n n] (w.alloc (.cells (xs.flatMap encS).toArray T)) (Drawn w0 c (IsOneOf xs) w) := by
 subst hN;exact pickNew_c w0 w c xs T n hn hc hlen hl2
def kindList : List Int := [1, 1, 2, 3, 4, 5, 6, 6, 7, 7, 8, 9, 10, 10, 11, 11, 12, 13, 14, 15, 16, 17, 18, 19, 20, 21, 22, 22]
def nameList : List ByteArray := [⟨#[120]⟩, ⟨#[121]⟩, ⟨#[108, 111, 103]⟩]
def destList : List ByteArray := [⟨#[120]⟩, ⟨#[121]⟩, ⟨#[122]⟩]
theorem oddName_size : ∀ s ∈ [(⟨#[]⟩ : ByteArray), ⟨#[65]⟩, longK 21 97], s.size ≤ 100 := by decide
theorem nameList_size : ∀ s ∈ nameList, s.size ≤ 100 := by decide
theorem destList_size : ∀ s ∈ destList, s.size ≤ 100 := by decide
set_option maxRecDepth 100000 in
theorem call_c (w0 w : World) (c : Nat) (hc : Cur w0 w c) : Calls prog 124 #[.pointer (some ⟨c, 0, none⟩)] w (Drawn w0 c IsCal w) := by
 have hcl := hc.lt;have hw := hc.base.size;have K1 := hid9 (pickIntN_c w0 (w.alloc (.cells zeroV.toArray 36)) c kindList 3 28 (w.heap.size + 1) rfl (by simp) (hc.below bel9) (by decide) (by decide));have HR0 := hid9 (Box.new w zeroV 36);have KN := hid9 (fun W N (hN : N = W.heap.size) (h : Cur w0 W c) => pickN_c w0 W c nameList 9 3 N rfl hN h (by decide) (by decide));have KT := hid9 (fun W N (hN : N = W.heap.size) (h : Cur w0 W c) => pickN_c w0 W c destList 9 3 N rfl hN h (by decide) (by decide));have K4 := hid9 (fun W (h : Cur w0 W c) => below_c w0 W c 4 h (by decide));have K12 := hid9 (fun W (h : Cur w0 W c) => below_c w0 W c 12 h (by decide));have KX := hid9 (fun W n (h : Cur w0 W c) (hn : n ≤ 5000) => text_c w0 W c n h hn);clear hc;go_enter func124, ntmps124;go_wp2_with fail;refine K1.out.mono ?_;rintro e w2 ⟨v, rfl, ⟨k, rfl, _⟩, hc2, hg2⟩;have hs2 : w.heap.size + 1 ≤ w2.heap.size := by have := hg2.size; simpa using this
 have S2 := hid9 (show St w0 w c w.heap.size w2.heap.size (fieldsV k ⟨#[]⟩ ⟨#[]⟩ 0 0 ⟨#[]⟩) (w2.alloc (.cells (fieldsV k ⟨#[]⟩ ⟨#[]⟩ 0 0 ⟨#[]⟩).toArray 36)) from
  ⟨hc2.below bel9, grownBy_below2 (grownBy_trans (grownBy_of_below (show Below w.heap.size w (w.alloc (.cells zeroV.toArray 36)) from bel9) _) hg2) bel9, (HR0.out.grown hg2 (by omega)).alloc _, Box.new _ _ _, Nat.le_refl _, by omega, by omega, hcl, hw⟩)
 have hb2 := hid9 (show w2.heap.size + 1 = (w2.alloc (.cells (fieldsV k ⟨#[]⟩ ⟨#[]⟩ 0 0 ⟨#[]⟩).toArray 36)).heap.size by simp);clear hc2 hg2 K1 HR0;go_wp2_with fail;refine (KN.out _ _ hb2.out S2.out.cur).mono ?_;rintro e w3 ⟨v, rfl, ⟨s1, rfl, hs1⟩, hc3, hg3⟩;have S3 := hid9 (S2.out.draw hc3 hg3);have T1 := hid9 (nameList_size s1 hs1);clear hc3 hg3 S2 hb2 hs1;have f1 := S3.out.xb.cell 1 _ rfl;have z1 := S3.out.xb.free 1;have S4 := hid9 (S3.out.set 1 (.string s1) (ys := fieldsV k s1 ⟨#[]⟩ 0 0 ⟨#[]⟩) rfl);have hb4 := hid9 (show w3.heap.size = (w3.setCell ⟨w2.heap.size, 1, none⟩ (.string s1)).heap.size by simp);clear S3;go_wp2_with fail;refine (KT.out _ _ hb4.out S4.out.cur).mono ?_;rintro e w5 ⟨v, rfl, ⟨s2, rfl, hs2'⟩, hc5, hg5⟩;have S5 := hid9 (S4.out.draw hc5 hg5);have T2 := hid9 (destList_size s2 hs2');clear hc5 hg5 S4 hb4 hs2' f1 z1;have f2 := S5.out.xb.cell 2 _ rfl;have z2 := S5.out.xb.free 2;have S6 := hid9 (S5.out.set 2 (.string s2) (ys := fieldsV k s1 s2 0 0 ⟨#[]⟩) rfl);clear S5;go_wp2_with fail;refine (K4.out _ S6.out.cur).mono ?_;rintro e w7 ⟨v, rfl, ⟨x3, rfl, x30, x31, _⟩, hc7, hg7⟩;have A3 := hid9 (show okI x3 from by have := x31 (by decide); unfold okI; omega);clear x30 x31;have S7 := hid9 (S6.out.draw hc7 hg7);clear hc7 hg7 S6 f2 z2;have f3 := S7.out.xb.cell 3 _ rfl;have z3 := S7.out.xb.free 3;have S8 := hid9 (S7.out.set 3 (.int .i64 x3) (ys := fieldsV k s1 s2 x3 0 ⟨#[]⟩) rfl);clear S7;go_wp2_with fail;refine (K12.out _ S8.out.cur).mono ?_;rintro e w9 ⟨v, rfl, ⟨x4, rfl, x40, x41, _⟩, hc9, hg9⟩;have x42 := x41 (by decide);have S9 := hid9 (S8.out.draw hc9 hg9);clear hc9 hg9 S8 f3 z3 x41;have hwx : IntKind.i64.wrap (1 + x4) = 1 + x4 := by rw [IntKind.wrap_i64]; omega
 have A4 := hid9 (show okI (1 + x4) from by unfold okI; omega);have f4 := S9.out.xb.cell 4 _ rfl;have z4 := S9.out.xb.free 4;have S10 := hid9 (S9.out.set 4 (.int .i64 (1 + x4)) (ys := fieldsV k s1 s2 x3 (1 + x4) ⟨#[]⟩) rfl);clear S9;go_wp2_with fail;refine (K12.out _ S10.out.cur).mono ?_;rintro e w11 ⟨v, rfl, ⟨x5, rfl, x50, x51, _⟩, hc11, hg11⟩;have x52 := x51 (by decide);have S11 := hid9 (S10.out.draw hc11 hg11);clear hc11 hg11 S10 f4 z4 hwx x51;go_wp2_with fail;refine (KX.out _ x5 S11.out.cur (by omega)).mono ?_;rintro e w12 ⟨v, rfl, ⟨t, rfl, ht⟩, hc12, hg12⟩;have S12 := hid9 (S11.out.draw hc12 hg12);have T3 := hid9 (show t.size ≤ 100 by omega);clear hc12 hg12 S11 ht;have f5 := S12.out.xb.cell 5 _ rfl;have z5 := S12.out.xb.free 5;have S13 := hid9 (S12.out.set 5 (.string t) (ys := fieldsV k s1 s2 x3 (1 + x4) t) rfl);have f0 : w12.cell? ⟨w2.heap.size, 0, none⟩ = some (.int .i64 k) := S12.out.xb.cell 0 _ rfl;by_cases h6 : k = 6
 ·subst h6;go_wp2_with fail;refine (K12.out _ S13.out.cur).mono ?_;rintro e w14 ⟨v, rfl, ⟨x6, rfl, x60, x61, _⟩, hc14, hg14⟩;replace A3 := hid9 (show okI x6 from by have := x61 (by decide); unfold okI; omega);clear x60 x61;have S14 := hid9 (S13.out.draw hc14 hg14);clear hc14 hg14 S13 S12 f0 f5 z5;have f0 := S14.out.xb.cell 0 _ rfl;have f1 := S14.out.xb.cell 1 _ rfl;have f2 := S14.out.xb.cell 2 _ rfl;have f3 := S14.out.xb.cell 3 _ rfl;have f4 := S14.out.xb.cell 4 _ rfl;have f5 := S14.out.xb.cell 5 _ rfl;have z3 := S14.out.xb.free 3;have S15 := hid9 (S14.out.set 3 (.int .i64 x6) (ys := fieldsV 6 s1 s2 x6 (1 + x4) t) rfl);clear S14;obtain ⟨y, hy⟩ : ∃ y, toldOf ⟨6, s1, s2, x6, 1 + x4, t⟩ = y := ⟨_, rfl⟩;have KT2 := hid9 (fun W => specTold_c ⟨6, s1, s2, x6, 1 + x4, t⟩ W);have HN := hid9 (show y.name.size ≤ 100 from by rw [← hy]; exact Nat.le_trans (told_n _) T1.out);have HD := hid9 (show y.dest.size ≤ 100 from by rw [← hy]; exact Nat.le_trans (told_d _) T2.out);have HX := hid9 (show y.text.size ≤ 100 from by rw [← hy]; exact Nat.le_trans (told_t _) T3.out);have HA := hid9 (show okI y.a from by rw [← hy]; exact told_a _ A3.out);have HB := hid9 (show okI y.b from by rw [← hy]; exact told_b _ A4.out);rw [hy] at KT2;clear hy;obtain ⟨yk, yn, yd, ya, yb, yt⟩ := y;dsimp only at KT2 HN HD HX HA HB;go_wp2_with fail;refine (KT2.out _).mono ?_;rintro e w16 ⟨rfl, hb16⟩;have S16 := hid9 (S15.out.below hb16);have HEND := hid9 (show Drawn w0 c IsCal w (.returned (.agg #[.int .i64 yk, .string yn, .string yd, .int .i64 ya, .int .i64 yb, .string yt])) (sets w16 w.heap.size 0 (fieldsV yk yn yd ya yb yt)) from ⟨_, rfl, ⟨yk, yn, yd, ya, yb, yt, rfl, HN.out, HD.out, HX.out, HA.out, HB.out⟩, (S16.out.last _).1, (S16.out.last _).2⟩);clear hb16 f0 f1 f2 f3 f4 f5 z3;have r0 : w16.cell? ⟨w.heap.size, 0, none⟩ = some (.int .i64 0) := S16.out.rb.cell 0 _ rfl;have y0 := S16.out.rb.free 0;have r1 : w16.cell? ⟨w.heap.size, 1, none⟩ = some (.string ⟨#[]⟩) := S16.out.rb.cell 1 _ rfl;have y1 := S16.out.rb.free 1;have r2 : w16.cell? ⟨w.heap.size, 2, none⟩ = some (.string ⟨#[]⟩) := S16.out.rb.cell 2 _ rfl;have y2 := S16.out.rb.free 2;have r3 : w16.cell? ⟨w.heap.size, 3, none⟩ = some (.int .i64 0) := S16.out.rb.cell 3 _ rfl;have y3 := S16.out.rb.free 3;have r4 : w16.cell? ⟨w.heap.size, 4, none⟩ = some (.int .i64 0) := S16.out.rb.cell 4 _ rfl;have y4 := S16.out.rb.free 4;have r5 : w16.cell? ⟨w.heap.size, 5, none⟩ = some (.string ⟨#[]⟩) := S16.out.rb.cell 5 _ rfl;have y5 := S16.out.rb.free 5;go_wp2;exact bodyPost_ret (v := .agg #[.int .i64 yk, .string yn, .string yd, .int .i64 ya, .int .i64 yb, .string yt]) (by simp [results, results124, go_sem, *]) rfl HEND.out
 ·have hk6 : (k == 6) = false := by rw [beq_eq_false_iff_ne]; exact h6
  have f1 := S12.out.xb.cell 1 _ rfl;have f2 := S12.out.xb.cell 2 _ rfl;have f3 := S12.out.xb.cell 3 _ rfl;have f4 := S12.out.xb.cell 4 _ rfl;clear S12;obtain ⟨y, hy⟩ : ∃ y, toldOf ⟨k, s1, s2, x3, 1 + x4, t⟩ = y := ⟨_, rfl⟩;have KT2 := hid9 (fun W => specTold_c ⟨k, s1, s2, x3, 1 + x4, t⟩ W);have HN := hid9 (show y.name.size ≤ 100 from by rw [← hy]; exact Nat.le_trans (told_n _) T1.out);have HD := hid9 (show y.dest.size ≤ 100 from by rw [← hy]; exact Nat.le_trans (told_d _) T2.out);have HX := hid9 (show y.text.size ≤ 100 from by rw [← hy]; exact Nat.le_trans (told_t _) T3.out);have HA := hid9 (show okI y.a from by rw [← hy]; exact told_a _ A3.out);have HB := hid9 (show okI y.b from by rw [← hy]; exact told_b _ A4.out);rw [hy] at KT2;clear hy;obtain ⟨yk, yn, yd, ya, yb, yt⟩ := y;dsimp only at KT2 HN HD HX HA HB;go_wp2_with fail;refine (KT2.out _).mono ?_;rintro e w16 ⟨rfl, hb16⟩;have S16 := hid9 (S13.out.below hb16);have HEND := hid9 (show Drawn w0 c IsCal w (.returned (.agg #[.int .i64 yk, .string yn, .string yd, .int .i64 ya, .int .i64 yb, .string yt])) (sets w16 w.heap.size 0 (fieldsV yk yn yd ya yb yt)) from ⟨_, rfl, ⟨yk, yn, yd, ya, yb, yt, rfl, HN.out, HD.out, HX.out, HA.out, HB.out⟩, (S16.out.last _).1, (S16.out.last _).2⟩);clear hb16 f0 f1 f2 f3 f4 f5 z5;have r0 : w16.cell? ⟨w.heap.size, 0, none⟩ = some (.int .i64 0) := S16.out.rb.cell 0 _ rfl;have y0 := S16.out.rb.free 0;have r1 : w16.cell? ⟨w.heap.size, 1, none⟩ = some (.string ⟨#[]⟩) := S16.out.rb.cell 1 _ rfl;have y1 := S16.out.rb.free 1;have r2 : w16.cell? ⟨w.heap.size, 2, none⟩ = some (.string ⟨#[]⟩) := S16.out.rb.cell 2 _ rfl;have y2 := S16.out.rb.free 2;have r3 : w16.cell? ⟨w.heap.size, 3, none⟩ = some (.int .i64 0) := S16.out.rb.cell 3 _ rfl;have y3 := S16.out.rb.free 3;have r4 : w16.cell? ⟨w.heap.size, 4, none⟩ = some (.int .i64 0) := S16.out.rb.cell 4 _ rfl;have y4 := S16.out.rb.free 4;have r5 : w16.cell? ⟨w.heap.size, 5, none⟩ = some (.string ⟨#[]⟩) := S16.out.rb.cell 5 _ rfl;have y5 := S16.out.rb.free 5;go_wp2;exact bodyPost_ret (v := .agg #[.int .i64 yk, .string yn, .string yd, .int .i64 ya, .int .i64 yb, .string yt]) (by simp [results, results124, go_sem, *]) rfl HEND.out
set_option maxRecDepth 100000 in
theorem anyCall_c (w0 w : World) (c : Nat) (hc : Cur w0 w c) : Calls prog 67 #[.pointer (some ⟨c, 0, none⟩)] w (Drawn w0 c IsCal w) := by
 have hcl := hc.lt;have hw := hc.base.size;have K1 := hid9 (call_c w0 (w.alloc (.cells zeroV.toArray 36)) c (hc.below bel9));have HR0 := hid9 (Box.new w zeroV 36);have K12 := hid9 (fun W (h : Cur w0 W c) => below_c w0 W c 12 h (by decide));have K46 := hid9 (fun W (h : Cur w0 W c) => below_c w0 W c 46 h (by decide));have KP0 := hid9 (fun W N (hN : N = W.heap.size) (h : Cur w0 W c) => pickIntN_c w0 W c [0, 23, -1, 5] 3 4 N rfl hN h (by decide) (by decide));have KP2 := hid9 (fun W N (hN : N = W.heap.size) (h : Cur w0 W c) => pickIntN_c w0 W c [-1, 99, 9223372036854775807, -9223372036854775808] 3 4 N rfl hN h (by decide) (by decide));have KP4 := hid9 (fun W N (hN : N = W.heap.size) (h : Cur w0 W c) => pickIntN_c w0 W c [0, -1, 9223372036854775807] 3 3 N rfl hN h (by decide) (by decide));have KP1 := hid9 (fun W N (hN : N = W.heap.size) (h : Cur w0 W c) => pickN_c w0 W c [⟨#[]⟩, ⟨#[65]⟩, longK 21 97] 9 3 N rfl hN h (by decide) (by decide));have KL1 := hid9 (fun W => (show Calls prog 126 #[.int .i64 21, .int .u8 97] W fun e w' => e = .returned (.string (longK 21 97)) ∧ Below W.heap.size W w' from long_c 21 97 W (by decide)));clear hc;go_enter func67, ntmps67;go_wp2_with fail;refine K1.out.mono ?_;rintro e w1 ⟨v, rfl, ⟨k, n, d, a, b, t, rfl, hn, hd, ht, ha4, hb4⟩, hc1, hg1⟩;have T4 := hid9 ha4;have T5 := hid9 hb4;clear ha4 hb4;have T1 := hid9 hn;have T2 := hid9 hd;have T3 := hid9 ht;have hs1 : w.heap.size + 1 ≤ w1.heap.size := by have := hg1.size; simpa using this
 have S1 := hid9 (show St w0 w c w.heap.size w1.heap.size (fieldsV k n d a b t) (w1.alloc (.cells (fieldsV k n d a b t).toArray 36)) from
  ⟨hc1.below bel9, grownBy_below2 (grownBy_trans (grownBy_of_below (show Below w.heap.size w (w.alloc (.cells zeroV.toArray 36)) from bel9) _) hg1) bel9, (HR0.out.grown hg1 (by omega)).alloc _, Box.new _ _ _, Nat.le_refl _, by omega, by omega, hcl, hw⟩)
 clear hc1 hg1 K1 HR0 hn hd ht;go_wp2_with fail;refine (K12.out _ S1.out.cur).mono ?_;rintro e w2 ⟨v, rfl, ⟨m, rfl, m0, _, _⟩, hc2, hg2⟩;have S2 := hid9 (S1.out.draw hc2 hg2);clear hc2 hg2 S1;rcases (show m = 0 ∨ m = 1 ∨ m = 2 ∨ m = 3 ∨ m = 4 ∨ 4 < m by omega) with rfl | rfl | rfl | rfl | rfl | hm
 ·go_wp2_with fail;refine (KP0.out _ _ rfl S2.out.cur).mono ?_;rintro e w3 ⟨v, rfl, ⟨q, rfl, hq⟩, hc3, hg3⟩;have S3 := hid9 (S2.out.draw hc3 hg3);clear hc3 hg3 S2 hq;have f0 := S3.out.xb.cell 0 _ rfl;have f1 := S3.out.xb.cell 1 _ rfl;have f2 := S3.out.xb.cell 2 _ rfl;have f3 := S3.out.xb.cell 3 _ rfl;have f4 := S3.out.xb.cell 4 _ rfl;have f5 := S3.out.xb.cell 5 _ rfl;have z0 := S3.out.xb.free 0;have S4 := hid9 (S3.out.set 0 (.int .i64 q) (ys := fieldsV q n d a b t) rfl);have r0 : w3.cell? ⟨w.heap.size, 0, none⟩ = some (.int .i64 0) := S3.out.rb.cell 0 _ rfl;have y0 := S3.out.rb.free 0;have r1 : w3.cell? ⟨w.heap.size, 1, none⟩ = some (.string ⟨#[]⟩) := S3.out.rb.cell 1 _ rfl;have y1 := S3.out.rb.free 1;have r2 : w3.cell? ⟨w.heap.size, 2, none⟩ = some (.string ⟨#[]⟩) := S3.out.rb.cell 2 _ rfl;have y2 := S3.out.rb.free 2;have r3 : w3.cell? ⟨w.heap.size, 3, none⟩ = some (.int .i64 0) := S3.out.rb.cell 3 _ rfl;have y3 := S3.out.rb.free 3;have r4 : w3.cell? ⟨w.heap.size, 4, none⟩ = some (.int .i64 0) := S3.out.rb.cell 4 _ rfl;have y4 := S3.out.rb.free 4;have r5 : w3.cell? ⟨w.heap.size, 5, none⟩ = some (.string ⟨#[]⟩) := S3.out.rb.cell 5 _ rfl;have y5 := S3.out.rb.free 5;have HEND := hid9 (fun W (h : St w0 w c w.heap.size w1.heap.size (fieldsV (q) (n) (d) (a) (b) (t)) W) => (show Drawn w0 c IsCal w (.returned (.agg #[.int .i64 q, .string n, .string d, .int .i64 a, .int .i64 b, .string t])) (sets W w.heap.size 0 (fieldsV (q) (n) (d) (a) (b) (t))) from ⟨_, rfl, ⟨q, n, d, a, b, t, rfl, T1.out, T2.out, T3.out, T4.out, T5.out⟩, (h.last _).1, (h.last _).2⟩));go_wp2;exact bodyPost_ret (v := .agg #[.int .i64 q, .string n, .string d, .int .i64 a, .int .i64 b, .string t]) (by simp [results, results67, go_sem, *]) rfl (HEND.out _ S4.out)
 ·go_wp2_with fail;refine (KL1.out _).mono ?_;rintro e w9 ⟨rfl, hb9⟩;replace S2 := hid9 (S2.out.below hb9);clear hb9;go_wp2_with fail;refine (KP1.out _ _ rfl S2.out.cur).mono ?_;rintro e w3 ⟨v, rfl, ⟨q, rfl, hq⟩, hc3, hg3⟩;have S3 := hid9 (S2.out.draw hc3 hg3);have TQ := hid9 (show q.size ≤ 100 from oddName_size q hq);clear hc3 hg3 S2 hq;have f0 := S3.out.xb.cell 0 _ rfl;have f1 := S3.out.xb.cell 1 _ rfl;have f2 := S3.out.xb.cell 2 _ rfl;have f3 := S3.out.xb.cell 3 _ rfl;have f4 := S3.out.xb.cell 4 _ rfl;have f5 := S3.out.xb.cell 5 _ rfl;have z1 := S3.out.xb.free 1;have S4 := hid9 (S3.out.set 1 (.string q) (ys := fieldsV k q d a b t) rfl);have r0 : w3.cell? ⟨w.heap.size, 0, none⟩ = some (.int .i64 0) := S3.out.rb.cell 0 _ rfl;have y0 := S3.out.rb.free 0;have r1 : w3.cell? ⟨w.heap.size, 1, none⟩ = some (.string ⟨#[]⟩) := S3.out.rb.cell 1 _ rfl;have y1 := S3.out.rb.free 1;have r2 : w3.cell? ⟨w.heap.size, 2, none⟩ = some (.string ⟨#[]⟩) := S3.out.rb.cell 2 _ rfl;have y2 := S3.out.rb.free 2;have r3 : w3.cell? ⟨w.heap.size, 3, none⟩ = some (.int .i64 0) := S3.out.rb.cell 3 _ rfl;have y3 := S3.out.rb.free 3;have r4 : w3.cell? ⟨w.heap.size, 4, none⟩ = some (.int .i64 0) := S3.out.rb.cell 4 _ rfl;have y4 := S3.out.rb.free 4;have r5 : w3.cell? ⟨w.heap.size, 5, none⟩ = some (.string ⟨#[]⟩) := S3.out.rb.cell 5 _ rfl;have y5 := S3.out.rb.free 5;have HEND := hid9 (fun W (h : St w0 w c w.heap.size w1.heap.size (fieldsV (k) (q) (d) (a) (b) (t)) W) => (show Drawn w0 c IsCal w (.returned (.agg #[.int .i64 k, .string q, .string d, .int .i64 a, .int .i64 b, .string t])) (sets W w.heap.size 0 (fieldsV (k) (q) (d) (a) (b) (t))) from ⟨_, rfl, ⟨k, q, d, a, b, t, rfl, TQ.out, T2.out, T3.out, T4.out, T5.out⟩, (h.last _).1, (h.last _).2⟩));go_wp2;exact bodyPost_ret (v := .agg #[.int .i64 k, .string q, .string d, .int .i64 a, .int .i64 b, .string t]) (by simp [results, results67, go_sem, *]) rfl (HEND.out _ S4.out)
 ·go_wp2_with fail;refine (KP2.out _ _ rfl S2.out.cur).mono ?_;rintro e w3 ⟨v, rfl, ⟨q, rfl, hq⟩, hc3, hg3⟩;have S3 := hid9 (S2.out.draw hc3 hg3);have TQ := hid9 (show okI q from by simp at hq; unfold okI; omega);clear hc3 hg3 S2 hq;have f0 := S3.out.xb.cell 0 _ rfl;have f1 := S3.out.xb.cell 1 _ rfl;have f2 := S3.out.xb.cell 2 _ rfl;have f3 := S3.out.xb.cell 3 _ rfl;have f4 := S3.out.xb.cell 4 _ rfl;have f5 := S3.out.xb.cell 5 _ rfl;have z3 := S3.out.xb.free 3;have S4 := hid9 (S3.out.set 3 (.int .i64 q) (ys := fieldsV k n d q b t) rfl);have r0 : w3.cell? ⟨w.heap.size, 0, none⟩ = some (.int .i64 0) := S3.out.rb.cell 0 _ rfl;have y0 := S3.out.rb.free 0;have r1 : w3.cell? ⟨w.heap.size, 1, none⟩ = some (.string ⟨#[]⟩) := S3.out.rb.cell 1 _ rfl;have y1 := S3.out.rb.free 1;have r2 : w3.cell? ⟨w.heap.size, 2, none⟩ = some (.string ⟨#[]⟩) := S3.out.rb.cell 2 _ rfl;have y2 := S3.out.rb.free 2;have r3 : w3.cell? ⟨w.heap.size, 3, none⟩ = some (.int .i64 0) := S3.out.rb.cell 3 _ rfl;have y3 := S3.out.rb.free 3;have r4 : w3.cell? ⟨w.heap.size, 4, none⟩ = some (.int .i64 0) := S3.out.rb.cell 4 _ rfl;have y4 := S3.out.rb.free 4;have r5 : w3.cell? ⟨w.heap.size, 5, none⟩ = some (.string ⟨#[]⟩) := S3.out.rb.cell 5 _ rfl;have y5 := S3.out.rb.free 5;have HEND := hid9 (fun W (h : St w0 w c w.heap.size w1.heap.size (fieldsV (k) (n) (d) (q) (b) (t)) W) => (show Drawn w0 c IsCal w (.returned (.agg #[.int .i64 k, .string n, .string d, .int .i64 q, .int .i64 b, .string t])) (sets W w.heap.size 0 (fieldsV (k) (n) (d) (q) (b) (t))) from ⟨_, rfl, ⟨k, n, d, q, b, t, rfl, T1.out, T2.out, T3.out, TQ.out, T5.out⟩, (h.last _).1, (h.last _).2⟩));go_wp2;exact bodyPost_ret (v := .agg #[.int .i64 k, .string n, .string d, .int .i64 q, .int .i64 b, .string t]) (by simp [results, results67, go_sem, *]) rfl (HEND.out _ S4.out)
 ·go_wp2_with fail;refine (K46.out _ S2.out.cur).mono ?_;rintro e w3 ⟨v, rfl, ⟨q, rfl, q0, q1, _⟩, hc3, hg3⟩;have q2 := q1 (by decide);have S3 := hid9 (S2.out.draw hc3 hg3);clear hc3 hg3 S2 q1;have hwq : IntKind.i64.wrap (20 + q) = 20 + q := by rw [IntKind.wrap_i64]; omega
  obtain ⟨j, rfl⟩ : ∃ j : Nat, q = (j : Int) := ⟨q.toNat, by omega⟩;have KL3 := hid9 (fun W => (show Calls prog 126 #[.int .i64 (20 + (j : Int)), .int .u8 5] W fun e w' => e = .returned (.string (longK (20 + j) 5)) ∧ Below W.heap.size W w' from by
   have := long_c (20 + j) 5 W (by omega)
   rwa [show ((20 + j : Nat) : Int) = 20 + (j : Int) by omega] at this))
  have TQ := hid9 (show (longK (20 + j) 5).size ≤ 100 by rw [longK_size]; omega);go_wp2_with fail;refine (KL3.out _).mono ?_;rintro e w4 ⟨rfl, hb4⟩;have S4 := hid9 (S3.out.below hb4);clear hb4 S3 KL3;generalize longK (20 + j) 5 = q at *;have f0 := S4.out.xb.cell 0 _ rfl;have f1 := S4.out.xb.cell 1 _ rfl;have f2 := S4.out.xb.cell 2 _ rfl;have f3 := S4.out.xb.cell 3 _ rfl;have f4 := S4.out.xb.cell 4 _ rfl;have f5 := S4.out.xb.cell 5 _ rfl;have z5 := S4.out.xb.free 5;have S5 := hid9 (S4.out.set 5 (.string q) (ys := fieldsV k n d a b q) rfl);have r0 : w4.cell? ⟨w.heap.size, 0, none⟩ = some (.int .i64 0) := S4.out.rb.cell 0 _ rfl;have y0 := S4.out.rb.free 0;have r1 : w4.cell? ⟨w.heap.size, 1, none⟩ = some (.string ⟨#[]⟩) := S4.out.rb.cell 1 _ rfl;have y1 := S4.out.rb.free 1;have r2 : w4.cell? ⟨w.heap.size, 2, none⟩ = some (.string ⟨#[]⟩) := S4.out.rb.cell 2 _ rfl;have y2 := S4.out.rb.free 2;have r3 : w4.cell? ⟨w.heap.size, 3, none⟩ = some (.int .i64 0) := S4.out.rb.cell 3 _ rfl;have y3 := S4.out.rb.free 3;have r4 : w4.cell? ⟨w.heap.size, 4, none⟩ = some (.int .i64 0) := S4.out.rb.cell 4 _ rfl;have y4 := S4.out.rb.free 4;have r5 : w4.cell? ⟨w.heap.size, 5, none⟩ = some (.string ⟨#[]⟩) := S4.out.rb.cell 5 _ rfl;have y5 := S4.out.rb.free 5;have HEND := hid9 (fun W (h : St w0 w c w.heap.size w1.heap.size (fieldsV (k) (n) (d) (a) (b) (q)) W) => (show Drawn w0 c IsCal w (.returned (.agg #[.int .i64 k, .string n, .string d, .int .i64 a, .int .i64 b, .string q])) (sets W w.heap.size 0 (fieldsV (k) (n) (d) (a) (b) (q))) from ⟨_, rfl, ⟨k, n, d, a, b, q, rfl, T1.out, T2.out, TQ.out, T4.out, T5.out⟩, (h.last _).1, (h.last _).2⟩));go_wp2;exact bodyPost_ret (v := .agg #[.int .i64 k, .string n, .string d, .int .i64 a, .int .i64 b, .string q]) (by simp [results, results67, go_sem, *]) rfl (HEND.out _ S5.out)
 ·go_wp2_with fail;refine (KP4.out _ _ rfl S2.out.cur).mono ?_;rintro e w3 ⟨v, rfl, ⟨q, rfl, hq⟩, hc3, hg3⟩;have S3 := hid9 (S2.out.draw hc3 hg3);have TQ := hid9 (show okI q from by simp at hq; unfold okI; omega);clear hc3 hg3 S2 hq;have f0 := S3.out.xb.cell 0 _ rfl;have f1 := S3.out.xb.cell 1 _ rfl;have f2 := S3.out.xb.cell 2 _ rfl;have f3 := S3.out.xb.cell 3 _ rfl;have f4 := S3.out.xb.cell 4 _ rfl;have f5 := S3.out.xb.cell 5 _ rfl;have z4 := S3.out.xb.free 4;have S4 := hid9 (S3.out.set 4 (.int .i64 q) (ys := fieldsV k n d a q t) rfl);have r0 : w3.cell? ⟨w.heap.size, 0, none⟩ = some (.int .i64 0) := S3.out.rb.cell 0 _ rfl;have y0 := S3.out.rb.free 0;have r1 : w3.cell? ⟨w.heap.size, 1, none⟩ = some (.string ⟨#[]⟩) := S3.out.rb.cell 1 _ rfl;have y1 := S3.out.rb.free 1;have r2 : w3.cell? ⟨w.heap.size, 2, none⟩ = some (.string ⟨#[]⟩) := S3.out.rb.cell 2 _ rfl;have y2 := S3.out.rb.free 2;have r3 : w3.cell? ⟨w.heap.size, 3, none⟩ = some (.int .i64 0) := S3.out.rb.cell 3 _ rfl;have y3 := S3.out.rb.free 3;have r4 : w3.cell? ⟨w.heap.size, 4, none⟩ = some (.int .i64 0) := S3.out.rb.cell 4 _ rfl;have y4 := S3.out.rb.free 4;have r5 : w3.cell? ⟨w.heap.size, 5, none⟩ = some (.string ⟨#[]⟩) := S3.out.rb.cell 5 _ rfl;have y5 := S3.out.rb.free 5;have HEND := hid9 (fun W (h : St w0 w c w.heap.size w1.heap.size (fieldsV (k) (n) (d) (a) (q) (t)) W) => (show Drawn w0 c IsCal w (.returned (.agg #[.int .i64 k, .string n, .string d, .int .i64 a, .int .i64 q, .string t])) (sets W w.heap.size 0 (fieldsV (k) (n) (d) (a) (q) (t))) from ⟨_, rfl, ⟨k, n, d, a, q, t, rfl, T1.out, T2.out, T3.out, T4.out, TQ.out⟩, (h.last _).1, (h.last _).2⟩));go_wp2;exact bodyPost_ret (v := .agg #[.int .i64 k, .string n, .string d, .int .i64 a, .int .i64 q, .string t]) (by simp [results, results67, go_sem, *]) rfl (HEND.out _ S4.out)
 ·have m1 : (m == 0) = false := by rw [beq_eq_false_iff_ne]; omega
  have m2 : (m == 1) = false := by rw [beq_eq_false_iff_ne]; omega
  have m3 : (m == 2) = false := by rw [beq_eq_false_iff_ne]; omega
  have m4 : (m == 3) = false := by rw [beq_eq_false_iff_ne]; omega
  have m5 : (m == 4) = false := by rw [beq_eq_false_iff_ne]; omega
  have f0 := S2.out.xb.cell 0 _ rfl;have f1 := S2.out.xb.cell 1 _ rfl;have f2 := S2.out.xb.cell 2 _ rfl;have f3 := S2.out.xb.cell 3 _ rfl;have f4 := S2.out.xb.cell 4 _ rfl;have f5 := S2.out.xb.cell 5 _ rfl;have r0 : w2.cell? ⟨w.heap.size, 0, none⟩ = some (.int .i64 0) := S2.out.rb.cell 0 _ rfl;have y0 := S2.out.rb.free 0;have r1 : w2.cell? ⟨w.heap.size, 1, none⟩ = some (.string ⟨#[]⟩) := S2.out.rb.cell 1 _ rfl;have y1 := S2.out.rb.free 1;have r2 : w2.cell? ⟨w.heap.size, 2, none⟩ = some (.string ⟨#[]⟩) := S2.out.rb.cell 2 _ rfl;have y2 := S2.out.rb.free 2;have r3 : w2.cell? ⟨w.heap.size, 3, none⟩ = some (.int .i64 0) := S2.out.rb.cell 3 _ rfl;have y3 := S2.out.rb.free 3;have r4 : w2.cell? ⟨w.heap.size, 4, none⟩ = some (.int .i64 0) := S2.out.rb.cell 4 _ rfl;have y4 := S2.out.rb.free 4;have r5 : w2.cell? ⟨w.heap.size, 5, none⟩ = some (.string ⟨#[]⟩) := S2.out.rb.cell 5 _ rfl;have y5 := S2.out.rb.free 5;have HEND := hid9 (fun W (h : St w0 w c w.heap.size w1.heap.size (fieldsV (k) (n) (d) (a) (b) (t)) W) => (show Drawn w0 c IsCal w (.returned (.agg #[.int .i64 k, .string n, .string d, .int .i64 a, .int .i64 b, .string t])) (sets W w.heap.size 0 (fieldsV (k) (n) (d) (a) (b) (t))) from ⟨_, rfl, ⟨k, n, d, a, b, t, rfl, T1.out, T2.out, T3.out, T4.out, T5.out⟩, (h.last _).1, (h.last _).2⟩));go_wp2;exact bodyPost_ret (v := .agg #[.int .i64 k, .string n, .string d, .int .i64 a, .int .i64 b, .string t]) (by simp [results, results67, go_sem, *]) rfl (HEND.out _ S2.out)
end
section
open Go.RowKit
def hd (k : ByteArray) : Option UInt8 := k.data.toList.head?
theorem hd_app {a b : ByteArray} {c : UInt8} (h : hd a = some c) : hd (a ++ b) = some c := by
 unfold hd at *;rw [ByteArray.data_append, Array.toList_append, List.head?_append, h];rfl
theorem hd_num {a t : ByteArray} {n : Int} {c : UInt8} (h : hd a = some c) : hd (keyNumS a n t) = some c := hd_app (hd_app h)
theorem begins_iff {k p : ByteArray} (h : beginsB k p = true) : p.data.toList <+: k.data.toList := by
 unfold beginsB at h;rw [Bool.and_eq_true, decide_eq_true_eq, beq_iff_eq, toList_eq_iff] at h;have e : (k.extract 0 p.size).data.toList = k.data.toList.take p.size := by simp [ByteArray.data_extract]
 rw [h.2] at e;rw [e];exact List.take_prefix _ _
theorem hd_begins {k p : ByteArray} {c : UInt8} (h : beginsB k p = true) (hp : hd p = some c) : hd k = some c := by
 obtain ⟨t, e⟩ := begins_iff h;unfold hd at *;rw [← e, List.head?_append, hp];rfl
theorem hd_ne {k : ByteArray} {c : UInt8} (h : hd k = some c) (hc : c ≠ 99) : k ≠ cProc := fun e => by
 rw [e] at h;have h2 : hd cProc = some 99 := rfl;rw [h2] at h;exact hc (Option.some.inj h).symm
structure Safe (k : ByteArray) : Prop where
 m : hd k ≠ some 109
 t : hd k ≠ some 116
 c : k ≠ cProc
theorem safe_hd {k : ByteArray} {c : UInt8} (h : hd k = some c) (h1 : c ≠ 109) (h2 : c ≠ 116) (h3 : c ≠ 99) : Safe k := ⟨fun e => h1 (Option.some.inj (h.symm.trans e)), fun e => h2 (Option.some.inj (h.symm.trans e)), hd_ne h h3⟩
theorem hd_n (a : ByteArray) : hd (nK a) = some 110 := hd_app rfl
theorem hd_links (a : Int) : hd (linksK a) = some 105 := hd_num rfl
theorem hd_size (a : Int) : hd (sizeK a) = some 105 := hd_num rfl
theorem hd_file (a : Int) : hd (fileK a) = some 105 := hd_num rfl
theorem hd_block (a b : Int) : hd (blockK a b) = some 105 := hd_num (hd_num rfl)
theorem hd_pipe (a : Int) (t : ByteArray) : hd (pipeK a t) = some 112 := hd_num rfl
theorem hd_pipeQ (a b : Int) : hd (pipeQ a b) = some 112 := hd_num (hd_num rfl)
theorem hd_sig (a : Int) (t : ByteArray) : hd (sigK a t) = some 103 := hd_num rfl
theorem hd_sigQ (a b : Int) : hd (sigQ a b) = some 103 := hd_num (hd_num rfl)
theorem hd_timer (a : Int) : hd (timerK a) = some 116 := hd_num rfl
theorem hd_pages (a : Int) : hd (pagesK a) = some 109 := hd_num rfl
theorem hd_page (a b : Int) : hd (pageK a b) = some 109 := hd_num (hd_num rfl)
theorem hd_out (a : Int) : hd (outK1 a) = some 100 := hd_num rfl
theorem hd_proc (a : Int) (t : ByteArray) : hd (procK a t) = some 114 := hd_num rfl
theorem safe_n (a : ByteArray) : Safe (nK a) := safe_hd (hd_n a) (by decide) (by decide) (by decide)
theorem safe_links (a : Int) : Safe (linksK a) := safe_hd (hd_links a) (by decide) (by decide) (by decide)
theorem safe_size (a : Int) : Safe (sizeK a) := safe_hd (hd_size a) (by decide) (by decide) (by decide)
theorem safe_block (a b : Int) : Safe (blockK a b) := safe_hd (hd_block a b) (by decide) (by decide) (by decide)
theorem safe_pipe (a : Int) (t : ByteArray) : Safe (pipeK a t) := safe_hd (hd_pipe a t) (by decide) (by decide) (by decide)
theorem safe_pipeQ (a b : Int) : Safe (pipeQ a b) := safe_hd (hd_pipeQ a b) (by decide) (by decide) (by decide)
theorem safe_sig (a : Int) (t : ByteArray) : Safe (sigK a t) := safe_hd (hd_sig a t) (by decide) (by decide) (by decide)
theorem safe_sigQ (a b : Int) : Safe (sigQ a b) := safe_hd (hd_sigQ a b) (by decide) (by decide) (by decide)
theorem safe_out (a : Int) : Safe (outK1 a) := safe_hd (hd_out a) (by decide) (by decide) (by decide)
theorem safe_dn : Safe dnK := safe_hd (c := 100) rfl (by decide) (by decide) (by decide)
theorem safe_proc (a : Int) (t : ByteArray) : Safe (procK a t) := safe_hd (hd_proc a t) (by decide) (by decide) (by decide)
theorem safe_c {k : ByteArray} (h : hd k = some 99) (hs : k.size ≠ cProc.size) : Safe k := ⟨by rw [h]; decide, by rw [h]; decide, fun e => hs (by rw [e])⟩
theorem hd_cFile : hd cFile = some 99 := rfl
theorem hd_cPipe : hd cPipe = some 99 := rfl
theorem hd_cProc : hd cProc = some 99 := rfl
theorem safe_clock : Safe cClock := safe_c rfl (by decide)
def tPx (c : ByteArray × ByteArray) : Bool := hd c.1 == some 116
def tN (s : Sto) : Nat := (s.filter tPx).length
structure Inv (s : Sto) : Prop where
 r : Rising s
 p : ∀ c ∈ s, hd c.1 = some 109 → ∃ i k : Int, 0 ≤ k ∧ k ≤ 3 ∧ c.1 = pageK i k
 c : ∃ c ∈ s, c.1 = cProc
theorem insK_mem2 {c x : ByteArray × ByteArray} {xs : Sto} (h : x = c ∨ x ∈ xs) : x ∈ insK c xs := by
 induction xs with
 | nil =>
  rcases h with rfl | h
  ·exact List.mem_singleton.2 rfl
  ·cases h
 | cons y ys ih =>
  rw [insK_cons];split
  ·rcases h with rfl | h
   ·exact List.mem_cons_self
   ·exact List.mem_cons_of_mem _ h
  ·rcases h with h | h
   ·exact List.mem_cons_of_mem _ (ih (.inl h))
   ·rcases List.mem_cons.1 h with rfl | h
    ·exact List.mem_cons_self
    ·exact List.mem_cons_of_mem _ (ih (.inr h))
theorem ins_count (q : ByteArray × ByteArray → Bool) (c : ByteArray × ByteArray) : ∀ xs : Sto, ((insK c xs).filter q).length = (xs.filter q).length + if q c = true then 1 else 0
 | [] => by
  show ([c].filter q).length = _;by_cases h : q c = true <;> simp [h]
 | y :: ys => by
  rw [insK_cons];split
  ·by_cases h : q c = true <;> simp [List.filter_cons, h]
  ·have ih := ins_count q c ys;by_cases h : q y = true <;> simp [List.filter_cons, h, ih] <;> omega
theorem del_count (q : ByteArray × ByteArray → Bool) (xs : Sto) (k : ByteArray) : ((delK xs k).filter q).length ≤ (xs.filter q).length := (List.Sublist.filter q List.filter_sublist).length_le
theorem del_mem {xs : Sto} {k : ByteArray} {x : ByteArray × ByteArray} (h : x ∈ delK xs k) : x ∈ xs := (List.mem_filter.1 h).1
theorem del_mem2 {xs : Sto} {k : ByteArray} {x : ByteArray × ByteArray} (h : x ∈ xs) (hn : x.1 ≠ k) : x ∈ delK xs k := List.mem_filter.2 ⟨h, by
 cases e : eqB x.1 k with
 | true => exact absurd (eqB_iff.1 e) hn
 | false => rfl⟩
theorem put_mem {s : Sto} {k v : ByteArray} {x : ByteArray × ByteArray} (h : x ∈ putKeyS s k v) : x ∈ s ∨ (x = (k, v) ∧ v.size ≠ 0) := by
 unfold putKeyS at h;split at h
 ·exact .inl h
 ·unfold putV at h;split at h
  ·exact .inl (del_mem h)
  ·rcases insK_mem h with rfl | h
   ·exact .inr ⟨rfl, by assumption⟩
   ·exact .inl (del_mem h)
theorem put_keep {s : Sto} {k v : ByteArray} {x : ByteArray × ByteArray} (h : x ∈ s) (hn : x.1 ≠ k ∨ v.size ≠ 0) : ∃ y ∈ putKeyS s k v, y.1 = x.1 := by
 unfold putKeyS;split
 ·exact ⟨x, h, rfl⟩
 ·unfold putV;split
  ·exact ⟨x, del_mem2 h (hn.resolve_right (fun h2 => h2 (by assumption))), rfl⟩
  ·by_cases e : x.1 = k
   ·exact ⟨(k, v), insK_mem2 (.inl rfl), e.symm⟩
   ·exact ⟨x, insK_mem2 (.inr (del_mem2 h e)), rfl⟩
theorem put_rising {s : Sto} (h : Rising s) (k v : ByteArray) : Rising (putKeyS s k v) := by
 unfold putKeyS;split
 ·exact h
 ·exact rising_put h _ _
theorem put_len0 {s : Sto} {k v : ByteArray} (h : v.size = 0) : (putKeyS s k v).length ≤ s.length := by
 unfold putKeyS putV;rw [if_pos h];split
 ·exact Nat.le_refl _
 ·exact List.length_filter_le _ _
theorem put_t0 {s : Sto} {k v : ByteArray} (h : v.size = 0 ∨ hd k ≠ some 116) : tN (putKeyS s k v) ≤ tN s := by
 unfold putKeyS putV tN;split
 ·exact Nat.le_refl _
 ·split
  ·exact del_count _ _ _
  ·rw [ins_count, if_neg]
   ·exact del_count _ _ _
   ·unfold tPx;rw [beq_iff_eq];exact h.resolve_left (by assumption)
theorem put_t1 (s : Sto) (k v : ByteArray) : tN (putKeyS s k v) ≤ tN s + 1 := by
 unfold putKeyS putV tN;split
 ·omega
 ·split
  ·exact Nat.le_trans (del_count _ _ _) (by omega)
  ·rw [ins_count];have := del_count tPx s k;split <;> omega
def Gr {α : Type} (x : Pg α) (L n t : Nat) : Prop := ∀ s : Sto, Inv s → tN s ≤ L → Inv (x.sem s).1 ∧ (x.sem s).1.length ≤ s.length + n ∧ tN (x.sem s).1 ≤ tN s + t
section
variable {α β : Type} {L n t c u : Nat}
theorem Gr.mono {x : Pg α} {n' t' : Nat} (h : Gr x L n t) (h1 : n ≤ n') (h2 : t ≤ t') : Gr x L n' t' := fun s hi hl => by
 obtain ⟨a, b, d⟩ := h s hi hl;exact ⟨a, by omega, by omega⟩
theorem Gr.pure (a : α) : Gr (Pure.pure a : Pg α) L n t := fun s hi _ => ⟨hi, by show s.length ≤ _; omega, by show tN s ≤ _; omega⟩
theorem Gr.bind {x : Pg α} {g : α → Pg β} (hx : Gr x L c u) (h1 : c ≤ n) (h2 : u ≤ t) (hg : ∀ v, Gr (g v) (L + u) (n - c) (t - u)) : Gr (x >>= g) L n t := fun s hi hl => by
 rw [Pg.sem_bind];obtain ⟨a, b, d⟩ := hx s hi hl;obtain ⟨a2, b2, d2⟩ := hg (x.sem s).2 _ a (by omega);exact ⟨a2, by omega, by omega⟩
theorem Gr.ite {q : Prop} [Decidable q] {x y : Pg α} (hx : Gr x L n t) (hy : Gr y L n t) : Gr (if q then x else y) L n t := by
 split
 ·exact hx
 ·exact hy
theorem gr_look {k : ByteArray} {f : ByteArray → Pg α} (h : ∀ v, Gr (f v) L n t) : Gr (.look k f) L n t := fun s hi hl => h _ s hi hl
theorem gr_num (k : ByteArray) : Gr (numP k) L 0 0 := fun s hi _ => ⟨hi, Nat.le_refl _, Nat.le_refl _⟩
theorem gr_msg (k : ByteArray) : Gr (msgP k) L 0 0 := fun s hi _ => ⟨hi, Nat.le_refl _, Nat.le_refl _⟩
theorem gr_blockP (a b : Int) : Gr (blockP a b) L 0 0 := fun s hi _ => ⟨hi, Nat.le_refl _, Nat.le_refl _⟩
theorem gr_lay0 {k : ByteArray} (hk : k ≠ cProc) : Gr (layP k noB) L 0 0 := fun s hi _ => by
 show Inv (putKeyS s k noB) ∧ (putKeyS s k noB).length ≤ _ ∧ tN (putKeyS s k noB) ≤ _;refine ⟨⟨put_rising hi.r _ _, fun x hx hm => ?_, ?_⟩, put_len0 rfl, put_t0 (.inl rfl)⟩
 ·rcases put_mem hx with h | ⟨_, h⟩
  ·exact hi.p x h hm
  ·exact absurd rfl h
 ·obtain ⟨x, hx, e⟩ := hi.c;obtain ⟨y, hy, e2⟩ := put_keep (k := k) (v := noB) hx (.inl (by rw [e]; exact hk.symm));exact ⟨y, hy, e2.trans e⟩
theorem inv_put {s : Sto} (hi : Inv s) {k v : ByteArray} (hm : hd k = some 109 → ∃ i j : Int, 0 ≤ j ∧ j ≤ 3 ∧ k = pageK i j) (hc : k ≠ cProc ∨ v.size ≠ 0) : Inv (putKeyS s k v) := by
 refine ⟨put_rising hi.r _ _, fun x hx h => ?_, ?_⟩
 ·rcases put_mem hx with h2 | ⟨h2, _⟩
  ·exact hi.p x h2 h
  ·rw [h2] at h ⊢;exact hm h
 ·obtain ⟨x, hx, e⟩ := hi.c;obtain ⟨y, hy, e2⟩ := put_keep (k := k) (v := v) hx (hc.imp (fun h => by rw [e]; exact h.symm) id);exact ⟨y, hy, e2.trans e⟩
theorem gr_lay {k : ByteArray} (v : ByteArray) (hk : Safe k) : Gr (layP k v) L 1 0 := fun s hi _ => by
 show Inv (putKeyS s k v) ∧ (putKeyS s k v).length ≤ _ ∧ tN (putKeyS s k v) ≤ _;exact ⟨inv_put hi (fun h => absurd h hk.m) (.inl hk.c), putKeyS_len _ _ _, put_t0 (.inr hk.t)⟩
theorem gr_set {k : ByteArray} (v : Int) (hk : Safe k) : Gr (setP k v) L 1 0 := gr_lay (numText v) hk
theorem gr_page (i j : Int) (v : ByteArray) (h0 : 0 ≤ j) (h1 : j ≤ 3) : Gr (layP (pageK i j) v) L 1 0 := fun s hi _ => by
 show Inv (putKeyS s _ v) ∧ (putKeyS s _ v).length ≤ _ ∧ tN (putKeyS s _ v) ≤ _;exact ⟨inv_put hi (fun _ => ⟨i, j, h0, h1, rfl⟩) (.inl (hd_ne (hd_page i j) (by decide))), putKeyS_len _ _ _, put_t0 (.inr (by rw [hd_page]; decide))⟩
theorem gr_timer (i : Int) (v : Int) : Gr (setP (timerK i) v) L 1 1 := fun s hi _ => by
 show Inv (putKeyS s _ _) ∧ (putKeyS s _ _).length ≤ _ ∧ tN (putKeyS s _ _) ≤ _;exact ⟨inv_put hi (fun h => by rw [hd_timer] at h; cases h) (.inl (hd_ne (hd_timer i) (by decide))), putKeyS_len _ _ _, put_t1 _ _ _⟩
theorem dec_pos (n : Int) : (decS n).size ≠ 0 := fun h => by
 have h2 : (Lib.itoa n).length = 0 := by have : (Lib.itoa n).toArray.size = 0 := h; simpa using this
 have h3 := List.eq_nil_of_length_eq_zero h2;unfold Lib.itoa at h3;split at h3
 ·cases h3
 ·rw [Lib.decDigits] at h3;split at h3 <;> simp at h3
theorem gr_bump {k : ByteArray} (h1 : hd k = some 99) : Gr (bumpP k) L 1 0 := fun s hi _ => by
 rw [sem_bump];split
 ·exact ⟨hi, Nat.le_succ _, Nat.le_refl _⟩
 ·have hb := numOf_bounds (getKeyS s k);refine ⟨inv_put hi (fun h => by rw [h1] at h; cases h) (.inr ?_), putKeyS_len _ _ _, put_t0 (.inr (by rw [h1]; decide))⟩;unfold numText;rw [inB_iff.2 ⟨by omega, by omega⟩, if_pos rfl];exact dec_pos _
theorem gr_layAll : ∀ (ks : List ByteArray), (∀ k ∈ ks, k ≠ cProc) → Gr (layAll ks) L 0 0
 | [], _ => fun s hi _ => ⟨hi, Nat.le_refl _, Nat.le_refl _⟩
 | k :: ks, h => by
  have e : layAll (k :: ks) = (layP k noB >>= fun _ => layAll ks) := rfl;rw [e];exact Gr.bind (gr_lay0 (h k List.mem_cons_self)) (Nat.le_refl _) (Nat.le_refl _) (fun _ => gr_layAll ks (fun x hx => h x (List.mem_cons_of_mem _ hx)))
theorem gr_wipe {p : ByteArray} {c : UInt8} (h : hd p = some c) (hc : c ≠ 99) : Gr (wipeP p) L 0 0 := fun s hi hl => by
 show Inv ((layAll (keysU s p)).sem s).1 ∧ _;refine gr_layAll (keysU s p) (fun k hk => ?_) s hi hl;unfold keysU at hk;obtain ⟨y, hy, rfl⟩ := List.mem_map.1 hk;exact hd_ne (hd_begins (List.mem_filter.1 hy).2 h) hc
end
theorem gr9 {P : Prop} (h : P := by repeat' first | with_reducible exact Gr.pure _ | with_reducible refine Gr.bind (gr_num _) (by omega) (by omega) (fun _ => ?_) | with_reducible exact Gr.mono (gr_num _) (by omega) (by omega) | with_reducible refine Gr.bind (gr_bump (by first | exact hd_cFile | exact hd_cPipe | exact hd_cProc)) (by omega) (by omega) (fun _ => ?_) | with_reducible exact Gr.mono (gr_bump (by first | exact hd_cFile | exact hd_cPipe | exact hd_cProc)) (by omega) (by omega) | with_reducible refine Gr.bind (gr_set _ saf9) (by omega) (by omega) (fun _ => ?_) | with_reducible exact Gr.mono (gr_set _ saf9) (by omega) (by omega) | with_reducible refine Gr.bind (gr_fileOfP _) (by omega) (by omega) (fun _ => ?_) | with_reducible exact Gr.mono (gr_fileOfP _) (by omega) (by omega) | with_reducible refine Gr.bind (gr_lay0 (Safe.c saf9)) (by omega) (by omega) (fun _ => ?_) | with_reducible exact Gr.mono (gr_lay0 (Safe.c saf9)) (by omega) (by omega) | with_reducible refine Gr.bind (gr_lay _ saf9) (by omega) (by omega) (fun _ => ?_) | with_reducible exact Gr.mono (gr_lay _ saf9) (by omega) (by omega) | with_reducible refine Gr.bind (gr_wipe (by first | exact hd_file _ | exact hd_proc _ _ | exact hd_pages _) (by decide)) (by omega) (by omega) (fun _ => ?_) | with_reducible exact Gr.mono (gr_wipe (by first | exact hd_file _ | exact hd_proc _ _ | exact hd_pages _) (by decide)) (by omega) (by omega) | with_reducible refine Gr.bind (gr_unlinkP _) (by omega) (by omega) (fun _ => ?_) | with_reducible exact Gr.mono (gr_unlinkP _) (by omega) (by omega) | with_reducible refine Gr.bind (gr_readL _ _ _ _ _ _) (by omega) (by omega) (fun _ => ?_) | with_reducible exact Gr.mono (gr_readL _ _ _ _ _ _) (by omega) (by omega) | with_reducible refine Gr.bind (gr_writeL _ _ _ _ _ _) (by omega) (by omega) (fun _ => ?_) | with_reducible exact Gr.mono (gr_writeL _ _ _ _ _ _) (by omega) (by omega) | with_reducible refine Gr.bind (gr_isPipeP _) (by omega) (by omega) (fun _ => ?_) | with_reducible exact Gr.mono (gr_isPipeP _) (by omega) (by omega) | with_reducible refine Gr.bind (gr_msg _) (by omega) (by omega) (fun _ => ?_) | with_reducible exact Gr.mono (gr_msg _) (by omega) (by omega) | with_reducible refine Gr.bind (gr_stateP _) (by omega) (by omega) (fun _ => ?_) | with_reducible exact Gr.mono (gr_stateP _) (by omega) (by omega) | with_reducible refine Gr.bind (gr_readP _ _ _) (by omega) (by omega) (fun _ => ?_) | with_reducible exact Gr.mono (gr_readP _ _ _) (by omega) (by omega) | with_reducible refine Gr.bind (gr_writeP _ _ _) (by omega) (by omega) (fun _ => ?_) | with_reducible exact Gr.mono (gr_writeP _ _ _) (by omega) (by omega) | with_reducible refine Gr.bind (gr_cutP _ _) (by omega) (by omega) (fun _ => ?_) | with_reducible exact Gr.mono (gr_cutP _ _) (by omega) (by omega) | with_reducible refine Gr.bind (gr_spawnP _) (by omega) (by omega) (fun _ => ?_) | with_reducible exact Gr.mono (gr_spawnP _) (by omega) (by omega) | with_reducible refine Gr.bind (gr_forkP _ _) (by omega) (by omega) (fun _ => ?_) | with_reducible exact Gr.mono (gr_forkP _ _) (by omega) (by omega) | with_reducible refine Gr.bind (gr_endP _ _) (by omega) (by omega) (fun _ => ?_) | with_reducible exact Gr.mono (gr_endP _ _) (by omega) (by omega) | with_reducible refine Gr.bind (gr_dropPagesP _) (by omega) (by omega) (fun _ => ?_) | with_reducible exact Gr.mono (gr_dropPagesP _) (by omega) (by omega) | with_reducible refine Gr.bind (gr_makeP _) (by omega) (by omega) (fun _ => ?_) | with_reducible exact Gr.mono (gr_makeP _) (by omega) (by omega) | with_reducible refine Gr.bind (gr_linkP _ _) (by omega) (by omega) (fun _ => ?_) | with_reducible exact Gr.mono (gr_linkP _ _) (by omega) (by omega) | with_reducible refine Gr.bind (gr_renameP _ _) (by omega) (by omega) (fun _ => ?_) | with_reducible exact Gr.mono (gr_renameP _ _) (by omega) (by omega) | with_reducible refine Gr.bind (gr_mkPipeP) (by omega) (by omega) (fun _ => ?_) | with_reducible exact Gr.mono (gr_mkPipeP) (by omega) (by omega) | with_reducible refine Gr.bind (gr_putPipeP _ _) (by omega) (by omega) (fun _ => ?_) | with_reducible exact Gr.mono (gr_putPipeP _ _) (by omega) (by omega) | with_reducible refine Gr.bind (gr_takePipeP _) (by omega) (by omega) (fun _ => ?_) | with_reducible exact Gr.mono (gr_takePipeP _) (by omega) (by omega) | with_reducible refine Gr.bind (gr_reapP _ _) (by omega) (by omega) (fun _ => ?_) | with_reducible exact Gr.mono (gr_reapP _ _) (by omega) (by omega) | with_reducible refine Gr.bind (gr_kidsP _) (by omega) (by omega) (fun _ => ?_) | with_reducible exact Gr.mono (gr_kidsP _) (by omega) (by omega) | with_reducible refine Gr.bind (gr_namesP) (by omega) (by omega) (fun _ => ?_) | with_reducible exact Gr.mono (gr_namesP) (by omega) (by omega) | with_reducible refine Gr.bind (gr_sendP _ _) (by omega) (by omega) (fun _ => ?_) | with_reducible exact Gr.mono (gr_sendP _ _) (by omega) (by omega) | with_reducible refine Gr.bind (gr_takeSigP _) (by omega) (by omega) (fun _ => ?_) | with_reducible exact Gr.mono (gr_takeSigP _) (by omega) (by omega) | with_reducible refine Gr.bind (gr_timerP _ _) (by omega) (by omega) (fun _ => ?_) | with_reducible exact Gr.mono (gr_timerP _ _) (by omega) (by omega) | with_reducible refine Gr.bind (gr_tickP _) (by omega) (by omega) (fun _ => ?_) | with_reducible exact Gr.mono (gr_tickP _) (by omega) (by omega) | with_reducible refine Gr.bind (gr_storeP _ _ _) (by omega) (by omega) (fun _ => ?_) | with_reducible exact Gr.mono (gr_storeP _ _ _) (by omega) (by omega) | with_reducible refine Gr.bind (gr_loadP _ _) (by omega) (by omega) (fun _ => ?_) | with_reducible exact Gr.mono (gr_loadP _ _) (by omega) (by omega) | with_reducible refine Gr.bind (gr_putOutP _) (by omega) (by omega) (fun _ => ?_) | with_reducible exact Gr.mono (gr_putOutP _) (by omega) (by omega) | with_reducible refine Gr.bind (gr_fileP _) (by omega) (by omega) (fun _ => ?_) | with_reducible exact Gr.mono (gr_fileP _) (by omega) (by omega) | with_reducible refine Gr.bind (gr_spawnAllP _) (by omega) (by omega) (fun _ => ?_) | with_reducible exact Gr.mono (gr_spawnAllP _) (by omega) (by omega) | with_reducible refine Gr.bind (gr_endAllP _ _) (by omega) (by omega) (fun _ => ?_) | with_reducible exact Gr.mono (gr_endAllP _ _) (by omega) (by omega) | with_reducible refine Gr.bind (gr_kindP _ _) (by omega) (by omega) (fun _ => ?_) | with_reducible exact Gr.mono (gr_kindP _ _) (by omega) (by omega) | with_reducible refine Gr.ite ?_ ?_) : P := h
theorem gr_fileOfP {L : Nat} (a : ByteArray) : Gr (fileOfP a) L (0) 0 := by
 unfold fileOfP;exact gr9
theorem gr_makeP {L : Nat} (a : ByteArray) : Gr (makeP a) L (3) 0 := by
 unfold makeP;exact gr9
theorem gr_linkP {L : Nat} (a b : ByteArray) : Gr (linkP a b) L (2) 0 := by
 unfold linkP;exact gr9
theorem gr_unlinkP {L : Nat} (a : ByteArray) : Gr (unlinkP a) L (1) 0 := by
 unfold unlinkP;exact gr9
theorem gr_renameP {L : Nat} (a b : ByteArray) : Gr (renameP a b) L (2) 0 := by
 unfold renameP;exact gr9
theorem gr_readL {L : Nat} (id a e : Int) : ∀ (n : Nat) (p : Int) (s : ByteArray), Gr (readL id a e n p s) L 0 0
 | 0, _, _ => Gr.pure _
 | n + 1, _, _ => by
  unfold readL;refine Gr.ite ?_ (Gr.pure _);exact Gr.bind (gr_blockP _ _) (by omega) (by omega) (fun _ => gr_readL id a e n _ _)
theorem gr_writeL {L : Nat} (id a e : Int) (t : ByteArray) : ∀ (n : Nat) (p : Int), Gr (writeL id a e t n p) L n 0
 | 0, _ => Gr.pure _
 | n + 1, _ => by
  unfold writeL;refine Gr.ite ?_ (Gr.pure _);refine Gr.bind (gr_blockP _ _) (by omega) (by omega) (fun _ => ?_);refine Gr.bind (gr_lay _ (safe_block _ _)) (by omega) (by omega) (fun _ => ?_);exact (gr_writeL id a e t n _).mono (by omega) (by omega)
theorem gr_cutL {L : Nat} (id s : Int) : ∀ (n : Nat) (p : Int), Gr (cutL id s n p) L 0 0
 | 0, _ => Gr.pure _
 | n + 1, p => by
  unfold cutL;refine Gr.ite ?_ (Gr.pure _);exact Gr.bind (x := layP (blockK id p) noB) (gr_lay0 (safe_block _ _).c) (Nat.le_refl _) (Nat.le_refl _) (fun _ => gr_cutL id s n _)
theorem gr_readP {L : Nat} (a b c : Int) : Gr (readP a b c) L (0) 0 := by
 unfold readP;exact gr9
theorem gr_writeP {L : Nat} (a b : Int) (t : ByteArray) : Gr (writeP a b t) L (21) 0 := by
 unfold writeP;exact gr9
theorem gr_cutP {L : Nat} (a b : Int) : Gr (cutP a b) L 2 0 := by
 unfold cutP;generalize (200 : Nat) = fuel;refine Gr.bind (gr_num _) (by omega) (by omega) (fun size => ?_);refine Gr.ite (Gr.ite ?_ ?_) (Gr.pure _)
 ·refine Gr.bind (gr_blockP _ _) (by omega) (by omega) (fun _ => ?_);refine Gr.bind (gr_lay _ (safe_block _ _)) (by omega) (by omega) (fun _ => ?_);refine Gr.bind (gr_cutL _ _ _ _) (by omega) (by omega) (fun _ => ?_);exact Gr.bind (gr_set _ (safe_size _)) (by omega) (by omega) (fun _ => Gr.pure _)
 ·refine Gr.bind (gr_cutL _ _ _ _) (by omega) (by omega) (fun _ => ?_);exact Gr.bind (gr_set _ (safe_size _)) (by omega) (by omega) (fun _ => Gr.pure _)
theorem gr_mkPipeP {L : Nat}  : Gr (mkPipeP) L (2) 0 := by
 unfold mkPipeP;exact gr9
theorem gr_isPipeP {L : Nat} (a : Int) : Gr (isPipeP a) L (0) 0 := by
 unfold isPipeP;exact gr9
theorem gr_putPipeP {L : Nat} (a : Int) (t : ByteArray) : Gr (putPipeP a t) L (2) 0 := by
 unfold putPipeP;exact gr9
theorem gr_takePipeP {L : Nat} (a : Int) : Gr (takePipeP a) L (1) 0 := by
 unfold takePipeP;exact gr9
theorem gr_stateP {L : Nat} (a : Int) : Gr (stateP a) L (0) 0 := by
 unfold stateP;exact gr9
theorem gr_spawnP {L : Nat} (a : Int) : Gr (spawnP a) L (3) 0 := by
 unfold spawnP;exact gr9
theorem gr_endP {L : Nat} (a b : Int) : Gr (endP a b) L (2) 0 := by
 unfold endP;exact gr9
theorem gr_reapP {L : Nat} (a b : Int) : Gr (reapP a b) L (0) 0 := by
 unfold reapP;exact gr9
theorem gr_kidsL {L : Nat} (p : Int) : ∀ (ks : List ByteArray) (o : List Int), Gr (kidsL p ks o) L 0 0
 | [], _ => Gr.pure _
 | k :: ks, _ => by
  unfold kidsL;refine Gr.ite ?_ (gr_kidsL p ks _);exact Gr.bind (gr_num _) (by omega) (by omega) (fun _ => gr_kidsL p ks _)
theorem gr_kidsP {L : Nat} (p : Int) : Gr (kidsP p) L 0 0 := fun s hi hl => gr_kidsL p _ [] s hi hl
theorem gr_namesP {L : Nat} : Gr namesP L 0 0 := fun s hi _ => ⟨hi, Nat.le_refl _, Nat.le_refl _⟩
theorem gr_sendP {L : Nat} (a b : Int) : Gr (sendP a b) L (2) 0 := by
 unfold sendP;exact gr9
theorem gr_takeSigP {L : Nat} (a : Int) : Gr (takeSigP a) L (1) 0 := by
 unfold takeSigP;exact gr9
theorem gr_timerP {L : Nat} (a b : Int) : Gr (timerP a b) L 1 1 := by
 unfold timerP;exact Gr.ite (Gr.bind (gr_timer _ _) (Nat.le_refl _) (Nat.le_refl _) (fun _ => Gr.pure _)) (Gr.pure _)
theorem gr_tickL {L : Nat} (c : Int) : ∀ (ks : List ByteArray) (o : Int), (∀ k ∈ ks, k ≠ cProc) → Gr (tickL c ks o) L (2 * ks.length) 0
 | [], _, _ => Gr.pure _
 | k :: ks, _, h => by
  unfold tickL;simp only [List.length_cons];have h2 : ∀ x ∈ ks, x ≠ cProc := fun x hx => h x (List.mem_cons_of_mem _ hx);refine Gr.bind (gr_num _) (by omega) (by omega) (fun _ => ?_);refine Gr.ite ((gr_tickL c ks _ h2).mono (by omega) (by omega)) ?_;refine Gr.bind (gr_lay0 (h k List.mem_cons_self)) (by omega) (by omega) (fun _ => ?_);refine Gr.bind (gr_sendP _ _) (by omega) (by omega) (fun _ => ?_);exact (gr_tickL c ks _ h2).mono (by omega) (by omega)
theorem gr_underT {L n t : Nat} {α : Type} {g : List ByteArray → Pg α} (h : ∀ ks, ks.length ≤ L → (∀ k ∈ ks, k ≠ cProc) → Gr (g ks) L n t) : Gr (underP tHead >>= g) L n t := fun s hi hl => by
 show Inv ((g (keysU s tHead)).sem s).1 ∧ _;have hb : ∀ c ∈ s.filter (fun c => beginsB c.1 tHead), hd c.1 = some 116 := fun c hc => hd_begins (List.mem_filter.1 hc).2 rfl;refine h (keysU s tHead) ?_ (fun k hk => ?_) s hi hl
 ·refine Nat.le_trans ?_ hl;unfold keysU tN;rw [List.length_map];have e : s.filter (fun c => beginsB c.1 tHead) = (s.filter (fun c => beginsB c.1 tHead)).filter tPx := (List.filter_eq_self.2 (fun c hc => by unfold tPx; rw [hb c hc]; rfl)).symm;rw [e];exact (List.Sublist.filter tPx List.filter_sublist).length_le
 ·unfold keysU at hk;obtain ⟨y, hy, rfl⟩ := List.mem_map.1 hk;exact hd_ne (hb y hy) (by decide)
theorem gr_tickP {L : Nat} (n : Int) : Gr (tickP n) L (2 * L + 1) 0 := by
 unfold tickP;refine Gr.ite (Gr.pure _) ?_;refine Gr.bind (gr_num _) (by omega) (by omega) (fun _ => ?_);refine Gr.ite (Gr.pure _) ?_;refine Gr.bind (gr_set _ safe_clock) (by omega) (by omega) (fun _ => ?_);refine gr_underT (fun ks h1 h2 => ?_);refine Gr.bind ((gr_tickL _ ks 0 h2).mono (n' := 2 * L) (by omega) (Nat.le_refl _)) (by omega) (by omega) (fun _ => Gr.pure _)
theorem gr_storeP {L : Nat} (a b : Int) (t : ByteArray) : Gr (storeP a b t) L 1 0 := by
 unfold storeP;split
 ·rename_i h;rw [Bool.and_eq_true] at h;have hb := inB_iff.1 h.1;exact Gr.bind (gr_page _ _ _ (by omega) (by omega)) (Nat.le_refl _) (Nat.le_refl _) (fun _ => Gr.pure _)
 ·exact Gr.pure _
theorem gr_loadP {L : Nat} (a b : Int) : Gr (loadP a b) L (0) 0 := by
 unfold loadP;exact gr9
theorem digits_no {u : Nat} : ∀ x ∈ Lib.decDigits u, x ≠ 47 := by
 fun_induction Lib.decDigits u with
 | case1 u h =>
  intro x hx;obtain rfl := List.mem_singleton.1 hx;intro e;have := congrArg UInt8.toNat e;simp at this;omega
 | case2 u h ih =>
  intro x hx;rcases List.mem_append.1 hx with hx | hx
  ·exact ih x hx
  ·obtain rfl := List.mem_singleton.1 hx;intro e;have := congrArg UInt8.toNat e;simp at this;omega
theorem dec_no (n : Int) : ∀ x ∈ (decS n).data.toList, x ≠ 47 := by
 show ∀ x ∈ (Lib.itoa n).toArray.toList, x ≠ 47;rw [List.toList_toArray];unfold Lib.itoa;split
 ·intro x hx;rcases List.mem_cons.1 hx with rfl | hx
  ·decide
  ·exact digits_no x hx
 ·exact digits_no
theorem cut_eq {A I R S : List UInt8} (hA : ∀ x ∈ A, x ≠ 47) (hI : ∀ x ∈ I, x ≠ 47) (h : A ++ 47 :: R = I ++ 47 :: S) : A = I := by
 induction A generalizing I with
 | nil =>
  cases I with
  | nil => rfl
  | cons y ys =>
   injection h with h1 h2
   exact absurd h1.symm (hI y List.mem_cons_self)
 | cons x xs ih =>
  cases I with
  | nil =>
   injection h with h1 h2
   exact absurd h1 (hA x List.mem_cons_self)
  | cons y ys =>
   injection h with h1 h2
   rw [h1, ih (fun z hz => hA z (List.mem_cons_of_mem _ hz)) (fun z hz => hI z (List.mem_cons_of_mem _ hz)) h2]
theorem page_list (i k : Int) : (pageK i k).data.toList = 109 :: 47 :: ((decS i).data.toList ++ 47 :: (decS k).data.toList) := by
 unfold pageK pagesK keyNumS;simp [ByteArray.data_append]
theorem pages_list (i : Int) : (pagesK i).data.toList = 109 :: 47 :: ((decS i).data.toList ++ [47]) := by
 unfold pagesK keyNumS;simp [ByteArray.data_append]
theorem pages_same {i k a : Int} (h : beginsB (pageK i k) (pagesK a) = true) : decS i = decS a := by
 obtain ⟨t, e⟩ := begins_iff h;rw [page_list, pages_list] at e;have e2 : (decS a).data.toList ++ 47 :: t = (decS i).data.toList ++ 47 :: (decS k).data.toList := by simpa using e
 have e3 := cut_eq (dec_no a) (dec_no i) e2;exact (ByteArray.ext (Array.toList_inj.1 e3)).symm
theorem page_same {i k a : Int} (h : decS i = decS a) : pageK i k = pageK a k := by
 unfold pageK pagesK keyNumS;rw [h]
theorem nodup_le {α : Type} [DecidableEq α] {xs ys : List α} (h : xs.Nodup) (hs : ∀ x ∈ xs, x ∈ ys) : xs.length ≤ ys.length := by
 induction xs generalizing ys with
 | nil => exact Nat.zero_le _
 | cons x xs ih =>
  have h1 := List.nodup_cons.1 h;have hx := hs x List.mem_cons_self;have := ih (ys := ys.erase x) h1.2 (fun y hy => (List.mem_erase_of_ne (fun e => h1.1 (by rw [← e]; exact hy))).2 (hs y (List.mem_cons_of_mem _ hy)));rw [List.length_erase_of_mem hx] at this;have := List.length_pos_of_mem hx;simp only [List.length_cons];omega
theorem rising_nodup {s : Sto} (h : Rising s) : (s.map (·.1)).Nodup := by
 rw [List.nodup_iff_pairwise_ne, List.pairwise_map];exact List.Pairwise.imp (fun {a b} hab e => by rw [e, ltB_irr] at hab; cases hab) h
theorem gr_forkL {L : Nat} (a b : Int) : ∀ ks : List ByteArray, (∀ k ∈ ks, ∃ j : Int, 0 ≤ j ∧ j ≤ 3 ∧ k = pageK a j) → Gr (forkL (pagesK a) (pagesK b) ks) L ks.length 0
 | [], _ => Gr.pure _
 | k :: ks, h => by
  obtain ⟨j, h0, h1, rfl⟩ := h k List.mem_cons_self;have e : pagesK b ++ (pageK a j).extract (pagesK a).size (pageK a j).size = pageK b j := by
   have e1 : ∀ i : Int, pageK i j = pagesK i ++ decS j := fun i => by
    unfold pageK;rw [show keyNumS (pagesK i) j ⟨#[]⟩ = pagesK i ++ decS j ++ ⟨#[]⟩ from rfl];exact ByteArray.append_empty
   rw [e1 a, e1 b];congr 1;apply ByteArray.ext;apply Array.toList_inj.1;simp [ByteArray.data_extract, ByteArray.data_append];rw [List.drop_eq_nil_of_le (show (pagesK a).data.toList.length ≤ (pagesK a).size from Nat.le_of_eq Array.length_toList), List.take_nil, List.nil_append, List.take_of_length_le (show (decS j).data.toList.length ≤ (decS j).size from Nat.le_of_eq Array.length_toList)]
  refine gr_look (fun v => ?_);rw [e];exact Gr.bind (x := layP (pageK b j) v) (gr_page b j v h0 h1) (by simp) (Nat.le_refl _) (fun _ => (gr_forkL a b ks (fun x hx => h x (List.mem_cons_of_mem _ hx))).mono (by simp) (Nat.le_refl _))
theorem gr_forkP {L : Nat} (a b : Int) : Gr (forkP a b) L 4 0 := fun s hi hl => by
 show Inv ((forkL (pagesK a) (pagesK b) (keysU s (pagesK a))).sem s).1 ∧ _;have hk : ∀ k ∈ keysU s (pagesK a), ∃ j : Int, 0 ≤ j ∧ j ≤ 3 ∧ k = pageK a j := fun k hk => by
  unfold keysU at hk;obtain ⟨y, hy, rfl⟩ := List.mem_map.1 hk;obtain ⟨hy1, hy2⟩ := List.mem_filter.1 hy;obtain ⟨i, j, h0, h1, e⟩ := hi.p y hy1 (hd_begins hy2 (hd_pages a));refine ⟨j, h0, h1, ?_⟩;rw [e] at hy2 ⊢;exact page_same (pages_same hy2)
 have hlen : (keysU s (pagesK a)).length ≤ 4 := by
  have hn : (keysU s (pagesK a)).Nodup := List.Nodup.sublist (List.Sublist.map _ List.filter_sublist) (rising_nodup hi.r);exact nodup_le (ys := [pageK a 0, pageK a 1, pageK a 2, pageK a 3]) hn (fun k hk2 => by
   obtain ⟨j, h0, h1, rfl⟩ := hk k hk2;rcases (by omega : j = 0 ∨ j = 1 ∨ j = 2 ∨ j = 3) with rfl | rfl | rfl | rfl <;> (repeat (first | exact List.Mem.head _ | apply List.Mem.tail)))
 exact (gr_forkL a b _ hk).mono hlen (Nat.le_refl _) s hi hl
theorem gr_dropPagesP {L : Nat} (a : Int) : Gr (dropPagesP a) L (0) 0 := by
 unfold dropPagesP;exact gr9
theorem gr_putOutP {L : Nat} (t : ByteArray) : Gr (putOutP t) L (2) 0 := by
 unfold putOutP;exact gr9
theorem gr_fileP {L : Nat} (c : Cal) : Gr (fileP c) L (21) 0 := by
 unfold fileP;exact gr9
theorem gr_spawnAllP {L : Nat} (a : Int) : Gr (spawnAllP a) L (7) 0 := by
 unfold spawnAllP;exact gr9
theorem gr_endAllP {L : Nat} (a b : Int) : Gr (endAllP a b) L (2) 0 := by
 unfold endAllP;exact gr9
theorem gr_kindP {L : Nat} (p : Int) (c : Cal) : Gr (kindP p c) L (2 * L + 21) 1 := by
 unfold kindP;exact gr9
theorem gr_callP {L : Nat} (p : Int) (c : Cal) : Gr (callP p c) L (2 * L + 21) 1 := by
 unfold callP;exact gr9
theorem ok_put {s : Sto} (h : ∀ c ∈ s, cellOk c) (k v : ByteArray) : ∀ c ∈ putKeyS s k v, cellOk c := by
 intro c hc;by_cases hk : keyOkB k = false ∨ 60 < v.size
 ·rw [putKey_bad hk] at hc; exact h c hc
 ·rcases put_mem hc with hc | ⟨rfl, h0⟩
  ·exact h c hc
  ·rw [not_or] at hk;exact ⟨by simpa using hk.1, inB_yes (by dsimp only; omega) (by dsimp only; omega)⟩
theorem ok_sem {α : Type} (x : Pg α) : ∀ s : Sto, (∀ c ∈ s, cellOk c) → ∀ c ∈ (x.sem s).1, cellOk c := by
 induction x with
 | ret a => intro s h; exact h
 | look k f ih => intro s h; exact ih _ s h
 | lay k v f ih => intro s h; exact ih _ (ok_put h k v)
 | under p f ih => intro s h; exact ih _ s h
def Grown (n : Nat) (s : Sto) : Prop := Inv s ∧ s.length ≤ 3 + 45 * n ∧ tN s ≤ n ∧ ∀ c ∈ s, cellOk c
theorem Grown.call {n : Nat} {s : Sto} (h : Grown n s) (hn : n ≤ 12) (proc : Int) (c : Cal) : Grown (n + 1) ((callP proc c).sem s).1 := by
 obtain ⟨h1, h2, h3, h4⟩ := h;obtain ⟨a, b, d⟩ := gr_callP (L := n) proc c s h1 h3;exact ⟨a, by omega, by omega, ok_sem _ s h4⟩
end
theorem numOf_dec {n : Int} (h1 : 1 ≤ n) (h2 : n ≤ 999) : numOfV (decS n) = n := by
 obtain ⟨k, rfl⟩ : ∃ k : Nat, n = (k : Int) := ⟨n.toNat, by omega⟩;have h := (read_yes (s := decS (k : Int)) (n := k) (numIs_of (by omega) rfl)).2;unfold numOfV;rw [h, if_neg (by omega)]
theorem numOf_empty : numOfV ⟨#[]⟩ = 0 := by
 have h := (read_no (s := ⟨#[]⟩) (fun n hn => by
  have h1 : (Lib.decDigits n).toArray = #[] := by
   have := numIs_dec hn;rw [decS_nat] at this;exact congrArg ByteArray.data this
  have h2 : Lib.decDigits n = [] := by simpa using h1
  rw [Lib.decDigits] at h2;split at h2 <;> simp at h2)).2
 unfold numOfV;rw [h]; rfl
section
open Go.RowKit
theorem num1 : numOfV (decS 1) = 1 := numOf_dec (by omega) (by omega)
theorem text1 : numText 1 = decS 1 := rfl
theorem text0 : numText 0 = ⟨#[]⟩ := rfl
theorem put_ins {s : Sto} {k v : ByteArray} (hk : keyOkB k = true) (hv : v.size ≤ 60) (h0 : 0 < v.size) : putKeyS s k v = insK (k, v) (delK s k) := by
 unfold putKeyS putV;rw [if_neg (by rw [hk]; simp; omega), if_neg (by omega)]
theorem put_del {s : Sto} {k : ByteArray} (hk : keyOkB k = true) : putKeyS s k noB = delK s k := by
 unfold putKeyS putV;rw [if_neg (fun h => by
  rcases h with h | h
  ·rw [hk] at h; cases h
  ·exact absurd h (by decide)), if_pos (show noB.size = 0 from rfl)]
theorem boot_is : bootS = [(cProc, decS 1), (procK 1 tS, decS 1)] := by
 unfold bootS;rw [(Pg.run_sem _ _).1];unfold spawnP;rw [Pg.sem_bind, sem_num, show numOfV (getKeyS [] cProc) = 0 from numOf_empty];dsimp only;rw [if_neg (by decide), Pg.sem_bind, sem_bump, show numOfV (getKeyS [] cProc) = 0 from numOf_empty, if_neg (by decide)];dsimp only;rw [show (0 : Int) + 1 = 1 from rfl, text1, show putKeyS [] cProc (decS 1) = [(cProc, decS 1)] from put_ins (by kernel_rfl) (Nat.le_of_ble_eq_true (by kernel_rfl)) (Nat.le_of_ble_eq_true (by kernel_rfl)), Pg.sem_bind, sem_set];dsimp only;rw [text1, show putKeyS [(cProc, decS 1)] (procK 1 tS) (decS 1) = [(cProc, decS 1), (procK 1 tS, decS 1)] from (put_ins (by kernel_rfl) (Nat.le_of_ble_eq_true (by kernel_rfl)) (Nat.le_of_ble_eq_true (by kernel_rfl))).trans (by kernel_rfl), Pg.sem_bind, sem_set];dsimp only;rw [text0, show (⟨#[]⟩ : ByteArray) = noB from rfl, put_del (by kernel_rfl)];kernel_rfl
def sto0 : Sto := [(cProc, decS 1), (procK 1 tS, decS 1)]
theorem big_no (a : Option Addr) (len cap : Nat) (w : World) (h : len ≤ 1048576) : Calls prog 11 #[.slice a len cap] w fun e w' => e = .returned (.bool false) ∧ w = w' := by
 have p : ¬ (1048576 : Int) < (len : Int) := by omega
 go_enter func11, ntmps11;go_wp2;go_ret;exact ⟨by first | (simp; done) | (simp; omega), rfl⟩
theorem big_yes (a : Option Addr) (len cap : Nat) (w : World) (h : 1048576 < len) : Calls prog 11 #[.slice a len cap] w fun e w' => e = .returned (.bool true) ∧ w = w' := by
 have p : (1048576 : Int) < (len : Int) := by omega
 go_enter func11, ntmps11;go_wp2;go_ret;exact ⟨by first | (simp; done) | (simp; omega), rfl⟩
theorem IsRow.below {k : IntKind} {w w' : World} {a : Option Addr} {len cap : Nat} {z : List Int} (h : IsRow k w a len cap z) (hb : Below w.heap.size w w') : IsRow k w' a len cap z :=
 ⟨h.1, h.2.1, h.2.2.1, h.2.2.2.1.below hb, h.2.2.2.2⟩
end
section
open Go.ChangeShapes Go.WideShapes Go.ChangeAt Go.RowKit
attribute [local go_sem ↓] Go.wp_at_zero Go.wp_at_succ
theorem own_cap {w : World} {base e K n cap : Nat} {a : Option Addr} {xs : List Value} {m : Nat} (h : w.ownsRow base e K (.slice a n cap) m xs) : a = none → cap = 0 := fun e => by
 subst e;rcases h.2 with ⟨h, _⟩ | ⟨g, c, cur, h, _⟩
 ·cases h; rfl
 ·cases h
theorem bootT_c (w : World) : Calls prog 44 #[] w (Fresh 99 2 (bootS.flatMap encC) bootS.length w) := by
 have K := hid9 (specMachOf_c (some ⟨w.heap.size, 0, none⟩) 0 [] (w.alloc (.cells #[] 99)) (by decide) (fun h => by cases h) (.inl rfl));have HB := hid9 (show Below w.heap.size w (w.alloc (.cells #[] 99)) from bel9);obtain ⟨bm, ⟨x, y⟩, E⟩ : ∃ aa bb, (spawnP 0).run ⟨[], [], []⟩ = (aa, bb) := ⟨_, _, rfl⟩;have e0 : bootS = bm.st := by unfold bootS; rw [E]
 rw [e0];have KS := hid9 (fun v1 v2 v3 W (h : MRd W v1 v2 v3 ⟨[], [], []⟩) => tSpawn_c v1 v2 v3 ⟨[], [], []⟩ bm x y 0 W h (mNone_ok _) E);clear e0 E;go_enter func44, ntmps44;go_wp2_with fail;refine K.out.mono ?_;rintro e w1 ⟨v, rfl, ho, hb1⟩;have HB1 := hid9 (HB.out.trans (hb1.mono HB.out.size));obtain ⟨a, c, hv, hr, l1, l2⟩ := reads_of_owns' encC_len (show w1.ownsRow _ _ 2 v ([] : List (ByteArray × ByteArray)).length (([] : List (ByteArray × ByteArray)).flatMap encC) from ho);subst hv;have HRD := hid9 (show MRd w1 (.slice a ([] : List (ByteArray × ByteArray)).length c) (.slice none 0 0) (.slice none 0 0) ⟨[], [], []⟩ from ⟨⟨a, c, rfl, hr, l1, l2⟩, ⟨none, 0, rfl, .inl rfl, Nat.le_refl _, Nat.zero_le _⟩, ⟨none, 0, rfl, .inl rfl, Nat.le_refl _, Nat.zero_le _⟩⟩);have HO := hid9 (ownsRow_base ho (Nat.le_trans HB.out.size (Nat.le_succ _)));clear ho hb1 hr K;go_wp2_with fail;refine (KS.out _ _ _ w1 HRD.out).mono ?_;rintro e w2 ⟨u1, u2, u3, rfl, hmo, hb2⟩;have hrd2 := hmo.rd HRD.out hb2;obtain ⟨x1, k1, hx1, hr1, _, _⟩ := hrd2.r1;obtain ⟨x2, k2, hx2, _, _, _⟩ := hrd2.r2;obtain ⟨x3, k3, hx3, _, _, _⟩ := hrd2.r3;subst hx1 hx2 hx3;have ho2 : w2.ownsRow w.heap.size 99 2 (.slice x1 bm.st.length k1) bm.st.length (bm.st.flatMap encC) := by
  rcases hmo.o1 with ⟨h1, h2⟩ | h
  ·rw [h1, h2]; exact ownsRow_below HO.out hb2
  ·exact ownsRow_base h HB1.out.size
 have HEND := hid9 (fun W (hW : Below w2.heap.size w2 W) => (show Fresh 99 2 (bm.st.flatMap encC) bm.st.length w (.returned (.slice x1 bm.st.length k1)) W from ⟨_, rfl, ownsRow_below ho2 hW, HB1.out.trans ((hb2.trans (hW.mono hb2.size)).mono HB1.out.size)⟩));clear hmo hb2 hrd2 hr1 KS ho2 HO HRD;go_wp2;go_ret;refine HEND.out (w2.alloc (.cells #[.slice x1 bm.st.length k1, .slice x2 bm.rs.length k2, .slice x3 bm.ws.length k3] 87)) ?_;exact bel9
def OwnG (base n : Nat) (v : Value) (W : World) : Prop :=
 ∃ xs : Sto, W.ownsRow base 99 2 v xs.length (xs.flatMap encC) ∧ Grown n xs ∧ ∀ x ∈ xs, x.1.size ≤ 1048576 ∧ x.2.size ≤ 1048576
theorem OwnG.far {base n c : Nat} {v : Value} {W W' : World} (h : OwnG base n v W) (hg : W.grownBy W' (some c)) (hc : c < base) : OwnG base n v W' := by
 obtain ⟨xs, o, g⟩ := h;exact ⟨xs, own_far o hg hc, g⟩
theorem OwnG.base {base base' n : Nat} {v : Value} {W : World} (h : OwnG base n v W) (hb : base' ≤ base) : OwnG base' n v W := by
 obtain ⟨xs, o, g⟩ := h;exact ⟨xs, ownsRow_base o hb, g⟩
theorem Grown.mono {n k : Nat} {s : Sto} (h : Grown n s) (hk : n ≤ k) : Grown k s := ⟨h.1, by have := h.2.1; omega, Nat.le_trans h.2.2.1 hk, h.2.2.2⟩
theorem OwnG.mono {base n k : Nat} {v : Value} {W : World} (h : OwnG base n v W) (hk : n ≤ k) : OwnG base k v W := by
 obtain ⟨xs, o, g, s⟩ := h;exact ⟨xs, o, g.mono hk, s⟩
theorem grown_mok {n : Nat} {xs : Sto} (h : Grown n xs) (hn : n ≤ 12) (hs : ∀ x ∈ xs, x.1.size ≤ 1048576 ∧ x.2.size ≤ 1048576) : MOk 600 ⟨xs, [], []⟩ :=
 ⟨by have := h.2.1; show xs.length ≤ 600; omega, Nat.zero_le _, Nat.zero_le _, hs⟩
theorem boot_grown : Grown 0 bootS ∧ ∀ x ∈ bootS, x.1.size ≤ 1048576 ∧ x.2.size ≤ 1048576 := by
 rw [boot_is];refine ⟨⟨⟨?_, ?_, ?_⟩, Nat.le_of_ble_eq_true (by kernel_rfl), Nat.le_of_ble_eq_true (by kernel_rfl), ?_⟩, ?_⟩
 ·refine List.pairwise_cons.2 ⟨fun x hx => ?_, List.pairwise_singleton _ _⟩;obtain rfl := List.mem_singleton.1 hx;kernel_rfl
 ·intro c hc h;rcases List.mem_cons.1 hc with rfl | hc
  ·rw [show hd cProc = some 99 from by kernel_rfl] at h; cases h
  ·obtain rfl := List.mem_singleton.1 hc;rw [show hd (procK 1 tS) = some 114 from hd_proc 1 tS] at h; cases h
 ·exact ⟨(cProc, decS 1), List.mem_cons_self, rfl⟩
 ·intro x hx;rcases List.mem_cons.1 hx with rfl | hx
  ·exact ⟨by kernel_rfl, by kernel_rfl⟩
  ·obtain rfl := List.mem_singleton.1 hx;exact ⟨by kernel_rfl, by kernel_rfl⟩
 ·intro x hx;rcases List.mem_cons.1 hx with rfl | hx
  ·exact ⟨Nat.le_of_ble_eq_true (by kernel_rfl), Nat.le_of_ble_eq_true (by kernel_rfl)⟩
  ·obtain rfl := List.mem_singleton.1 hx;exact ⟨Nat.le_of_ble_eq_true (by kernel_rfl), Nat.le_of_ble_eq_true (by kernel_rfl)⟩
theorem isCal_ok {v : Value} {W : World} (h : IsCal v W) : ∃ c : Cal, v = .agg #[.int .i64 c.kind, .string c.name, .string c.dest, .int .i64 c.a, .int .i64 c.b, .string c.text] ∧ COk c := by
 obtain ⟨k, n, d, a, b, t, rfl, h1, h2, h3, h4, h5⟩ := h;exact ⟨⟨k, n, d, a, b, t⟩, rfl, ⟨h4.1, h4.2⟩, ⟨h5.1, h5.2⟩, Nat.le_trans h1 (by decide), Nat.le_trans h2 (by decide), Nat.le_trans h3 (by decide)⟩
set_option maxRecDepth 100000 in
theorem storeK_c (w0 w : World) (c N : Nat) (hN : N ≤ 12) (hc : Cur w0 w c) :
 Calls prog 62 #[.pointer (some ⟨c, 0, none⟩), .int .i64 N] w (Drawn w0 c (OwnG w.heap.size N) w) := by
 have hcl := hc.lt;have HC := hid9 hc;have K0 := hid9 (bootT_c w);have KB := hid9 (fun W (h : Cur w0 W c) => below_c w0 W c ((N : Int) + 1) h (by omega));have KT := hid9 (fun W (h : Cur w0 W c) => below_c w0 W c 2 h (by omega));have KC := hid9 (fun W (h : Cur w0 W c) => call_c w0 W c h);have KO := hid9 (fun (W : World) (k : Nat) (hk : k < N) (a : Option Addr) (cap : Nat) (xs : Sto) (ho : W.ownsRow w.heap.size 99 2 (.slice a xs.length cap) xs.length (xs.flatMap encC)) (hg : Grown k xs) (hs : ∀ x ∈ xs, x.1.size ≤ 1048576 ∧ x.2.size ≤ 1048576) (p : Int) (hp : I64 p) (cl : Cal) (hcl : COk cl) =>
  show Calls prog 26 #[.slice a xs.length cap, .int .i64 p, .agg #[.int .i64 cl.kind, .string cl.name, .string cl.dest, .int .i64 cl.a, .int .i64 cl.b, .string cl.text]] W (fun e w' => ∃ u1 x u3, e = .returned (.tuple #[u1, x, u3]) ∧ OwnG W.heap.size (k + 1) u1 w' ∧ Below W.heap.size W w') from by
   obtain ⟨m', an, E⟩ : ∃ aa bb, (callP p cl).run ⟨xs, [], []⟩ = (aa, bb) := ⟨_, _, rfl⟩;have hm := grown_mok hg (by omega) hs;refine (callOnS_c a cap xs p cl m' an W (reads_owns2 encC_len ho) (own_cap ho) (hm.mono (by decide)) hp hcl E).mono ?_;rintro e w' ⟨u1, u2, u3, rfl, hb, hu⟩;have h2 := ((callP_cost p cl).okE hm E).sz;have h3 := hg.call (by omega) p cl;have h4 : ((callP p cl).sem xs).1 = m'.st := by
    have := ((callP p cl).run_sem ⟨xs, [], []⟩).1;rw [E] at this;exact this.symm
   rw [h4] at h3;exact ⟨u1, _, _, rfl, ⟨m'.st, hu.o1, h3, h2⟩, hb⟩)
 obtain ⟨hb0, hb1⟩ := boot_grown;have HB0 := hid9 hb0;have HB1 := hid9 hb1;clear hb0 hb1 hc;go_enter func62, ntmps62;go_wp2_with fail;refine K0.out.mono ?_;rintro e w1 ⟨v1, rfl, o1, b1⟩;have HO1 := hid9 (show OwnG w.heap.size 0 v1 w1 from ⟨bootS, o1, HB0.out, HB1.out⟩);have HC1 := hid9 (HC.out.below b1);have HG1 := hid9 (grownBy_of_below b1 (some c));clear o1 b1 K0 HB0 HB1;go_wp2;go_loopw [5, 6] (fun v i wr => ∃ k : Nat, i = .int .i64 k ∧ k ≤ N ∧ Hid (OwnG w.heap.size k v wr) ∧ Hid (Cur w0 wr c) ∧ Hid (w.grownBy wr (some c))) (fun _ i _ => N - (intOf i).toNat)
 case atStart => exact ⟨0, rfl, Nat.zero_le _, HO1, HC1, HG1⟩
 case round =>
  obtain ⟨k, rfl, hk, HO, HCr, HG⟩ := hrel;have p0 : (0 : Int) ≤ (k : Int) := by omega
  have K1 := hid9 (KB.out wr HCr.out);have hN1 : IntKind.i64.wrap ((N : Int) + 1) = (N : Int) + 1 := by rw [IntKind.wrap_i64]; omega
  go_wp2_with fail;refine K1.out.mono ?_;rintro e w2 ⟨v2, rfl, ⟨r, rfl, r0, r1, _⟩, hc2, hg2⟩;have hr8 := r1 (by omega);have HC2 := hid9 hc2;have HG2 := hid9 (grownBy_trans HG.out hg2);have HO2 := hid9 (HO.out.far hg2 hcl);clear hc2 hg2 HO HG HCr r1 K1;by_cases hlt : (k : Int) < r
  ·go_wp2_with fail;refine (KT.out _ HC2.out).mono ?_;rintro e w3 ⟨v3, rfl, ⟨q, rfl, q0, q1, _⟩, hc3, hg3⟩;have hq8 := q1 (by omega);have HC3 := hid9 hc3;have HG3 := hid9 (grownBy_trans HG2.out hg3);have HO3 := hid9 (HO2.out.far hg3 hcl);clear hc3 hg3 HO2 HG2 HC2 q1;have hq1 : IntKind.i64.wrap (1 + q) = 1 + q := by rw [IntKind.wrap_i64]; omega
   go_wp2_with fail;refine (KC.out _ HC3.out).mono ?_;rintro e w4 ⟨v4, rfl, hcal, hc4, hg4⟩;obtain ⟨cl, rfl, hco⟩ := isCal_ok hcal;have HC4 := hid9 hc4;have HG4 := hid9 (grownBy_trans HG3.out hg4);obtain ⟨xs, o4, g4, s4⟩ := HO3.out.far hg4 hcl;obtain ⟨a4, cap4, hv4, _⟩ := reads_of_owns encC_len o4;subst hv4;have KP := hid9 (KO.out w4 k (by omega) a4 cap4 xs o4 g4 s4 (1 + q) ⟨by omega, by omega⟩ cl hco);clear hc4 hg4 o4 g4 s4 HO3 HG3 HC3 hcal hco;go_wp2_with fail;refine KP.out.mono ?_;rintro e w5 ⟨u1, x5, u5, rfl, ho5, hb5⟩;have HC5 := hid9 (HC4.out.below hb5);have HG5 := hid9 (grownBy_below2 HG4.out hb5);have HO5 := hid9 (ho5.base HG4.out.size);clear ho5 hb5 HC4 HG4 KP;go_wp2;go_roundw
   case rel => exact ⟨k + 1, by go_num, by omega, HO5, HC5, HG5⟩
   case measure => simp [intOf]; omega
  ·have HEND := hid9 (show Drawn w0 c (OwnG w.heap.size N) w (.returned _) w2 from ⟨_, rfl, HO2.out.mono hk, HC2.out, HG2.out⟩);clear HO2 HC2 HG2;go_wp2;go_ret;exact HEND.out
def procList : List Int := [1, 1, 1, 1, 2, 3, 0, -1]
theorem proc1_c (w0 w : World) (c : Nat) (hc : Cur w0 w c) : Calls prog 66 #[.pointer (some ⟨c, 0, none⟩)] w (Drawn w0 c (IsOneInt procList) w) := by
 have K := hid9 (pickIntN_c w0 w c procList 3 8 w.heap.size rfl rfl hc (by decide) (by decide));clear hc;go_enter func66, ntmps66;go_wp2_with fail;refine K.out.mono ?_;rintro e w1 ⟨v, rfl, ⟨q, rfl, hq⟩, hc1, hg1⟩;have HEND := hid9 (show Drawn w0 c (IsOneInt procList) w (.returned (.int .i64 q)) w1 from ⟨_, rfl, ⟨q, rfl, hq⟩, hc1, hg1⟩);clear hc1 hg1 hq K;go_wp2;go_ret;exact HEND.out
def OwnS (base n : Nat) (v : Value) (W : World) : Prop :=
 ∃ xs : Sto, W.ownsRow base 99 2 v xs.length (xs.flatMap encC) ∧ xs.length ≤ n ∧ ∀ x ∈ xs, x.1.size ≤ 1048576 ∧ x.2.size ≤ 1048576
theorem procList_ok : ∀ q ∈ procList, I64 q := fun q h => by
 have : (procList.all fun a => decide (-9223372036854775808 ≤ a) && decide (a ≤ 9223372036854775807)) = true := by kernel_rfl
 have h2 := List.all_eq_true.1 this q h;simp only [Bool.and_eq_true, decide_eq_true_eq] at h2;exact ⟨h2.1, h2.2⟩
end
section
open Go.RowKit
attribute [local go_sem ↓] Go.wp_at_zero Go.wp_at_succ
theorem readStep {w wr : World} {a : Option Addr} {xs : List Stp} (hr : Reads w a 7 encStp xs) (hb : Below w.heap.size w wr) {k : Nat} {x : Stp} (hx : xs[k]? = some x) :
 ∃ b off, a = some ⟨b, off, none⟩ ∧ wr.cell? ⟨b, off + k * 7, none⟩ = some (.int .i64 x.proc) ∧ wr.cell? ⟨b, off + k * 7 + 1, none⟩ = some (.int .i64 x.call.kind) ∧ wr.cell? ⟨b, off + k * 7 + 2, none⟩ = some (.string x.call.name) ∧ wr.cell? ⟨b, off + k * 7 + 3, none⟩ = some (.string x.call.dest) ∧ wr.cell? ⟨b, off + k * 7 + 4, none⟩ = some (.int .i64 x.call.a) ∧ wr.cell? ⟨b, off + k * 7 + 5, none⟩ = some (.int .i64 x.call.b) ∧ wr.cell? ⟨b, off + k * 7 + 6, none⟩ = some (.string x.call.text) := by
 rcases hr.below hb with rfl | ⟨b, off, h1, _, h3⟩
 ·simp at hx
 ·exact ⟨b, off, h1, by simpa [Nat.add_assoc] using h3 k x hx 0 _ rfl, by simpa [Nat.add_assoc] using h3 k x hx 1 _ rfl, by simpa [Nat.add_assoc] using h3 k x hx 2 _ rfl, by simpa [Nat.add_assoc] using h3 k x hx 3 _ rfl, by simpa [Nat.add_assoc] using h3 k x hx 4 _ rfl, by simpa [Nat.add_assoc] using h3 k x hx 5 _ rfl, by simpa [Nat.add_assoc] using h3 k x hx 6 _ rfl⟩
theorem infoStep : (Tryz.prog.info? 45).map (fun i => (i.zero, i.size, i.bytes)) = some (some (.agg #[.int .i64 0, .int .i64 0, .string ⟨#[]⟩, .string ⟨#[]⟩, .int .i64 0, .int .i64 0, .string ⟨#[]⟩]), 7, 80) := by kernel_rfl
end
section
open Go.ChangeShapes Go.WideShapes Go.ChangeAt Go.RowKit
attribute [local go_sem ↓] Go.wp_at_zero Go.wp_at_succ
def StpOk (s : Stp) : Prop := I64 s.proc ∧ COk s.call
def OwnSteps (base n : Nat) (v : Value) (W : World) : Prop :=
 ∃ xs : List Stp, W.ownsRow base 45 7 v xs.length (xs.flatMap encStp) ∧ xs.length ≤ n ∧ ∀ x ∈ xs, StpOk x
theorem OwnSteps.far {base n c : Nat} {v : Value} {W W' : World} (h : OwnSteps base n v W) (hg : W.grownBy W' (some c)) (hc : c < base) : OwnSteps base n v W' := by
 obtain ⟨xs, o, g⟩ := h;exact ⟨xs, own_far o hg hc, g⟩
theorem OwnSteps.mono {base n k : Nat} {v : Value} {W : World} (h : OwnSteps base n v W) (hk : n ≤ k) : OwnSteps base k v W := by
 obtain ⟨xs, o, l, s⟩ := h;exact ⟨xs, o, Nat.le_trans l hk, s⟩
theorem encStp_one (x : Stp) : ∀ u ∈ encStp x, u.oneCell' = true := by
 intro u hu;simp only [encStp, encCal, List.mem_cons, List.not_mem_nil, or_false] at hu;rcases hu with rfl | rfl | rfl | rfl | rfl | rfl | rfl <;> rfl
set_option maxRecDepth 100000 in
theorem steps_c (w0 w : World) (c N : Nat) (hN : N ≤ 12) (hc : Cur w0 w c) :
 Calls prog 84 #[.pointer (some ⟨c, 0, none⟩), .int .i64 N] w (Drawn w0 c (OwnSteps w.heap.size N) w) := by
 obtain ⟨i0, hinf, hzz⟩ := Option.map_eq_some_iff.1 infoStep;simp only [Prod.mk.injEq] at hzz;have HI := hid9 hinf;have HZ := hid9 hzz;clear hinf hzz;have hcl := hc.lt;have HC := hid9 hc;have HE0 := hid9 (own_empty w 45 7);have KB := hid9 (fun W (h : Cur w0 W c) => below_c w0 W c ((N : Int) + 1) h (by omega));have KP := hid9 (fun W (h : Cur w0 W c) => proc1_c w0 W c h);have KA := hid9 (fun W (h : Cur w0 W c) => anyCall_c w0 W c h);clear hc;go_enter func84, ntmps84;go_wp2;go_loopw [5, 6] (fun v i wr => ∃ k : Nat, i = .int .i64 k ∧ k ≤ N ∧ Hid (OwnSteps w.heap.size k v wr) ∧ Hid (Cur w0 wr c) ∧ Hid (w.grownBy wr (some c))) (fun _ i _ => N - (intOf i).toNat)
 case atStart => exact ⟨0, rfl, Nat.zero_le _, hid9 ⟨[], HE0.out, Nat.le_refl _, fun x hx => by cases hx⟩, hid9 (HC.out.below bel9), hid9 (grownBy_of_below bel9 _)⟩
 case round =>
  obtain ⟨k, rfl, hk, HO, HCr, HG⟩ := hrel;have p0 : (0 : Int) ≤ (k : Int) := by omega
  have K1 := hid9 (KB.out wr HCr.out);have hN1 : IntKind.i64.wrap ((N : Int) + 1) = (N : Int) + 1 := by rw [IntKind.wrap_i64]; omega
  go_wp2_with fail;refine K1.out.mono ?_;rintro e w2 ⟨v2, rfl, ⟨r, rfl, r0, r1, _⟩, hc2, hg2⟩;have hr8 := r1 (by omega);have HC2 := hid9 hc2;have HG2 := hid9 (grownBy_trans HG.out hg2);have HO2 := hid9 (HO.out.far hg2 hcl);clear hc2 hg2 HO HG HCr r1 K1;by_cases hlt : (k : Int) < r
  ·go_wp2_with fail;refine (KP.out _ HC2.out).mono ?_;rintro e w3 ⟨v3, rfl, ⟨q, rfl, hq⟩, hc3, hg3⟩;have HC3 := hid9 hc3;have HG3 := hid9 (grownBy_trans HG2.out hg3);have HO3 := hid9 (HO2.out.far hg3 hcl);have HQ := hid9 (procList_ok q hq);clear hc3 hg3 HO2 HG2 HC2 hq;go_wp2_with fail;refine (KA.out _ HC3.out).mono ?_;rintro e w4 ⟨v4, rfl, hcal, hc4, hg4⟩;obtain ⟨cl, rfl, hco⟩ := isCal_ok hcal;have HC4 := hid9 hc4;have HG4 := hid9 (grownBy_trans HG3.out hg4);obtain ⟨xs, o4, l4, s4⟩ := HO3.out.far hg4 hcl;obtain ⟨a4, cap4, hv4, _⟩ := reads_of_owns encStp_len o4;subst hv4;have HW4 := hid9 o4;have HS4 := hid9 s4;have HCO := hid9 hco;have hs4 : w.heap.size ≤ w4.heap.size := HG4.out.size;clear hc4 hg4 o4 s4 HO3 HG3 HC3 hcal hco;go_wp2_with (at_builtin; refine wpList_append_own2 _ rfl _ _ 41 rfl w.heap.size 45 i0 _ 7 80 underlying41 HI.out HZ.out.1 HZ.out.2.1 HZ.out.2.2 rfl (by decide) _ _ _ rfl (HW4.out.alloc _) ⟨w4.heap.size, 0, none⟩ 1 1 (encStp ⟨q, cl⟩) rfl rfl (box_news (Box.new _ (encStp ⟨q, cl⟩) _)) (encStp_one ⟨q, cl⟩) (by unfold maxLen; omega) (by omega) (by simp; omega) ?_);intro v' w' o2 g2 or2;have hbn := (show Below w4.heap.size w4 (w4.alloc (.cells (encStp ⟨q, cl⟩).toArray 45)) from bel9);have HG5 := hid9 (grown_own (grownBy_below2 HG4.out hbn) (HW4.out.alloc _) g2);have HC5 := hid9 (Cur.own (HC4.out.below hbn) (HW4.out.alloc _) hcl g2);have HO5 := hid9 (show OwnSteps w.heap.size (k + 1) v' w' from ⟨xs ++ [⟨q, cl⟩], by
    rw [List.length_append, List.flatMap_append]; exact (by simpa using o2), by simp; omega, fun z hz => by
    rcases List.mem_append.1 hz with hz | hz
    ·exact HS4.out z hz
    ·have := List.mem_singleton.1 hz;subst this;exact ⟨HQ.out, HCO.out⟩⟩)
   clear o2 g2 or2 HW4 HC4 HG4 hbn HS4;go_wp2;go_roundw
   case rel => exact ⟨k + 1, by go_num, by omega, HO5, HC5, HG5⟩
   case measure => simp [intOf]; omega
  ·have HEND := hid9 (show Drawn w0 c (OwnSteps w.heap.size N) w (.returned _) w2 from ⟨_, rfl, HO2.out.mono hk, HC2.out, HG2.out⟩);clear HO2 HC2 HG2;go_wp2;go_ret;exact HEND.out
def DrawnRun (w : World) (e : Ending) (w' : World) : Prop :=
 ∃ v1 v2, e = .returned (.tuple #[v1, v2]) ∧ OwnG w.heap.size 6 v1 w' ∧ OwnSteps w.heap.size 6 v2 w' ∧ (∀ k, v1.ownBlock = some k → v2.ownBlock ≠ some k) ∧ Below w.heap.size w w'
theorem case_c (a : Option Addr) (len cap : Nat) (z : List Int) (w : World) (hz : IsRow .u8 w a len cap z) :
 Calls prog 68 #[.slice a len cap] w (DrawnRun w) := by
 have K := hid9 (new_c a len cap z w hz);have KS := hid9 (fun W c (h : Cur w W c) => storeK_c w W c 6 (by decide) h);have KT := hid9 (fun W c (h : Cur w W c) => steps_c w W c 6 (by decide) h);clear hz;go_enter func68, ntmps68;go_wp2_with fail;refine K.out.mono ?_;rintro e w1 ⟨c, rfl, hc1⟩;have HC1 := hid9 hc1;have hcl := hc1.lt;have hb1 := hc1.base.size;clear hc1 K;go_wp2_with fail;refine (KS.out _ _ HC1.out).mono ?_;rintro e w2 ⟨v2, rfl, ho, hc2, hg2⟩;have HO2 := hid9 ho;have HC2 := hid9 hc2;have hs2 := hg2.size;clear ho hc2 hg2 HC1 KS;go_wp2_with fail;refine (KT.out _ _ HC2.out).mono ?_;rintro e w3 ⟨v3, rfl, ho, hc3, hg3⟩;have HEND := hid9 (show DrawnRun w (.returned (.tuple #[v2, v3])) w3 from ⟨v2, v3, rfl, (HO2.out.far hg3 hcl).base hb1, by
  obtain ⟨xs, o, l⟩ := ho;exact ⟨xs, ownsRow_base o (Nat.le_trans hb1 hs2), l⟩, fun k e1 e2 => by
  obtain ⟨xs, o, _⟩ := ho;obtain ⟨ys, o', _⟩ := HO2.out;have h1 := (o.lt k e2).1;have h2 := (o'.lt k e1).2;omega, hc3.base⟩)
 clear ho hc3 hg3 KT HO2 HC2;go_wp2;exact bodyPost_ret (v := .tuple #[v2, v3]) (by simp [results, results68, go_sem]) rfl HEND.out
theorem drawRun_c (a : Option Addr) (len cap : Nat) (z : List Int) (w : World) (hz : IsRow .u8 w a len cap z) :
 Calls prog 18 #[.slice a len cap] w (DrawnRun w) := by
 have K := hid9 (case_c a len cap z w hz);clear hz;go_enter func18, ntmps18;go_wp2_with fail;refine K.out.mono ?_;rintro e w1 ⟨v1, v2, rfl, h⟩;have HEND := hid9 (show DrawnRun w (.returned (.tuple #[v1, v2])) w1 from ⟨v1, v2, rfl, h⟩);clear h;go_wp2;exact bodyPost_ret (v := .tuple #[v1, v2]) (by simp [results, results18, go_sem]) rfl HEND.out
end
section
open Go.RowKit
theorem boxS (w : World) (b : Nat) (xs : List Value) (i : Nat) (v : Value) (h : Box w b xs) : Box (w.setCell ⟨b, i, none⟩ v) b (xs.set i v) := by
 obtain ⟨h1, T, h2⟩ := h;refine ⟨by simpa [World.setCell] using h1, T, ?_⟩;have := heap_setCell_same w b i xs.toArray T v h2;simpa using this
end
section
open Go.ChangeShapes Go.WideShapes Go.ChangeAt Go.RowKit
attribute [local go_sem ↓] Go.wp_at_zero Go.wp_at_succ
def IsAns (v : Value) (_ : World) : Prop := ∃ an : Ans, v = .agg #[.int .i64 an.code, .int .i64 an.n, .string an.text]
set_option maxRecDepth 100000 in
theorem answer_c (w0 w : World) (c : Nat) (hc : Cur w0 w c) :
 Calls prog 83 #[.pointer (some ⟨c, 0, none⟩)] w (Drawn w0 c IsAns w) := by
 obtain ⟨W0, hW0⟩ : ∃ W0, W0 = w.alloc (.cells #[.int .i64 0, .int .i64 0, .string ⟨#[]⟩] 28) := ⟨_, rfl⟩;have hb0 : Below w.heap.size w W0 := by subst hW0; exact bel9
 have T0 := hid9 (show Box W0 w.heap.size [.int .i64 0, .int .i64 0, .string ⟨#[]⟩] from by subst hW0; exact Box.new w [.int .i64 0, .int .i64 0, .string ⟨#[]⟩] _);have C0 := hid9 (hc.below hb0);have G0 := hid9 (grownBy_of_below hb0 (some c));have hcl := hc.lt;have hz0 := hc.base.size;have hne : w.heap.size ≠ c := by omega
 have KB := hid9 (fun W (n : Int) (hn : n ≤ 9223372036854775807) (h : Cur w0 W c) => below_c w0 W c n h hn);have KT := hid9 (fun W (n : Int) (hn : n ≤ 5000) (h : Cur w0 W c) => text_c w0 W c n h hn);clear hc hb0;go_enter func83, ntmps83;go_upto_region 1 with fail;rw [← hW0];clear hW0;go_wp2_with fail;refine (KB.out _ 4 (by decide) C0.out).mono ?_;rintro e w1 ⟨v1, rfl, ⟨m1, rfl, a1, a2, -⟩, hc1, hg1⟩;have C1 := hid9 hc1;have G1 := hid9 (grownBy_trans G0.out hg1);have T1 := hid9 (T0.out.grown hg1 hne);clear hc1 hg1 C0 G0 T0 a1 a2;go_wp2_with fail;refine (KB.out _ 4 (by decide) C1.out).mono ?_;rintro e w2 ⟨v2, rfl, ⟨m2, rfl, b1, b2, -⟩, hc2, hg2⟩;have b3 := b2 (by decide);have C2 := hid9 hc2;have G2 := hid9 (grownBy_trans G1.out hg2);have T2 := hid9 (T1.out.grown hg2 hne);clear hc2 hg2 C1 G1 T1 b2;go_wp2_with fail;refine (KB.out _ 3 (by decide) C2.out).mono ?_;rintro e w4 ⟨v4, rfl, ⟨m4, rfl, d1, d2, -⟩, hc4, hg4⟩;have d3 := d2 (by decide);have C4 := hid9 hc4;have G4 := hid9 (grownBy_trans G2.out hg4);have T4 := hid9 (T2.out.grown hg4 hne);clear hc4 hg4 C2 G2 T2 d2;go_wp2_with fail;refine (KT.out _ m4 (by omega) C4.out).mono ?_;rintro e w5 ⟨v5, rfl, ⟨t, rfl, -⟩, hc5, hg5⟩;have T5 := T4.out.grown hg5 hne;have HEND := hid9 (show Drawn w0 c IsAns w (.returned (.agg #[.int .i64 m1, .int .i64 (m2 - 1), .string t])) (((w5.setCell ⟨w.heap.size, 0, none⟩ (.int .i64 m1)).setCell ⟨w.heap.size, 1, none⟩ (.int .i64 (m2 - 1))).setCell ⟨w.heap.size, 2, none⟩ (.string t)) from ⟨_, rfl, ⟨⟨m1, m2 - 1, t⟩, rfl⟩, ((hc5.grown (grown_setCell w5 _ _ _) hne hz0).grown (grown_setCell _ _ _ _) hne hz0).grown (grown_setCell _ _ _ _) hne hz0, grown_above (grown_above (grown_above (grownBy_trans G4.out hg5) (grown_setCell w5 _ _ _) (Nat.le_refl _)) (grown_setCell _ _ _ _) (Nat.le_refl _)) (grown_setCell _ _ _ _) (Nat.le_refl _)⟩);have c0 := T5.cell 0 _ rfl;have c1 := T5.cell 1 _ rfl;have c2 := T5.cell 2 _ rfl;have f0 := T5.free 0;have f1 := T5.free 1;have f2 := T5.free 2;clear hc5 hg5 C4 G4 T4 T5 KB KT;go_wp2_with fail;exact bodyPost_ret (v := .agg #[.int .i64 m1, .int .i64 (m2 - 1), .string t]) (by simp [results, results83, go_sem, *]) rfl HEND.out
end
section
open Go.RowKit
theorem mem_addS {y x : ByteArray} : ∀ {L : List ByteArray}, y ∈ addS L x ↔ y = x ∨ y ∈ L
 | [] => by simp [addS]
 | z :: L => by
  unfold addS;split
  ·rw [List.mem_cons, mem_addS, List.mem_cons];constructor
   ·rintro (h | h | h) <;> simp [h]
   ·rintro (h | h | h) <;> simp [h]
  ·split
   ·rename_i h;have := eqB_iff.1 h;subst this;simp
   ·simp
def RisingK (L : List ByteArray) : Prop := L.Pairwise (fun a b => ltB a b = true)
theorem rising_addS {x : ByteArray} : ∀ {L : List ByteArray}, RisingK L → RisingK (addS L x)
 | [], _ => List.pairwise_singleton _ _
 | z :: L, h => by
  have h1 := List.pairwise_cons.1 h;unfold addS;split
  ·rename_i hz;refine List.pairwise_cons.2 ⟨fun y hy => ?_, rising_addS h1.2⟩;rcases mem_addS.1 hy with rfl | hy
   ·exact hz
   ·exact h1.1 y hy
  ·rename_i hz;split
   ·exact h
   ·rename_i he;have hxz : ltB x z = true := ltB_tri' (by simpa using hz) (fun e => he (eqB_iff.2 e));refine List.pairwise_cons.2 ⟨fun y hy => ?_, h⟩;rcases List.mem_cons.1 hy with rfl | hy
    ·exact hxz
    ·exact ltB_trans hxz (h1.1 y hy)
theorem rising_cons_mem {a b : ByteArray} {L M : List ByteArray} (h1 : RisingK (a :: L)) (h2 : RisingK (b :: M)) (h : ∀ y, y ∈ a :: L ↔ y ∈ b :: M) : a = b := by
 have p1 := List.pairwise_cons.1 h1;have p2 := List.pairwise_cons.1 h2;rcases List.mem_cons.1 ((h a).1 List.mem_cons_self) with e | ha
 ·exact e
 ·rcases List.mem_cons.1 ((h b).2 List.mem_cons_self) with e | hb
  ·exact e.symm
  ·have q1 := p2.1 a ha;have q2 := p1.1 b hb;rw [ltB_asym q1] at q2;cases q2
theorem rising_ext : ∀ {L M : List ByteArray}, RisingK L → RisingK M → (∀ y, y ∈ L ↔ y ∈ M) → L = M
 | [], [], _, _, _ => rfl
 | [], b :: M, _, _, h => absurd ((h b).2 List.mem_cons_self) (by simp)
 | a :: L, [], _, _, h => absurd ((h a).1 List.mem_cons_self) (by simp)
 | a :: L, b :: M, h1, h2, h => by
  have e := rising_cons_mem h1 h2 h;subst e;have p1 := List.pairwise_cons.1 h1;have p2 := List.pairwise_cons.1 h2;have e : L = M := rising_ext p1.2 p2.2 (fun y => by
   constructor
   ·intro hy;rcases List.mem_cons.1 ((h y).1 (List.mem_cons_of_mem _ hy)) with e | h3
    ·have := p1.1 y hy;rw [e, ltB_irr] at this;cases this
    ·exact h3
   ·intro hy;rcases List.mem_cons.1 ((h y).2 (List.mem_cons_of_mem _ hy)) with e | h3
    ·have := p2.1 y hy;rw [e, ltB_irr] at this;cases this
    ·exact h3)
  rw [e]
def joinS (a b : List ByteArray) : List ByteArray := b.foldl addS a
theorem mem_joinS {y : ByteArray} : ∀ (b a : List ByteArray), y ∈ joinS a b ↔ y ∈ a ∨ y ∈ b
 | [], a => by simp [joinS]
 | x :: b, a => by
  show y ∈ joinS (addS a x) b ↔ _;rw [mem_joinS b, mem_addS, List.mem_cons];constructor
  ·rintro ((h | h) | h)
   ·exact .inr (.inl h)
   ·exact .inl h
   ·exact .inr (.inr h)
  ·rintro (h | h | h)
   ·exact .inl (.inr h)
   ·exact .inl (.inl h)
   ·exact .inr h
theorem rising_joinS : ∀ (b : List ByteArray) {a : List ByteArray}, RisingK a → RisingK (joinS a b)
 | [], _, h => h
 | _ :: b, _, h => rising_joinS b (rising_addS h)
theorem joinS_nil {a : List ByteArray} (h : RisingK a) : joinS [] a = a := rising_ext (rising_joinS _ List.Pairwise.nil) h (fun y => by rw [mem_joinS]; simp)
theorem joinS_assoc {a b c : List ByteArray} (h : RisingK a) (h2 : RisingK b) : joinS (joinS a b) c = joinS a (joinS b c) :=
 rising_ext (rising_joinS _ (rising_joinS _ h)) (rising_joinS _ h) (fun y => by
  rw [mem_joinS, mem_joinS, mem_joinS, mem_joinS, or_assoc])
theorem joinS_add {a : List ByteArray} (h : RisingK a) (k : ByteArray) (R : List ByteArray) : joinS (addS a k) R = joinS a (joinS (addS [] k) R) := by
 have e : addS a k = joinS a (addS [] k) := rfl;rw [e];exact joinS_assoc h (rising_addS List.Pairwise.nil)
theorem run_join {α : Type} (x : Pg α) : ∀ (s : Sto) (rs ws : List ByteArray), RisingK rs → RisingK ws →
 (x.run ⟨s, rs, ws⟩).1.rs = joinS rs (x.run ⟨s, [], []⟩).1.rs ∧ (x.run ⟨s, rs, ws⟩).1.ws = joinS ws (x.run ⟨s, [], []⟩).1.ws ∧ (x.run ⟨s, rs, ws⟩).1.st = (x.run ⟨s, [], []⟩).1.st ∧ (x.run ⟨s, rs, ws⟩).2 = (x.run ⟨s, [], []⟩).2 ∧ RisingK (x.run ⟨s, rs, ws⟩).1.rs ∧ RisingK (x.run ⟨s, rs, ws⟩).1.ws := by
 have rnil : RisingK [] := List.Pairwise.nil
 induction x with
 | ret a => intro s rs ws h1 h2; exact ⟨rfl, rfl, rfl, rfl, h1, h2⟩
 | look k f ih =>
  intro s rs ws h1 h2;obtain ⟨a1, a2, a3, a4, a5, a6⟩ := ih (getKeyS s k) s (addS rs k) ws (rising_addS h1) h2;obtain ⟨b1, b2, b3, b4, _, _⟩ := ih (getKeyS s k) s (addS [] k) [] (rising_addS rnil) rnil;exact ⟨a1.trans ((joinS_add h1 k _).trans (congrArg (joinS rs) b1.symm)), a2.trans (congrArg (joinS ws) ((b2.trans (joinS_nil (by have h := (ih (getKeyS s k) s [] [] rnil rnil).2.2.2.2.2; exact h))).symm)), a3.trans b3.symm, a4.trans b4.symm, a5, a6⟩
 | lay k v f ih =>
  intro s rs ws h1 h2;obtain ⟨a1, a2, a3, a4, a5, a6⟩ := ih (putKeyS s k v) rs (addS ws k) h1 (rising_addS h2);obtain ⟨b1, b2, b3, b4, _, _⟩ := ih (putKeyS s k v) [] (addS [] k) rnil (rising_addS rnil);exact ⟨a1.trans (congrArg (joinS rs) ((b1.trans (joinS_nil (by have h := (ih (putKeyS s k v) [] [] rnil rnil).2.2.2.2.1; exact h))).symm)), a2.trans ((joinS_add h2 k _).trans (congrArg (joinS ws) b2.symm)), a3.trans b3.symm, a4.trans b4.symm, a5, a6⟩
 | under p f ih =>
  intro s rs ws h1 h2;obtain ⟨a1, a2, a3, a4, a5, a6⟩ := ih (keysU s p) s (addS rs (starK p)) ws (rising_addS h1) h2;obtain ⟨b1, b2, b3, b4, _, _⟩ := ih (keysU s p) s (addS [] (starK p)) [] (rising_addS rnil) rnil;exact ⟨a1.trans ((joinS_add h1 (starK p) _).trans (congrArg (joinS rs) b1.symm)), a2.trans (congrArg (joinS ws) ((b2.trans (joinS_nil (by have h := (ih (keysU s p) s [] [] rnil rnil).2.2.2.2.2; exact h))).symm)), a3.trans b3.symm, a4.trans b4.symm, a5, a6⟩
noncomputable def stepI (p : Mch × List Ans) (x : Stp) : Mch × List Ans := (((callP x.proc x.call).run p.1).1, p.2 ++ [((callP x.proc x.call).run p.1).2])
noncomputable def runI (xs : List Stp) (m : Mch) : Mch × List Ans := xs.foldl stepI (m, [])
noncomputable def stepT (p : Mch × List Ans) (x : Stp) : Mch × List Ans :=
 (⟨((callP x.proc x.call).run ⟨p.1.st, [], []⟩).1.st, joinS p.1.rs ((callP x.proc x.call).run ⟨p.1.st, [], []⟩).1.rs, joinS p.1.ws ((callP x.proc x.call).run ⟨p.1.st, [], []⟩).1.ws⟩, p.2 ++ [((callP x.proc x.call).run ⟨p.1.st, [], []⟩).2])
noncomputable def runT (xs : List Stp) (m : Mch) : Mch × List Ans := xs.foldl stepT (m, [])
def RMch (m : Mch) : Prop := RisingK m.rs ∧ RisingK m.ws
theorem step_same (p : Mch × List Ans) (x : Stp) (h : RMch p.1) : stepI p x = stepT p x ∧ RMch (stepI p x).1 := by
 obtain ⟨⟨s, rs, ws⟩, qs⟩ := p;obtain ⟨a1, a2, a3, a4, a5, a6⟩ := run_join (callP x.proc x.call) s rs ws h.1 h.2;refine ⟨?_, a5, a6⟩;unfold stepI stepT;dsimp only;rw [← a1, ← a2, ← a3, ← a4]
theorem fold_same : ∀ (xs : List Stp) (p : Mch × List Ans), RMch p.1 → xs.foldl stepI p = xs.foldl stepT p ∧ RMch (xs.foldl stepI p).1
 | [], p, h => ⟨rfl, h⟩
 | x :: xs, p, h => by
  obtain ⟨e, h2⟩ := step_same p x h;obtain ⟨e2, h3⟩ := fold_same xs (stepI p x) h2;exact ⟨by rw [List.foldl_cons, List.foldl_cons, ← e, e2], h3⟩
theorem run_same (xs : List Stp) (s : Sto) : runI xs ⟨s, [], []⟩ = runT xs ⟨s, [], []⟩ := (fold_same xs (⟨s, [], []⟩, []) ⟨List.Pairwise.nil, List.Pairwise.nil⟩).1
theorem runI_snoc (xs : List Stp) (x : Stp) (m : Mch) : runI (xs ++ [x]) m = stepI (runI xs m) x := by unfold runI; rw [List.foldl_append]; rfl
theorem runT_snoc (xs : List Stp) (x : Stp) (m : Mch) : runT (xs ++ [x]) m = stepT (runT xs m) x := by unfold runT; rw [List.foldl_append]; rfl
theorem stepI_sem (p : Mch × List Ans) (x : Stp) : (stepI p x).1.st = ((callP x.proc x.call).sem p.1.st).1 ∧ (stepI p x).2 = p.2 ++ [((callP x.proc x.call).sem p.1.st).2] := by
 obtain ⟨h1, h2⟩ := (callP x.proc x.call).run_sem p.1;exact ⟨h1, congrArg (fun a => p.2 ++ [a]) h2⟩
theorem fold_sem : ∀ (xs : List Stp) (p q : Mch × List Ans), p.1.st = q.1.st → (xs.foldl stepI p).1.st = (xs.foldl stepI q).1.st ∧ ∃ qs, (xs.foldl stepI p).2 = p.2 ++ qs ∧ (xs.foldl stepI q).2 = q.2 ++ qs
 | [], p, q, h => ⟨h, [], by simp, by simp⟩
 | x :: xs, p, q, h => by
  obtain ⟨a1, a2⟩ := stepI_sem p x;obtain ⟨b1, b2⟩ := stepI_sem q x;obtain ⟨h2, qs, e1, e2⟩ := fold_sem xs (stepI p x) (stepI q x) (by rw [a1, b1, h]);refine ⟨h2, ((callP x.proc x.call).sem p.1.st).2 :: qs, ?_, ?_⟩
  ·rw [List.foldl_cons, e1, a2, List.append_assoc]; rfl
  ·rw [List.foldl_cons, e2, b2, h, List.append_assoc]; rfl
theorem run_parts (xs ys : List Stp) (s : Sto) : (runI (xs ++ ys) ⟨s, [], []⟩).1.st = (runI ys ⟨(runI xs ⟨s, [], []⟩).1.st, [], []⟩).1.st ∧ (runI (xs ++ ys) ⟨s, [], []⟩).2 = (runI xs ⟨s, [], []⟩).2 ++ (runI ys ⟨(runI xs ⟨s, [], []⟩).1.st, [], []⟩).2 := by
 obtain ⟨h, qs, e1, e2⟩ := fold_sem ys (runI xs ⟨s, [], []⟩) (⟨(runI xs ⟨s, [], []⟩).1.st, [], []⟩, []) rfl;have e : runI (xs ++ ys) ⟨s, [], []⟩ = ys.foldl stepI (runI xs ⟨s, [], []⟩) := by unfold runI; rw [List.foldl_append]
 rw [e];refine ⟨h, e1.trans (congrArg ((runI xs ⟨s, [], []⟩).2 ++ ·) ?_)⟩;exact (show (runI ys ⟨(runI xs ⟨s, [], []⟩).1.st, [], []⟩).2 = [] ++ qs from e2).symm
theorem runI_len : ∀ (xs : List Stp) (p : Mch × List Ans), (xs.foldl stepI p).2.length = p.2.length + xs.length
 | [], p => by simp
 | x :: xs, p => by
  rw [List.foldl_cons, runI_len xs];show (p.2 ++ [_]).length + xs.length = _;rw [List.length_append, List.length_singleton, List.length_cons];omega
end
section
open Go.RowKit
attribute [local go_sem ↓] Go.wp_at_zero Go.wp_at_succ
theorem infoAnswer : (Tryz.prog.info? 28).map (fun i => (i.zero, i.size, i.bytes)) = some (some (.agg #[.int .i64 0, .int .i64 0, .string ⟨#[]⟩]), 3, 32) := by kernel_rfl
end
section
open Go.ChangeShapes Go.WideShapes Go.ChangeAt Go.RowKit
attribute [local go_sem ↓] Go.wp_at_zero Go.wp_at_succ
theorem encA_one (x : Ans) : ∀ u ∈ encA x, u.oneCell' = true := by
 intro u hu;simp only [encA, List.mem_cons, List.not_mem_nil, or_false] at hu;rcases hu with rfl | rfl | rfl <;> rfl
def StpsOk (xs : List Stp) : Prop := ∀ x ∈ xs, I64 x.proc ∧ COk x.call
def MAnss (p base : Nat) (v1 v2 v3 : Value) (m' : Mch) (ns : List Ans) (w : World) (e : Ending) (w' : World) : Prop :=
 ∃ u1 u2 u3 a c, e = .returned (.slice a ns.length c) ∧ RAt 28 3 encA p base v1 v2 v3 w w' u1 u2 u3 m' (.slice a ns.length c) ns
set_option maxRecDepth 100000 in
theorem pRun_c (p base : Nat) (v1 v2 v3 : Value) (m : Mch) (xs : List Stp) (a : Option Addr) (cap : Nat) (w : World) (h : MAt w p base v1 v2 v3 m) (hr : ∀ W, Below base w W → Reads W a 7 encStp xs) (hok : StpsOk xs) (hb : ∀ k, k ≤ xs.length → MOk 100000000000 (runI (xs.take k) m).1) (hl : xs.length ≤ 1048576) (HT : ∀ W, Below base w W → Tabs W) :
 Calls prog 81 #[.pointer (some ⟨p, 0, none⟩), .slice a xs.length cap] w (MAnss p base v1 v2 v3 (runI xs m).1 (runI xs m).2 w) := by
 obtain ⟨i0, hi0, hzz⟩ := Option.map_eq_some_iff.1 infoAnswer;simp only [Prod.mk.injEq] at hzz;have HI := hid9 hi0;have HZ := hid9 hzz;clear hi0 hzz;have J0 := hid9 (JAt.first h);have HR := hid9 (fun W u1 u2 u3 k (d : JAt p base v1 v2 v3 w W u1 u2 u3 k) => hr W (d.bel h));have HTT := hid9 (fun W u1 u2 u3 k (d : JAt p base v1 v2 v3 w W u1 u2 u3 k) W' (hW : Below base W W') => HT W' ((d.bel h).trans hW));have HB := hid9 hb;have HOK := hid9 hok;clear h hr hb hok HT;go_enter func81, ntmps81;go_wp2_with fail;go_loopw [5, 10] (fun v i wr => ∃ k : Nat, k ≤ xs.length ∧ i = .int .i64 k ∧ Hid (∃ y1 y2 y3, RAt 28 3 encA p base v1 v2 v3 w wr y1 y2 y3 (runI (xs.take k) m).1 v (runI (xs.take k) m).2)) (fun _ i _ => xs.length - (intOf i).toNat)
 case atStart => exact ⟨0, Nat.zero_le _, rfl, hid9 ⟨_, _, _, RAt.first J0.out⟩⟩
 case round =>
  obtain ⟨k, hk, rfl, HI0⟩ := hrel;obtain ⟨y1, y2, y3, hL⟩ := HI0.out;have HL := hid9 hL;clear hL HI0 J0;have hlk : (runI (xs.take k) m).2.length = k := by
   have h := runI_len (xs.take k) (m, []);have h2 : (xs.take k).length = k := by rw [List.length_take, Nat.min_eq_left hk]
   rw [h2] at h;exact h.trans (by simp)
  have HO := hid9 (HB.out k hk);by_cases hlt : k < xs.length
  ·obtain ⟨x, hx⟩ := some_of_lt hlt;obtain ⟨b, off, hab, c0, c1, c2, c3, c4, c5, c6⟩ := readStep (HR.out _ _ _ _ _ HL.out.j) (Below.refl _ _) hx;subst hab;have p1 : (0 : Int) ≤ (k : Int) := by omega
   have p2 : (k : Int) < (xs.length : Int) := by omega
   obtain ⟨sp, sc⟩ := HOK.out x (List.mem_of_getElem? hx);obtain ⟨m2, an, F⟩ : ∃ aa bb, (callP x.proc x.call).run (runI (xs.take k) m).1 = (aa, bb) := ⟨_, _, rfl⟩;have HS := hid9 (show runI (xs.take (k + 1)) m = (m2, (runI (xs.take k) m).2 ++ [an]) from by rw [take_snoc_of hx, runI_snoc]; unfold stepI; rw [F]);obtain ⟨mk, hmk⟩ : ∃ mk, (runI (xs.take k) m).1 = mk := ⟨_, rfl⟩;obtain ⟨ol, hol⟩ : ∃ ol, (runI (xs.take k) m).2 = ol := ⟨_, rfl⟩;rw [hol] at hlk HS HL;rw [hmk] at HL HO F;have HX := hid9 hx;obtain ⟨W1, hW1⟩ : ∃ W1, W1 = wr.alloc (.cells #[.int .i64 x.proc, .int .i64 x.call.kind, .string x.call.name, .string x.call.dest, .int .i64 x.call.a, .int .i64 x.call.b, .string x.call.text] 45) := ⟨_, rfl⟩;have H1 := hid9 (HL.out.below (show Below wr.heap.size wr W1 from by rw [hW1]; exact bel9));have KD := hid9 (pDo_c p base y1 y2 y3 mk m2 an x.proc x.call W1 H1.out.j.at_ HO.out sp sc (fun X hX => HTT.out _ _ _ _ _ H1.out.j X hX) F);rw [hW1] at H1 KD;clear hmk hol F hx hlt HO HL sp sc hW1;go_wp2_with fail;refine KD.out.mono ?_;rintro e w2 ⟨r1, r2, r3, rfl, hm, hg, q1, q2, q3⟩;have KA := hid9 (H1.out.next hm hg q1 q2 q3);have hszk := KA.out.j.gr.size;clear hm hg q1 q2 q3 H1 KD c0 c1 c2 c3 c4 c5 c6;go_wp2_with (at_builtin; refine wpList_append_own2 _ rfl _ _ 61 rfl w.heap.size 28 i0 _ 3 32 underlying61 HI.out HZ.out.1 HZ.out.2.1 HZ.out.2.2 rfl (by decide) _ _ _ rfl (KA.out.o.alloc _) ⟨w2.heap.size, 0, none⟩ 1 1 (encA an) rfl rfl (box_news (Box.new _ (encA an) _)) (encA_one an) (by unfold maxLen; omega) (by omega) (by simp; omega) ?_);intro v' w' o2 g2 or2;have HN := hid9 (RAt.app (ol2 := ol ++ [an]) (KA.out.below (show Below w2.heap.size w2 (w2.alloc (.cells (encA an).toArray 28)) from bel9)) g2 or2 (by rw [List.length_append, List.flatMap_append, hlk]; exact (by simpa using o2)));clear o2 g2 or2 KA;go_wp2;go_roundw
   case rel => exact ⟨k + 1, by omega, by go_num, hid9 ⟨r1, r2, r3, by rw [HS.out]; exact HN.out⟩⟩
   case measure => simp [intOf]; omega
  ·obtain rfl : k = xs.length := by omega
   have p2 : ¬ ((xs.length : Nat) : Int) < (xs.length : Int) := by omega
   rw [List.take_length] at HL hlk;obtain ⟨ao, co, hvo, _⟩ := reads_of_owns (enc := encA) (K := 3) encA_len HL.out.o;subst hvo;have HEND := hid9 (show MAnss p base v1 v2 v3 (runI xs m).1 (runI xs m).2 w (.returned (.slice ao (runI xs m).2.length co)) wr from ⟨_, _, _, ao, co, rfl, HL.out⟩);clear HL HO hlk;go_wp2;go_ret;exact HEND.out
end
end Go.Proofs.YtihghflppegnmaaGreatDoor
