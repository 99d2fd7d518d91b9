/- Contracts of the reference's draws of calls. Conditions: the bytes came in as a slice; the cursor is the run's own. -/
import Derived.Test.YtedbmmoddemngaaDoorDrawS
import Derived.Test.YtedbmmoddemngaaDoorPlaces
import Derived.Test.YtedbmmoddemngaaDoorToldI
namespace Go.Proofs.YtedbmmoddemngaaDoor
open Go.ChangeShapes Go.WideShapes Go.ChangeAt Go.RowKit
attribute [local go_sem ↓] Go.wp_at_zero Go.wp_at_succ
theorem Cur.grown {w0 w w' : World} {c b : Nat} (h : Cur w0 w c) (hg : w.grownBy w' (some b)) (hne : b ≠ c) (hb : w0.heap.size ≤ b) : Cur w0 w' c := by
  have hlt := h.lt
  obtain ⟨a, len, cap, z, i, x, h1, h2, h3, h4, h5⟩ := h
  exact ⟨a, len, cap, z, i, x, h1, h2, ⟨hg.os.trans h3.os, hg.tape.trans h3.tape, hg.output.trans h3.output, Nat.le_trans h3.size hg.size, fun k hk => (hg.block k (Nat.lt_of_lt_of_le hk h3.size) (fun e => by cases e; omega)).trans (h3.block k hk)⟩, h4, (hg.block c hlt (fun e => by cases e; exact hne rfl)).trans h5⟩
theorem grown_above {w W w' : World} {c b : Nat} (h1 : w.grownBy W (some c)) (h2 : W.grownBy w' (some b)) (hb : w.heap.size ≤ b) : w.grownBy w' (some c) :=
  ⟨h2.os.trans h1.os, h2.tape.trans h1.tape, h2.output.trans h1.output, Nat.le_trans h1.size h2.size, fun k hk hne => (h2.block k (Nat.lt_of_lt_of_le hk h1.size) (fun e => by cases e; omega)).trans (h1.block k hk hne)⟩
theorem grown_setCell (w : World) (b i : Nat) (v : Value) : w.grownBy (w.setCell ⟨b, i, none⟩ v) (some b) := grownBy_setCell w b i v
theorem Box.grown {w w' : World} {b c : Nat} {xs : List Value} (h : Box w b xs) (hg : w.grownBy w' (some c)) (hne : b ≠ c) : Box w' b xs :=
  ⟨Nat.lt_of_lt_of_le h.1 hg.size, h.2.elim fun T hT => ⟨T, (hg.block b h.1 (fun e => by cases e; exact hne rfl)).trans hT⟩⟩
def fieldsV (k : Int) (n d : ByteArray) (a b : Int) (t : ByteArray) : List Value := [.int .i64 k, .string n, .string d, .int .i64 a, .int .i64 b, .string t]
abbrev zeroV : List Value := fieldsV 0 ⟨#[]⟩ ⟨#[]⟩ 0 0 ⟨#[]⟩
/-- A call with texts of at most a hundred bytes. -/
def IsCal (v : Value) (_ : World) : Prop := ∃ (k : Int) (n d : ByteArray) (a b : Int) (t : ByteArray), v = .agg #[.int .i64 k, .string n, .string d, .int .i64 a, .int .i64 b, .string t] ∧ n.size ≤ 100 ∧ d.size ≤ 100 ∧ t.size ≤ 100
/-- Where a draw of a call stands: the cursor, the box of the result, the box of the call. -/
structure St (w0 w : World) (c r bx : Nat) (xs : List Value) (W : World) : Prop where
  cur : Cur w0 W c
  gr : w.grownBy W (some c)
  rb : Box W r zeroV
  xb : Box W bx xs
  hr : w.heap.size ≤ r
  hx : w.heap.size ≤ bx
  ne : r ≠ bx
  hc : c < w.heap.size
  hw : w0.heap.size ≤ w.heap.size
theorem St.draw {w0 w W W2 : World} {c r bx : Nat} {xs : List Value} (h : St w0 w c r bx xs W) (hc2 : Cur w0 W2 c) (hg2 : W.grownBy W2 (some c)) : St w0 w c r bx xs W2 :=
  ⟨hc2, grownBy_trans h.gr hg2, h.rb.grown hg2 (by have := h.hr; have := h.hc; omega), h.xb.grown hg2 (by have := h.hx; have := h.hc; omega), h.hr, h.hx, h.ne, h.hc, h.hw⟩
theorem St.below {w0 w W W2 : World} {c r bx : Nat} {xs : List Value} (h : St w0 w c r bx xs W) (hb : Below W.heap.size W W2) : St w0 w c r bx xs W2 :=
  ⟨h.cur.below hb, grownBy_below2 h.gr hb, h.rb.below hb, h.xb.below hb, h.hr, h.hx, h.ne, h.hc, h.hw⟩
theorem St.set {w0 w W : World} {c r bx : Nat} {xs : List Value} (h : St w0 w c r bx xs W) (i : Nat) (v : Value) {ys : List Value} (hy : xs.set i v = ys) : St w0 w c r bx ys (W.setCell ⟨bx, i, none⟩ v) := by
  subst hy
  have h1 := h.hx; have h2 := h.hc; have h3 := h.hw
  exact ⟨h.cur.grown (grown_setCell W bx i v) (by omega) (by omega), grown_above h.gr (grown_setCell W bx i v) h.hx, box_other h.rb h.ne i v, box_store h.xb i v, h.hr, h.hx, h.ne, h.hc, h.hw⟩
theorem St.last {w0 w W : World} {c r bx : Nat} {xs : List Value} (h : St w0 w c r bx xs W) (vs : List Value) : Cur w0 (sets W r 0 vs) c ∧ w.grownBy (sets W r 0 vs) (some c) := by
  have h1 := h.hr; have h2 := h.hc; have h3 := h.hw
  exact ⟨h.cur.grown (sets_grown vs W r 0) (by omega) (by omega), grown_above h.gr (sets_grown vs W r 0) h.hr⟩
theorem strIf_size (b : Bool) (s : ByteArray) : (strIf b s).size ≤ s.size := by
  cases b
  · exact Nat.zero_le _
  · exact Nat.le_refl _
theorem told_n (x : Cal) : (toldOf x).name.size ≤ x.name.size := strIf_size (useN x.kind) x.name
theorem told_d (x : Cal) : (toldOf x).dest.size ≤ x.dest.size := strIf_size (useT x.kind) x.dest
theorem told_t (x : Cal) : (toldOf x).text.size ≤ x.text.size := strIf_size (useX x.kind) x.text
/-- One of the numbers. -/
def IsOneInt (xs : List Int) (v : Value) (_ : World) : Prop := ∃ n, v = .int .i64 n ∧ n ∈ xs
theorem readFI {w wr : World} {a : Option Addr} {xs : List Int} (hr : Reads w a 1 encI xs) (hb : Below w.heap.size w wr) {k : Nat} {x : Int} (hx : xs[k]? = some x) :
    ∃ b off, a = some ⟨b, off, none⟩ ∧ wr.cell? ⟨b, off + k, none⟩ = some (.int .i64 x) := by
  rcases hr.below hb with rfl | ⟨b, off, h1, _, h3⟩
  · simp at hx
  · exact ⟨b, off, h1, by simpa using h3 k x hx 0 _ rfl⟩
theorem pickInt_c (w0 w : World) (c : Nat) (a : Option Addr) (cap : Nat) (xs : List Int) (hc : Cur w0 w c) (hlen : 0 < xs.length) (hl2 : xs.length ≤ maxLen) (hr : Reads w a 1 encI xs) (hne : ∀ b off, a = some ⟨b, off, none⟩ → b ≠ c) :
    Calls Tryd.prog 91 #[.pointer (some ⟨c, 0, none⟩), .slice a xs.length cap] w (Drawn w0 c (IsOneInt xs) w) := by
  unfold maxLen at hl2
  have K := Lib.hid (below_c w0 w c (xs.length : Int) hc (by omega))
  have HR := Lib.hid hr
  have HN := Lib.hid hne
  clear hc hr hne
  go_enter Tryd.func91, Tryd.ntmps91
  go_wp2_with fail
  refine K.out.mono ?_
  rintro e w1 ⟨v, rfl, ⟨x, rfl, x0, x1, _⟩, hc1, hg1⟩
  have hx1 := x1 (by omega)
  obtain ⟨k, rfl⟩ : ∃ k : Nat, x = (k : Int) := ⟨x.toNat, by omega⟩
  obtain ⟨y, hy⟩ := some_of_lt (xs := xs) (k := k) (by omega)
  obtain ⟨b, off, hab, c0⟩ := readFI HR.out (Below.refl _ _) hy
  have hbn := HN.out b off hab
  have c1 : w1.cell? ⟨b, off + k, none⟩ = some (.int .i64 y) := (World.cell?_of_block (hg1.block b (World.block_lt_of_cell? w _ c0) (fun e => hbn (by cases e; rfl)))).trans c0
  subst hab
  have HEND := Lib.hid (show Drawn w0 c (IsOneInt xs) w (.returned (.int .i64 y)) w1 from ⟨_, rfl, ⟨y, rfl, List.mem_of_getElem? hy⟩, hc1, hg1⟩)
  clear hc1 hg1 hy c0 x1
  go_wp2
  go_ret
  exact HEND.out
theorem readsI_new (w : World) (xs : List Int) (T : TypeId) : Reads (w.alloc (.cells (xs.flatMap encI).toArray T)) (some ⟨w.heap.size, 0, none⟩) 1 encI xs :=
  .inr ⟨w.heap.size, 0, rfl, by simp, fun i x hx j v hv => by
    have hj : j = 0 := by
      have := (List.getElem?_eq_some_iff.1 hv).1
      simp [encI] at this; omega
    subst hj
    have h := getElem_flatMap encI_len xs i 0 x hx (by decide)
    rw [Nat.zero_add]
    exact (Box.new w (xs.flatMap encI) T).cell _ v (h.trans hv)⟩
theorem pickIntN_c (w0 w : World) (c : Nat) (xs : List Int) (T : TypeId) (n N : Nat) (hn : n = xs.length) (hN : N = w.heap.size) (hc : Cur w0 w c) (hlen : 0 < xs.length) (hl2 : xs.length ≤ maxLen) :
    Calls Tryd.prog 91 #[.pointer (some ⟨c, 0, none⟩), .slice (some ⟨N, 0, none⟩) n n] (w.alloc (.cells (xs.flatMap encI).toArray T)) (Drawn w0 c (IsOneInt xs) w) := by
  subst hn hN
  refine (pickInt_c w0 _ c _ _ xs (hc.below ((Below.refl _ _).alloc (Nat.le_refl _) _)) hlen hl2 (readsI_new w xs T) (fun b off e => ?_)).mono fun e w' h => Drawn.from (grownBy_of_below ((Below.refl _ _).alloc (Nat.le_refl _) _) _) h
  cases e
  have := hc.lt
  omega
theorem pickN_c (w0 w : World) (c : Nat) (xs : List ByteArray) (T : TypeId) (n N : Nat) (hn : n = xs.length) (hN : N = w.heap.size) (hc : Cur w0 w c) (hlen : 0 < xs.length) (hl2 : xs.length ≤ maxLen) :
    Calls Tryd.prog 92 #[.pointer (some ⟨c, 0, none⟩), .slice (some ⟨N, 0, none⟩) n n] (w.alloc (.cells (xs.flatMap encS).toArray T)) (Drawn w0 c (IsOneOf xs) w) := by
  subst hN
  exact pickNew_c w0 w c xs T n hn hc hlen hl2
def kindList : List Int := [1, 1, 2, 3, 4, 5, 6, 6, 7, 7, 8, 9, 10, 10, 11, 11, 12, 13, 14, 15, 16, 17, 18, 19, 20, 21, 22, 22]
def nameList : List ByteArray := [⟨#[120]⟩, ⟨#[121]⟩, ⟨#[108, 111, 103]⟩]
def destList : List ByteArray := [⟨#[120]⟩, ⟨#[121]⟩, ⟨#[122]⟩]
theorem oddName_size : ∀ s ∈ [(⟨#[]⟩ : ByteArray), ⟨#[65]⟩, longK 21 97], s.size ≤ 100 := by decide
theorem nameList_size : ∀ s ∈ nameList, s.size ≤ 100 := by decide
theorem destList_size : ∀ s ∈ destList, s.size ≤ 100 := by decide
set_option maxRecDepth 100000 in
set_option maxHeartbeats 4000000 in
theorem call_c (w0 w : World) (c : Nat) (hc : Cur w0 w c) : Calls Tryd.prog 90 #[.pointer (some ⟨c, 0, none⟩)] w (Drawn w0 c IsCal w) := by
  have hcl := hc.lt
  have hw := hc.base.size
  have K1 := Lib.hid (pickIntN_c w0 (w.alloc (.cells zeroV.toArray 59)) c kindList 3 28 (w.heap.size + 1) rfl (by simp) (hc.below (by repeat (first | exact Below.refl _ _ | refine Below.drew ?_ | refine below_drewN ?_ _ | refine Below.allocC ?_ _ | refine Below.setCell ?_ (by first | (simp; done) | (simp; omega)) _ | refine Below.chain ?_ (by assumption)))) (by decide) (by decide))
  have HR0 := Lib.hid (Box.new w zeroV 59)
  have KN := Lib.hid (fun W N (hN : N = W.heap.size) (h : Cur w0 W c) => pickN_c w0 W c nameList 9 3 N rfl hN h (by decide) (by decide))
  have KT := Lib.hid (fun W N (hN : N = W.heap.size) (h : Cur w0 W c) => pickN_c w0 W c destList 9 3 N rfl hN h (by decide) (by decide))
  have K4 := Lib.hid (fun W (h : Cur w0 W c) => below_c w0 W c 4 h (by decide))
  have K12 := Lib.hid (fun W (h : Cur w0 W c) => below_c w0 W c 12 h (by decide))
  have KX := Lib.hid (fun W n (h : Cur w0 W c) (hn : n ≤ 5000) => text_c w0 W c n h hn)
  clear hc
  go_enter Tryd.func90, Tryd.ntmps90
  go_wp2_with fail
  refine K1.out.mono ?_
  rintro e w2 ⟨v, rfl, ⟨k, rfl, _⟩, hc2, hg2⟩
  have hs2 : w.heap.size + 1 ≤ w2.heap.size := by have := hg2.size; simpa using this
  have S2 := Lib.hid (show St w0 w c w.heap.size w2.heap.size (fieldsV k ⟨#[]⟩ ⟨#[]⟩ 0 0 ⟨#[]⟩) (w2.alloc (.cells (fieldsV k ⟨#[]⟩ ⟨#[]⟩ 0 0 ⟨#[]⟩).toArray 59)) from
    ⟨hc2.below (by repeat (first | exact Below.refl _ _ | refine Below.drew ?_ | refine below_drewN ?_ _ | refine Below.allocC ?_ _ | refine Below.setCell ?_ (by first | (simp; done) | (simp; omega)) _ | refine Below.chain ?_ (by assumption))), grownBy_below2 (grownBy_trans (grownBy_of_below (show Below w.heap.size w (w.alloc (.cells zeroV.toArray 59)) from (by repeat (first | exact Below.refl _ _ | refine Below.drew ?_ | refine below_drewN ?_ _ | refine Below.allocC ?_ _ | refine Below.setCell ?_ (by first | (simp; done) | (simp; omega)) _ | refine Below.chain ?_ (by assumption)))) _) hg2) (by repeat (first | exact Below.refl _ _ | refine Below.drew ?_ | refine below_drewN ?_ _ | refine Below.allocC ?_ _ | refine Below.setCell ?_ (by first | (simp; done) | (simp; omega)) _ | refine Below.chain ?_ (by assumption))), (HR0.out.grown hg2 (by omega)).alloc _, Box.new _ _ _, Nat.le_refl _, by omega, by omega, hcl, hw⟩)
  have hb2 := Lib.hid (show w2.heap.size + 1 = (w2.alloc (.cells (fieldsV k ⟨#[]⟩ ⟨#[]⟩ 0 0 ⟨#[]⟩).toArray 59)).heap.size by simp)
  clear hc2 hg2 K1 HR0
  go_wp2_with fail

  refine (KN.out _ _ hb2.out S2.out.cur).mono ?_
  rintro e w3 ⟨v, rfl, ⟨s1, rfl, hs1⟩, hc3, hg3⟩
  have S3 := Lib.hid (S2.out.draw hc3 hg3)
  have T1 := Lib.hid (nameList_size s1 hs1)
  clear hc3 hg3 S2 hb2 hs1
  have f1 := S3.out.xb.cell 1 _ rfl
  have z1 := S3.out.xb.free 1
  have S4 := Lib.hid (S3.out.set 1 (.string s1) (ys := fieldsV k s1 ⟨#[]⟩ 0 0 ⟨#[]⟩) rfl)
  have hb4 := Lib.hid (show w3.heap.size = (w3.setCell ⟨w2.heap.size, 1, none⟩ (.string s1)).heap.size by simp)
  clear S3
  go_wp2_with fail
  refine (KT.out _ _ hb4.out S4.out.cur).mono ?_
  rintro e w5 ⟨v, rfl, ⟨s2, rfl, hs2'⟩, hc5, hg5⟩
  have S5 := Lib.hid (S4.out.draw hc5 hg5)
  have T2 := Lib.hid (destList_size s2 hs2')
  clear hc5 hg5 S4 hb4 hs2' f1 z1
  have f2 := S5.out.xb.cell 2 _ rfl
  have z2 := S5.out.xb.free 2
  have S6 := Lib.hid (S5.out.set 2 (.string s2) (ys := fieldsV k s1 s2 0 0 ⟨#[]⟩) rfl)
  clear S5
  go_wp2_with fail
  refine (K4.out _ S6.out.cur).mono ?_
  rintro e w7 ⟨v, rfl, ⟨x3, rfl, _⟩, hc7, hg7⟩
  have S7 := Lib.hid (S6.out.draw hc7 hg7)
  clear hc7 hg7 S6 f2 z2
  have f3 := S7.out.xb.cell 3 _ rfl
  have z3 := S7.out.xb.free 3
  have S8 := Lib.hid (S7.out.set 3 (.int .i64 x3) (ys := fieldsV k s1 s2 x3 0 ⟨#[]⟩) rfl)
  clear S7
  go_wp2_with fail
  refine (K12.out _ S8.out.cur).mono ?_
  rintro e w9 ⟨v, rfl, ⟨x4, rfl, x40, x41, _⟩, hc9, hg9⟩
  have x42 := x41 (by decide)
  have S9 := Lib.hid (S8.out.draw hc9 hg9)
  clear hc9 hg9 S8 f3 z3 x41
  have hwx : IntKind.i64.wrap (1 + x4) = 1 + x4 := by rw [IntKind.wrap_i64]; omega
  have f4 := S9.out.xb.cell 4 _ rfl
  have z4 := S9.out.xb.free 4
  have S10 := Lib.hid (S9.out.set 4 (.int .i64 (1 + x4)) (ys := fieldsV k s1 s2 x3 (1 + x4) ⟨#[]⟩) rfl)
  clear S9
  go_wp2_with fail
  refine (K12.out _ S10.out.cur).mono ?_
  rintro e w11 ⟨v, rfl, ⟨x5, rfl, x50, x51, _⟩, hc11, hg11⟩
  have x52 := x51 (by decide)
  have S11 := Lib.hid (S10.out.draw hc11 hg11)
  clear hc11 hg11 S10 f4 z4 hwx x51
  go_wp2_with fail
  refine (KX.out _ x5 S11.out.cur (by omega)).mono ?_
  rintro e w12 ⟨v, rfl, ⟨t, rfl, ht⟩, hc12, hg12⟩
  have S12 := Lib.hid (S11.out.draw hc12 hg12)
  have T3 := Lib.hid (show t.size ≤ 100 by omega)
  clear hc12 hg12 S11 ht
  have f5 := S12.out.xb.cell 5 _ rfl
  have z5 := S12.out.xb.free 5
  have S13 := Lib.hid (S12.out.set 5 (.string t) (ys := fieldsV k s1 s2 x3 (1 + x4) t) rfl)
  have f0 : w12.cell? ⟨w2.heap.size, 0, none⟩ = some (.int .i64 k) := S12.out.xb.cell 0 _ rfl

  by_cases h6 : k = 6
  · subst h6
    go_wp2_with fail
    refine (K12.out _ S13.out.cur).mono ?_
    rintro e w14 ⟨v, rfl, ⟨x6, rfl, _⟩, hc14, hg14⟩
    have S14 := Lib.hid (S13.out.draw hc14 hg14)
    clear hc14 hg14 S13 S12 f0 f5 z5
    have f0 := S14.out.xb.cell 0 _ rfl
    have f1 := S14.out.xb.cell 1 _ rfl
    have f2 := S14.out.xb.cell 2 _ rfl
    have f3 := S14.out.xb.cell 3 _ rfl
    have f4 := S14.out.xb.cell 4 _ rfl
    have f5 := S14.out.xb.cell 5 _ rfl
    have z3 := S14.out.xb.free 3
    have S15 := Lib.hid (S14.out.set 3 (.int .i64 x6) (ys := fieldsV 6 s1 s2 x6 (1 + x4) t) rfl)
    clear S14

    obtain ⟨y, hy⟩ : ∃ y, toldOf ⟨6, s1, s2, x6, 1 + x4, t⟩ = y := ⟨_, rfl⟩
    have KT2 := Lib.hid (fun W => specTold_c ⟨6, s1, s2, x6, 1 + x4, t⟩ W)
    have HN := Lib.hid (show y.name.size ≤ 100 from by rw [← hy]; exact Nat.le_trans (told_n _) T1.out)
    have HD := Lib.hid (show y.dest.size ≤ 100 from by rw [← hy]; exact Nat.le_trans (told_d _) T2.out)
    have HX := Lib.hid (show y.text.size ≤ 100 from by rw [← hy]; exact Nat.le_trans (told_t _) T3.out)
    rw [hy] at KT2
    clear hy
    obtain ⟨yk, yn, yd, ya, yb, yt⟩ := y
    dsimp only at KT2 HN HD HX
    go_wp2_with fail
    refine (KT2.out _).mono ?_
    rintro e w16 ⟨rfl, hb16⟩
    have S16 := Lib.hid (S15.out.below hb16)
    have HEND := Lib.hid (show Drawn w0 c IsCal w (.returned (.agg #[.int .i64 yk, .string yn, .string yd, .int .i64 ya, .int .i64 yb, .string yt])) (sets w16 w.heap.size 0 (fieldsV yk yn yd ya yb yt)) from ⟨_, rfl, ⟨yk, yn, yd, ya, yb, yt, rfl, HN.out, HD.out, HX.out⟩, (S16.out.last _).1, (S16.out.last _).2⟩)
    clear hb16 f0 f1 f2 f3 f4 f5 z3
    have r0 : w16.cell? ⟨w.heap.size, 0, none⟩ = some (.int .i64 0) := S16.out.rb.cell 0 _ rfl
    have y0 := S16.out.rb.free 0
    have r1 : w16.cell? ⟨w.heap.size, 1, none⟩ = some (.string ⟨#[]⟩) := S16.out.rb.cell 1 _ rfl
    have y1 := S16.out.rb.free 1
    have r2 : w16.cell? ⟨w.heap.size, 2, none⟩ = some (.string ⟨#[]⟩) := S16.out.rb.cell 2 _ rfl
    have y2 := S16.out.rb.free 2
    have r3 : w16.cell? ⟨w.heap.size, 3, none⟩ = some (.int .i64 0) := S16.out.rb.cell 3 _ rfl
    have y3 := S16.out.rb.free 3
    have r4 : w16.cell? ⟨w.heap.size, 4, none⟩ = some (.int .i64 0) := S16.out.rb.cell 4 _ rfl
    have y4 := S16.out.rb.free 4
    have r5 : w16.cell? ⟨w.heap.size, 5, none⟩ = some (.string ⟨#[]⟩) := S16.out.rb.cell 5 _ rfl
    have y5 := S16.out.rb.free 5
    go_wp2
    exact bodyPost_ret (v := .agg #[.int .i64 yk, .string yn, .string yd, .int .i64 ya, .int .i64 yb, .string yt]) (by simp [results, Tryd.results90, go_sem, *]) rfl HEND.out

  · have hk6 : (k == 6) = false := by rw [beq_eq_false_iff_ne]; exact h6
    have f1 := S12.out.xb.cell 1 _ rfl
    have f2 := S12.out.xb.cell 2 _ rfl
    have f3 := S12.out.xb.cell 3 _ rfl
    have f4 := S12.out.xb.cell 4 _ rfl
    clear S12

    obtain ⟨y, hy⟩ : ∃ y, toldOf ⟨k, s1, s2, x3, 1 + x4, t⟩ = y := ⟨_, rfl⟩
    have KT2 := Lib.hid (fun W => specTold_c ⟨k, s1, s2, x3, 1 + x4, t⟩ W)
    have HN := Lib.hid (show y.name.size ≤ 100 from by rw [← hy]; exact Nat.le_trans (told_n _) T1.out)
    have HD := Lib.hid (show y.dest.size ≤ 100 from by rw [← hy]; exact Nat.le_trans (told_d _) T2.out)
    have HX := Lib.hid (show y.text.size ≤ 100 from by rw [← hy]; exact Nat.le_trans (told_t _) T3.out)
    rw [hy] at KT2
    clear hy
    obtain ⟨yk, yn, yd, ya, yb, yt⟩ := y
    dsimp only at KT2 HN HD HX
    go_wp2_with fail
    refine (KT2.out _).mono ?_
    rintro e w16 ⟨rfl, hb16⟩
    have S16 := Lib.hid (S13.out.below hb16)
    have HEND := Lib.hid (show Drawn w0 c IsCal w (.returned (.agg #[.int .i64 yk, .string yn, .string yd, .int .i64 ya, .int .i64 yb, .string yt])) (sets w16 w.heap.size 0 (fieldsV yk yn yd ya yb yt)) from ⟨_, rfl, ⟨yk, yn, yd, ya, yb, yt, rfl, HN.out, HD.out, HX.out⟩, (S16.out.last _).1, (S16.out.last _).2⟩)
    clear hb16 f0 f1 f2 f3 f4 f5 z5
    have r0 : w16.cell? ⟨w.heap.size, 0, none⟩ = some (.int .i64 0) := S16.out.rb.cell 0 _ rfl
    have y0 := S16.out.rb.free 0
    have r1 : w16.cell? ⟨w.heap.size, 1, none⟩ = some (.string ⟨#[]⟩) := S16.out.rb.cell 1 _ rfl
    have y1 := S16.out.rb.free 1
    have r2 : w16.cell? ⟨w.heap.size, 2, none⟩ = some (.string ⟨#[]⟩) := S16.out.rb.cell 2 _ rfl
    have y2 := S16.out.rb.free 2
    have r3 : w16.cell? ⟨w.heap.size, 3, none⟩ = some (.int .i64 0) := S16.out.rb.cell 3 _ rfl
    have y3 := S16.out.rb.free 3
    have r4 : w16.cell? ⟨w.heap.size, 4, none⟩ = some (.int .i64 0) := S16.out.rb.cell 4 _ rfl
    have y4 := S16.out.rb.free 4
    have r5 : w16.cell? ⟨w.heap.size, 5, none⟩ = some (.string ⟨#[]⟩) := S16.out.rb.cell 5 _ rfl
    have y5 := S16.out.rb.free 5
    go_wp2
    exact bodyPost_ret (v := .agg #[.int .i64 yk, .string yn, .string yd, .int .i64 ya, .int .i64 yb, .string yt]) (by simp [results, Tryd.results90, go_sem, *]) rfl HEND.out

set_option maxRecDepth 100000 in
set_option maxHeartbeats 4000000 in
theorem anyCall_c (w0 w : World) (c : Nat) (hc : Cur w0 w c) : Calls Tryd.prog 75 #[.pointer (some ⟨c, 0, none⟩)] w (Drawn w0 c IsCal w) := by
  have hcl := hc.lt
  have hw := hc.base.size
  have K1 := Lib.hid (call_c w0 (w.alloc (.cells zeroV.toArray 59)) c (hc.below (by repeat (first | exact Below.refl _ _ | refine Below.drew ?_ | refine below_drewN ?_ _ | refine Below.allocC ?_ _ | refine Below.setCell ?_ (by first | (simp; done) | (simp; omega)) _ | refine Below.chain ?_ (by assumption)))))
  have HR0 := Lib.hid (Box.new w zeroV 59)
  have K12 := Lib.hid (fun W (h : Cur w0 W c) => below_c w0 W c 12 h (by decide))
  have K46 := Lib.hid (fun W (h : Cur w0 W c) => below_c w0 W c 46 h (by decide))
  have KP0 := Lib.hid (fun W N (hN : N = W.heap.size) (h : Cur w0 W c) => pickIntN_c w0 W c [0, 23, -1, 5] 3 4 N rfl hN h (by decide) (by decide))
  have KP2 := Lib.hid (fun W N (hN : N = W.heap.size) (h : Cur w0 W c) => pickIntN_c w0 W c [-1, 99, 9223372036854775807, -9223372036854775808] 3 4 N rfl hN h (by decide) (by decide))
  have KP4 := Lib.hid (fun W N (hN : N = W.heap.size) (h : Cur w0 W c) => pickIntN_c w0 W c [0, -1, 9223372036854775807] 3 3 N rfl hN h (by decide) (by decide))
  have KP1 := Lib.hid (fun W N (hN : N = W.heap.size) (h : Cur w0 W c) => pickN_c w0 W c [⟨#[]⟩, ⟨#[65]⟩, longK 21 97] 9 3 N rfl hN h (by decide) (by decide))
  have KL1 := Lib.hid (fun W => (show Calls Tryd.prog 93 #[.int .i64 21, .int .u8 97] W fun e w' => e = .returned (.string (longK 21 97)) ∧ Below W.heap.size W w' from long_c 21 97 W (by decide)))
  clear hc
  go_enter Tryd.func75, Tryd.ntmps75
  go_wp2_with fail
  refine K1.out.mono ?_
  rintro e w1 ⟨v, rfl, ⟨k, n, d, a, b, t, rfl, hn, hd, ht⟩, hc1, hg1⟩
  have T1 := Lib.hid hn
  have T2 := Lib.hid hd
  have T3 := Lib.hid ht
  have hs1 : w.heap.size + 1 ≤ w1.heap.size := by have := hg1.size; simpa using this
  have S1 := Lib.hid (show St w0 w c w.heap.size w1.heap.size (fieldsV k n d a b t) (w1.alloc (.cells (fieldsV k n d a b t).toArray 59)) from
    ⟨hc1.below (by repeat (first | exact Below.refl _ _ | refine Below.drew ?_ | refine below_drewN ?_ _ | refine Below.allocC ?_ _ | refine Below.setCell ?_ (by first | (simp; done) | (simp; omega)) _ | refine Below.chain ?_ (by assumption))), grownBy_below2 (grownBy_trans (grownBy_of_below (show Below w.heap.size w (w.alloc (.cells zeroV.toArray 59)) from (by repeat (first | exact Below.refl _ _ | refine Below.drew ?_ | refine below_drewN ?_ _ | refine Below.allocC ?_ _ | refine Below.setCell ?_ (by first | (simp; done) | (simp; omega)) _ | refine Below.chain ?_ (by assumption)))) _) hg1) (by repeat (first | exact Below.refl _ _ | refine Below.drew ?_ | refine below_drewN ?_ _ | refine Below.allocC ?_ _ | refine Below.setCell ?_ (by first | (simp; done) | (simp; omega)) _ | refine Below.chain ?_ (by assumption))), (HR0.out.grown hg1 (by omega)).alloc _, Box.new _ _ _, Nat.le_refl _, by omega, by omega, hcl, hw⟩)
  clear hc1 hg1 K1 HR0 hn hd ht
  go_wp2_with fail
  refine (K12.out _ S1.out.cur).mono ?_
  rintro e w2 ⟨v, rfl, ⟨m, rfl, m0, _, _⟩, hc2, hg2⟩
  have S2 := Lib.hid (S1.out.draw hc2 hg2)
  clear hc2 hg2 S1
  rcases (show m = 0 ∨ m = 1 ∨ m = 2 ∨ m = 3 ∨ m = 4 ∨ 4 < m by omega) with rfl | rfl | rfl | rfl | rfl | hm

  · go_wp2_with fail
    refine (KP0.out _ _ rfl S2.out.cur).mono ?_
    rintro e w3 ⟨v, rfl, ⟨q, rfl, hq⟩, hc3, hg3⟩
    have S3 := Lib.hid (S2.out.draw hc3 hg3)
    clear hc3 hg3 S2 hq
    have f0 := S3.out.xb.cell 0 _ rfl
    have f1 := S3.out.xb.cell 1 _ rfl
    have f2 := S3.out.xb.cell 2 _ rfl
    have f3 := S3.out.xb.cell 3 _ rfl
    have f4 := S3.out.xb.cell 4 _ rfl
    have f5 := S3.out.xb.cell 5 _ rfl
    have z0 := S3.out.xb.free 0
    have S4 := Lib.hid (S3.out.set 0 (.int .i64 q) (ys := fieldsV q n d a b t) rfl)
    have r0 : w3.cell? ⟨w.heap.size, 0, none⟩ = some (.int .i64 0) := S3.out.rb.cell 0 _ rfl
    have y0 := S3.out.rb.free 0
    have r1 : w3.cell? ⟨w.heap.size, 1, none⟩ = some (.string ⟨#[]⟩) := S3.out.rb.cell 1 _ rfl
    have y1 := S3.out.rb.free 1
    have r2 : w3.cell? ⟨w.heap.size, 2, none⟩ = some (.string ⟨#[]⟩) := S3.out.rb.cell 2 _ rfl
    have y2 := S3.out.rb.free 2
    have r3 : w3.cell? ⟨w.heap.size, 3, none⟩ = some (.int .i64 0) := S3.out.rb.cell 3 _ rfl
    have y3 := S3.out.rb.free 3
    have r4 : w3.cell? ⟨w.heap.size, 4, none⟩ = some (.int .i64 0) := S3.out.rb.cell 4 _ rfl
    have y4 := S3.out.rb.free 4
    have r5 : w3.cell? ⟨w.heap.size, 5, none⟩ = some (.string ⟨#[]⟩) := S3.out.rb.cell 5 _ rfl
    have y5 := S3.out.rb.free 5
    have HEND := Lib.hid (fun W (h : St w0 w c w.heap.size w1.heap.size (fieldsV (q) (n) (d) (a) (b) (t)) W) => (show Drawn w0 c IsCal w (.returned (.agg #[.int .i64 q, .string n, .string d, .int .i64 a, .int .i64 b, .string t])) (sets W w.heap.size 0 (fieldsV (q) (n) (d) (a) (b) (t))) from ⟨_, rfl, ⟨q, n, d, a, b, t, rfl, T1.out, T2.out, T3.out⟩, (h.last _).1, (h.last _).2⟩))
    go_wp2
    exact bodyPost_ret (v := .agg #[.int .i64 q, .string n, .string d, .int .i64 a, .int .i64 b, .string t]) (by simp [results, Tryd.results75, go_sem, *]) rfl (HEND.out _ S4.out)

  · go_wp2_with fail
    refine (KL1.out _).mono ?_
    rintro e w9 ⟨rfl, hb9⟩
    replace S2 := Lib.hid (S2.out.below hb9)
    clear hb9
    go_wp2_with fail
    refine (KP1.out _ _ rfl S2.out.cur).mono ?_
    rintro e w3 ⟨v, rfl, ⟨q, rfl, hq⟩, hc3, hg3⟩
    have S3 := Lib.hid (S2.out.draw hc3 hg3)
    have TQ := Lib.hid (show q.size ≤ 100 from oddName_size q hq)
    clear hc3 hg3 S2 hq
    have f0 := S3.out.xb.cell 0 _ rfl
    have f1 := S3.out.xb.cell 1 _ rfl
    have f2 := S3.out.xb.cell 2 _ rfl
    have f3 := S3.out.xb.cell 3 _ rfl
    have f4 := S3.out.xb.cell 4 _ rfl
    have f5 := S3.out.xb.cell 5 _ rfl
    have z1 := S3.out.xb.free 1
    have S4 := Lib.hid (S3.out.set 1 (.string q) (ys := fieldsV k q d a b t) rfl)
    have r0 : w3.cell? ⟨w.heap.size, 0, none⟩ = some (.int .i64 0) := S3.out.rb.cell 0 _ rfl
    have y0 := S3.out.rb.free 0
    have r1 : w3.cell? ⟨w.heap.size, 1, none⟩ = some (.string ⟨#[]⟩) := S3.out.rb.cell 1 _ rfl
    have y1 := S3.out.rb.free 1
    have r2 : w3.cell? ⟨w.heap.size, 2, none⟩ = some (.string ⟨#[]⟩) := S3.out.rb.cell 2 _ rfl
    have y2 := S3.out.rb.free 2
    have r3 : w3.cell? ⟨w.heap.size, 3, none⟩ = some (.int .i64 0) := S3.out.rb.cell 3 _ rfl
    have y3 := S3.out.rb.free 3
    have r4 : w3.cell? ⟨w.heap.size, 4, none⟩ = some (.int .i64 0) := S3.out.rb.cell 4 _ rfl
    have y4 := S3.out.rb.free 4
    have r5 : w3.cell? ⟨w.heap.size, 5, none⟩ = some (.string ⟨#[]⟩) := S3.out.rb.cell 5 _ rfl
    have y5 := S3.out.rb.free 5
    have HEND := Lib.hid (fun W (h : St w0 w c w.heap.size w1.heap.size (fieldsV (k) (q) (d) (a) (b) (t)) W) => (show Drawn w0 c IsCal w (.returned (.agg #[.int .i64 k, .string q, .string d, .int .i64 a, .int .i64 b, .string t])) (sets W w.heap.size 0 (fieldsV (k) (q) (d) (a) (b) (t))) from ⟨_, rfl, ⟨k, q, d, a, b, t, rfl, TQ.out, T2.out, T3.out⟩, (h.last _).1, (h.last _).2⟩))
    go_wp2
    exact bodyPost_ret (v := .agg #[.int .i64 k, .string q, .string d, .int .i64 a, .int .i64 b, .string t]) (by simp [results, Tryd.results75, go_sem, *]) rfl (HEND.out _ S4.out)

  · go_wp2_with fail
    refine (KP2.out _ _ rfl S2.out.cur).mono ?_
    rintro e w3 ⟨v, rfl, ⟨q, rfl, hq⟩, hc3, hg3⟩
    have S3 := Lib.hid (S2.out.draw hc3 hg3)
    clear hc3 hg3 S2 hq
    have f0 := S3.out.xb.cell 0 _ rfl
    have f1 := S3.out.xb.cell 1 _ rfl
    have f2 := S3.out.xb.cell 2 _ rfl
    have f3 := S3.out.xb.cell 3 _ rfl
    have f4 := S3.out.xb.cell 4 _ rfl
    have f5 := S3.out.xb.cell 5 _ rfl
    have z3 := S3.out.xb.free 3
    have S4 := Lib.hid (S3.out.set 3 (.int .i64 q) (ys := fieldsV k n d q b t) rfl)
    have r0 : w3.cell? ⟨w.heap.size, 0, none⟩ = some (.int .i64 0) := S3.out.rb.cell 0 _ rfl
    have y0 := S3.out.rb.free 0
    have r1 : w3.cell? ⟨w.heap.size, 1, none⟩ = some (.string ⟨#[]⟩) := S3.out.rb.cell 1 _ rfl
    have y1 := S3.out.rb.free 1
    have r2 : w3.cell? ⟨w.heap.size, 2, none⟩ = some (.string ⟨#[]⟩) := S3.out.rb.cell 2 _ rfl
    have y2 := S3.out.rb.free 2
    have r3 : w3.cell? ⟨w.heap.size, 3, none⟩ = some (.int .i64 0) := S3.out.rb.cell 3 _ rfl
    have y3 := S3.out.rb.free 3
    have r4 : w3.cell? ⟨w.heap.size, 4, none⟩ = some (.int .i64 0) := S3.out.rb.cell 4 _ rfl
    have y4 := S3.out.rb.free 4
    have r5 : w3.cell? ⟨w.heap.size, 5, none⟩ = some (.string ⟨#[]⟩) := S3.out.rb.cell 5 _ rfl
    have y5 := S3.out.rb.free 5
    have HEND := Lib.hid (fun W (h : St w0 w c w.heap.size w1.heap.size (fieldsV (k) (n) (d) (q) (b) (t)) W) => (show Drawn w0 c IsCal w (.returned (.agg #[.int .i64 k, .string n, .string d, .int .i64 q, .int .i64 b, .string t])) (sets W w.heap.size 0 (fieldsV (k) (n) (d) (q) (b) (t))) from ⟨_, rfl, ⟨k, n, d, q, b, t, rfl, T1.out, T2.out, T3.out⟩, (h.last _).1, (h.last _).2⟩))
    go_wp2
    exact bodyPost_ret (v := .agg #[.int .i64 k, .string n, .string d, .int .i64 q, .int .i64 b, .string t]) (by simp [results, Tryd.results75, go_sem, *]) rfl (HEND.out _ S4.out)

  · go_wp2_with fail
    refine (K46.out _ S2.out.cur).mono ?_
    rintro e w3 ⟨v, rfl, ⟨q, rfl, q0, q1, _⟩, hc3, hg3⟩
    have q2 := q1 (by decide)
    have S3 := Lib.hid (S2.out.draw hc3 hg3)
    clear hc3 hg3 S2 q1
    have hwq : IntKind.i64.wrap (20 + q) = 20 + q := by rw [IntKind.wrap_i64]; omega
    obtain ⟨j, rfl⟩ : ∃ j : Nat, q = (j : Int) := ⟨q.toNat, by omega⟩
    have KL3 := Lib.hid (fun W => (show Calls Tryd.prog 93 #[.int .i64 (20 + (j : Int)), .int .u8 5] W fun e w' => e = .returned (.string (longK (20 + j) 5)) ∧ Below W.heap.size W w' from by
      have := long_c (20 + j) 5 W (by omega)
      rwa [show ((20 + j : Nat) : Int) = 20 + (j : Int) by omega] at this))
    have TQ := Lib.hid (show (longK (20 + j) 5).size ≤ 100 by rw [longK_size]; omega)
    go_wp2_with fail
    refine (KL3.out _).mono ?_
    rintro e w4 ⟨rfl, hb4⟩
    have S4 := Lib.hid (S3.out.below hb4)
    clear hb4 S3 KL3
    generalize longK (20 + j) 5 = q at *
    have f0 := S4.out.xb.cell 0 _ rfl
    have f1 := S4.out.xb.cell 1 _ rfl
    have f2 := S4.out.xb.cell 2 _ rfl
    have f3 := S4.out.xb.cell 3 _ rfl
    have f4 := S4.out.xb.cell 4 _ rfl
    have f5 := S4.out.xb.cell 5 _ rfl
    have z5 := S4.out.xb.free 5
    have S5 := Lib.hid (S4.out.set 5 (.string q) (ys := fieldsV k n d a b q) rfl)
    have r0 : w4.cell? ⟨w.heap.size, 0, none⟩ = some (.int .i64 0) := S4.out.rb.cell 0 _ rfl
    have y0 := S4.out.rb.free 0
    have r1 : w4.cell? ⟨w.heap.size, 1, none⟩ = some (.string ⟨#[]⟩) := S4.out.rb.cell 1 _ rfl
    have y1 := S4.out.rb.free 1
    have r2 : w4.cell? ⟨w.heap.size, 2, none⟩ = some (.string ⟨#[]⟩) := S4.out.rb.cell 2 _ rfl
    have y2 := S4.out.rb.free 2
    have r3 : w4.cell? ⟨w.heap.size, 3, none⟩ = some (.int .i64 0) := S4.out.rb.cell 3 _ rfl
    have y3 := S4.out.rb.free 3
    have r4 : w4.cell? ⟨w.heap.size, 4, none⟩ = some (.int .i64 0) := S4.out.rb.cell 4 _ rfl
    have y4 := S4.out.rb.free 4
    have r5 : w4.cell? ⟨w.heap.size, 5, none⟩ = some (.string ⟨#[]⟩) := S4.out.rb.cell 5 _ rfl
    have y5 := S4.out.rb.free 5
    have HEND := Lib.hid (fun W (h : St w0 w c w.heap.size w1.heap.size (fieldsV (k) (n) (d) (a) (b) (q)) W) => (show Drawn w0 c IsCal w (.returned (.agg #[.int .i64 k, .string n, .string d, .int .i64 a, .int .i64 b, .string q])) (sets W w.heap.size 0 (fieldsV (k) (n) (d) (a) (b) (q))) from ⟨_, rfl, ⟨k, n, d, a, b, q, rfl, T1.out, T2.out, TQ.out⟩, (h.last _).1, (h.last _).2⟩))
    go_wp2
    exact bodyPost_ret (v := .agg #[.int .i64 k, .string n, .string d, .int .i64 a, .int .i64 b, .string q]) (by simp [results, Tryd.results75, go_sem, *]) rfl (HEND.out _ S5.out)

  · go_wp2_with fail
    refine (KP4.out _ _ rfl S2.out.cur).mono ?_
    rintro e w3 ⟨v, rfl, ⟨q, rfl, hq⟩, hc3, hg3⟩
    have S3 := Lib.hid (S2.out.draw hc3 hg3)
    clear hc3 hg3 S2 hq
    have f0 := S3.out.xb.cell 0 _ rfl
    have f1 := S3.out.xb.cell 1 _ rfl
    have f2 := S3.out.xb.cell 2 _ rfl
    have f3 := S3.out.xb.cell 3 _ rfl
    have f4 := S3.out.xb.cell 4 _ rfl
    have f5 := S3.out.xb.cell 5 _ rfl
    have z4 := S3.out.xb.free 4
    have S4 := Lib.hid (S3.out.set 4 (.int .i64 q) (ys := fieldsV k n d a q t) rfl)
    have r0 : w3.cell? ⟨w.heap.size, 0, none⟩ = some (.int .i64 0) := S3.out.rb.cell 0 _ rfl
    have y0 := S3.out.rb.free 0
    have r1 : w3.cell? ⟨w.heap.size, 1, none⟩ = some (.string ⟨#[]⟩) := S3.out.rb.cell 1 _ rfl
    have y1 := S3.out.rb.free 1
    have r2 : w3.cell? ⟨w.heap.size, 2, none⟩ = some (.string ⟨#[]⟩) := S3.out.rb.cell 2 _ rfl
    have y2 := S3.out.rb.free 2
    have r3 : w3.cell? ⟨w.heap.size, 3, none⟩ = some (.int .i64 0) := S3.out.rb.cell 3 _ rfl
    have y3 := S3.out.rb.free 3
    have r4 : w3.cell? ⟨w.heap.size, 4, none⟩ = some (.int .i64 0) := S3.out.rb.cell 4 _ rfl
    have y4 := S3.out.rb.free 4
    have r5 : w3.cell? ⟨w.heap.size, 5, none⟩ = some (.string ⟨#[]⟩) := S3.out.rb.cell 5 _ rfl
    have y5 := S3.out.rb.free 5
    have HEND := Lib.hid (fun W (h : St w0 w c w.heap.size w1.heap.size (fieldsV (k) (n) (d) (a) (q) (t)) W) => (show Drawn w0 c IsCal w (.returned (.agg #[.int .i64 k, .string n, .string d, .int .i64 a, .int .i64 q, .string t])) (sets W w.heap.size 0 (fieldsV (k) (n) (d) (a) (q) (t))) from ⟨_, rfl, ⟨k, n, d, a, q, t, rfl, T1.out, T2.out, T3.out⟩, (h.last _).1, (h.last _).2⟩))
    go_wp2
    exact bodyPost_ret (v := .agg #[.int .i64 k, .string n, .string d, .int .i64 a, .int .i64 q, .string t]) (by simp [results, Tryd.results75, go_sem, *]) rfl (HEND.out _ S4.out)

  · have m1 : (m == 0) = false := by rw [beq_eq_false_iff_ne]; omega
    have m2 : (m == 1) = false := by rw [beq_eq_false_iff_ne]; omega
    have m3 : (m == 2) = false := by rw [beq_eq_false_iff_ne]; omega
    have m4 : (m == 3) = false := by rw [beq_eq_false_iff_ne]; omega
    have m5 : (m == 4) = false := by rw [beq_eq_false_iff_ne]; omega
    have f0 := S2.out.xb.cell 0 _ rfl
    have f1 := S2.out.xb.cell 1 _ rfl
    have f2 := S2.out.xb.cell 2 _ rfl
    have f3 := S2.out.xb.cell 3 _ rfl
    have f4 := S2.out.xb.cell 4 _ rfl
    have f5 := S2.out.xb.cell 5 _ rfl
    have r0 : w2.cell? ⟨w.heap.size, 0, none⟩ = some (.int .i64 0) := S2.out.rb.cell 0 _ rfl
    have y0 := S2.out.rb.free 0
    have r1 : w2.cell? ⟨w.heap.size, 1, none⟩ = some (.string ⟨#[]⟩) := S2.out.rb.cell 1 _ rfl
    have y1 := S2.out.rb.free 1
    have r2 : w2.cell? ⟨w.heap.size, 2, none⟩ = some (.string ⟨#[]⟩) := S2.out.rb.cell 2 _ rfl
    have y2 := S2.out.rb.free 2
    have r3 : w2.cell? ⟨w.heap.size, 3, none⟩ = some (.int .i64 0) := S2.out.rb.cell 3 _ rfl
    have y3 := S2.out.rb.free 3
    have r4 : w2.cell? ⟨w.heap.size, 4, none⟩ = some (.int .i64 0) := S2.out.rb.cell 4 _ rfl
    have y4 := S2.out.rb.free 4
    have r5 : w2.cell? ⟨w.heap.size, 5, none⟩ = some (.string ⟨#[]⟩) := S2.out.rb.cell 5 _ rfl
    have y5 := S2.out.rb.free 5
    have HEND := Lib.hid (fun W (h : St w0 w c w.heap.size w1.heap.size (fieldsV (k) (n) (d) (a) (b) (t)) W) => (show Drawn w0 c IsCal w (.returned (.agg #[.int .i64 k, .string n, .string d, .int .i64 a, .int .i64 b, .string t])) (sets W w.heap.size 0 (fieldsV (k) (n) (d) (a) (b) (t))) from ⟨_, rfl, ⟨k, n, d, a, b, t, rfl, T1.out, T2.out, T3.out⟩, (h.last _).1, (h.last _).2⟩))
    go_wp2
    exact bodyPost_ret (v := .agg #[.int .i64 k, .string n, .string d, .int .i64 a, .int .i64 b, .string t]) (by simp [results, Tryd.results75, go_sem, *]) rfl (HEND.out _ S2.out)

/-- A call drawn from the bytes. -/
def CalDrawn (w : World) (e : Ending) (w' : World) : Prop := ∃ v, e = .returned v ∧ IsCal v w' ∧ Below w.heap.size w w'
theorem rowBelow {k : IntKind} {w w' : World} {a : Option Addr} {len cap : Nat} {z : List Int} (h : IsRow k w a len cap z) (hb : Below w.heap.size w w') : IsRow k w' a len cap z :=
  ⟨h.1, h.2.1, h.2.2.1, h.2.2.2.1.below hb, h.2.2.2.2⟩

set_option maxRecDepth 100000 in
set_option maxHeartbeats 4000000 in
theorem drawTold_c (a0 : Option Addr) (len cap : Nat) (z : List Int) (w : World) (hz : IsRow .u8 w a0 len cap z) :
    Calls Tryd.prog 43 #[.slice a0 len cap] w (CalDrawn w) := by
  have K := Lib.hid (new_c a0 len cap z (w.alloc (.cells zeroV.toArray 59)) (rowBelow hz (by repeat (first | exact Below.refl _ _ | refine Below.drew ?_ | refine below_drewN ?_ _ | refine Below.allocC ?_ _ | refine Below.setCell ?_ (by first | (simp; done) | (simp; omega)) _ | refine Below.chain ?_ (by assumption)))))
  have HR0 := Lib.hid (Box.new w zeroV 59)
  have KA := Lib.hid (fun W c (h : Cur (w.alloc (.cells zeroV.toArray 59)) W c) => anyCall_c (w.alloc (.cells zeroV.toArray 59)) W c h)
  clear hz
  go_enter Tryd.func43, Tryd.ntmps43
  go_wp2_with fail
  refine K.out.mono ?_
  rintro e w1 ⟨c, rfl, hc1⟩
  have HC1 := Lib.hid hc1
  clear hc1
  go_wp2_with fail
  refine (KA.out _ _ HC1.out).mono ?_
  rintro e w2 ⟨v, rfl, ⟨k, n, d, a, b, t, rfl, hn, hd, ht⟩, hc2, hg2⟩
  have B2 := HR0.out.below hc2.base
  have HB2 := Lib.hid (show Below w.heap.size w w2 from (show Below w.heap.size w (w.alloc (.cells zeroV.toArray 59)) from (by repeat (first | exact Below.refl _ _ | refine Below.drew ?_ | refine below_drewN ?_ _ | refine Below.allocC ?_ _ | refine Below.setCell ?_ (by first | (simp; done) | (simp; omega)) _ | refine Below.chain ?_ (by assumption)))).trans (hc2.base.mono (show Below w.heap.size w (w.alloc (.cells zeroV.toArray 59)) from (by repeat (first | exact Below.refl _ _ | refine Below.drew ?_ | refine below_drewN ?_ _ | refine Below.allocC ?_ _ | refine Below.setCell ?_ (by first | (simp; done) | (simp; omega)) _ | refine Below.chain ?_ (by assumption)))).size))
  have HE := Lib.hid (show CalDrawn w (.returned (.agg #[.int .i64 k, .string n, .string d, .int .i64 a, .int .i64 b, .string t])) (sets w2 w.heap.size 0 (fieldsV k n d a b t)) from ⟨_, rfl, ⟨k, n, d, a, b, t, rfl, hn, hd, ht⟩, HB2.out.trans (below_of_grown (sets_grown _ _ _ _) (Nat.le_refl _) HB2.out.size)⟩)
  have rc0 : w2.cell? ⟨w.heap.size, 0, none⟩ = some (.int .i64 0) := B2.cell 0 _ rfl
  have rf0 : w2.frozen? ⟨w.heap.size, 0, none⟩ = false := B2.free 0
  have rc1 : w2.cell? ⟨w.heap.size, 1, none⟩ = some (.string ⟨#[]⟩) := B2.cell 1 _ rfl
  have rf1 : w2.frozen? ⟨w.heap.size, 1, none⟩ = false := B2.free 1
  have rc2 : w2.cell? ⟨w.heap.size, 2, none⟩ = some (.string ⟨#[]⟩) := B2.cell 2 _ rfl
  have rf2 : w2.frozen? ⟨w.heap.size, 2, none⟩ = false := B2.free 2
  have rc3 : w2.cell? ⟨w.heap.size, 3, none⟩ = some (.int .i64 0) := B2.cell 3 _ rfl
  have rf3 : w2.frozen? ⟨w.heap.size, 3, none⟩ = false := B2.free 3
  have rc4 : w2.cell? ⟨w.heap.size, 4, none⟩ = some (.int .i64 0) := B2.cell 4 _ rfl
  have rf4 : w2.frozen? ⟨w.heap.size, 4, none⟩ = false := B2.free 4
  have rc5 : w2.cell? ⟨w.heap.size, 5, none⟩ = some (.string ⟨#[]⟩) := B2.cell 5 _ rfl
  have rf5 : w2.frozen? ⟨w.heap.size, 5, none⟩ = false := B2.free 5
  clear hc2 hg2 hn hd ht B2 HC1 K KA
  go_wp2
  exact bodyPost_ret (v := .agg #[.int .i64 k, .string n, .string d, .int .i64 a, .int .i64 b, .string t]) (by simp [results, Tryd.results43, go_sem, *]) rfl HE.out

set_option maxRecDepth 100000 in
set_option maxHeartbeats 4000000 in
theorem drawCallOk_c (a0 : Option Addr) (len cap : Nat) (z : List Int) (w : World) (hz : IsRow .u8 w a0 len cap z) :
    Calls Tryd.prog 47 #[.slice a0 len cap] w (CalDrawn w) := by
  have K := Lib.hid (new_c a0 len cap z (w.alloc (.cells zeroV.toArray 59)) (rowBelow hz (by repeat (first | exact Below.refl _ _ | refine Below.drew ?_ | refine below_drewN ?_ _ | refine Below.allocC ?_ _ | refine Below.setCell ?_ (by first | (simp; done) | (simp; omega)) _ | refine Below.chain ?_ (by assumption)))))
  have HR0 := Lib.hid (Box.new w zeroV 59)
  have KA := Lib.hid (fun W c (h : Cur (w.alloc (.cells zeroV.toArray 59)) W c) => anyCall_c (w.alloc (.cells zeroV.toArray 59)) W c h)
  clear hz
  go_enter Tryd.func47, Tryd.ntmps47
  go_wp2_with fail
  refine K.out.mono ?_
  rintro e w1 ⟨c, rfl, hc1⟩
  have HC1 := Lib.hid hc1
  clear hc1
  go_wp2_with fail
  refine (KA.out _ _ HC1.out).mono ?_
  rintro e w2 ⟨v, rfl, ⟨k, n, d, a, b, t, rfl, hn, hd, ht⟩, hc2, hg2⟩
  have B2 := HR0.out.below hc2.base
  have HB2 := Lib.hid (show Below w.heap.size w w2 from (show Below w.heap.size w (w.alloc (.cells zeroV.toArray 59)) from (by repeat (first | exact Below.refl _ _ | refine Below.drew ?_ | refine below_drewN ?_ _ | refine Below.allocC ?_ _ | refine Below.setCell ?_ (by first | (simp; done) | (simp; omega)) _ | refine Below.chain ?_ (by assumption)))).trans (hc2.base.mono (show Below w.heap.size w (w.alloc (.cells zeroV.toArray 59)) from (by repeat (first | exact Below.refl _ _ | refine Below.drew ?_ | refine below_drewN ?_ _ | refine Below.allocC ?_ _ | refine Below.setCell ?_ (by first | (simp; done) | (simp; omega)) _ | refine Below.chain ?_ (by assumption)))).size))
  have HE := Lib.hid (show CalDrawn w (.returned (.agg #[.int .i64 k, .string n, .string d, .int .i64 a, .int .i64 b, .string t])) (sets w2 w.heap.size 0 (fieldsV k n d a b t)) from ⟨_, rfl, ⟨k, n, d, a, b, t, rfl, hn, hd, ht⟩, HB2.out.trans (below_of_grown (sets_grown _ _ _ _) (Nat.le_refl _) HB2.out.size)⟩)
  have rc0 : w2.cell? ⟨w.heap.size, 0, none⟩ = some (.int .i64 0) := B2.cell 0 _ rfl
  have rf0 : w2.frozen? ⟨w.heap.size, 0, none⟩ = false := B2.free 0
  have rc1 : w2.cell? ⟨w.heap.size, 1, none⟩ = some (.string ⟨#[]⟩) := B2.cell 1 _ rfl
  have rf1 : w2.frozen? ⟨w.heap.size, 1, none⟩ = false := B2.free 1
  have rc2 : w2.cell? ⟨w.heap.size, 2, none⟩ = some (.string ⟨#[]⟩) := B2.cell 2 _ rfl
  have rf2 : w2.frozen? ⟨w.heap.size, 2, none⟩ = false := B2.free 2
  have rc3 : w2.cell? ⟨w.heap.size, 3, none⟩ = some (.int .i64 0) := B2.cell 3 _ rfl
  have rf3 : w2.frozen? ⟨w.heap.size, 3, none⟩ = false := B2.free 3
  have rc4 : w2.cell? ⟨w.heap.size, 4, none⟩ = some (.int .i64 0) := B2.cell 4 _ rfl
  have rf4 : w2.frozen? ⟨w.heap.size, 4, none⟩ = false := B2.free 4
  have rc5 : w2.cell? ⟨w.heap.size, 5, none⟩ = some (.string ⟨#[]⟩) := B2.cell 5 _ rfl
  have rf5 : w2.frozen? ⟨w.heap.size, 5, none⟩ = false := B2.free 5
  clear hc2 hg2 hn hd ht B2 HC1 K KA
  go_wp2
  exact bodyPost_ret (v := .agg #[.int .i64 k, .string n, .string d, .int .i64 a, .int .i64 b, .string t]) (by simp [results, Tryd.results47, go_sem, *]) rfl HE.out

theorem drawCallName_c (a0 : Option Addr) (len cap : Nat) (z : List Int) (w : World) (hz : IsRow .u8 w a0 len cap z) :
    Calls Tryd.prog 46 #[.slice a0 len cap] w fun e w' => ∃ k : Int, e = .returned (.int .i64 k) ∧ -1 ≤ k ∧ k ≤ 24 ∧ Below w.heap.size w w' := by
  have K := Lib.hid (new_c a0 len cap z w hz)
  have KB := Lib.hid (fun W c (h : Cur w W c) => below_c w W c 25 h (by decide))
  clear hz
  go_enter Tryd.func46, Tryd.ntmps46
  go_wp2_with fail
  refine K.out.mono ?_
  rintro e w1 ⟨c, rfl, hc1⟩
  have HC1 := Lib.hid hc1
  clear hc1
  go_wp2_with fail
  refine (KB.out _ _ HC1.out).mono ?_
  rintro e w2 ⟨v, rfl, ⟨m, rfl, m0, m1, _⟩, hc2, hg2⟩
  have m2 := m1 (by decide)
  have hw : IntKind.i64.wrap (m - 1) = m - 1 := by rw [IntKind.wrap_i64]; omega
  have HB := Lib.hid hc2.base
  clear hc2 hg2 m1
  go_wp2
  go_ret
  exact ⟨m - 1, rfl, by omega, by omega, HB.out⟩
end Go.Proofs.YtedbmmoddemngaaDoor
