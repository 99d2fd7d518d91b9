/- A row of bytes that came in, and the reference's cursor over it ('Cur'): what a draw leaves. Of no program but for types. -/
import Derived.Test.YtedbmmoddemngaaDoorRun
import Derived.Test.YtedbmmoddemngaaDoorFind
import Derived.Laws.Bits128
import Derived.BigQuiet
namespace Go.Proofs.YtedbmmoddemngaaDoor
open Go.ChangeShapes Go.WideShapes Go.ChangeAt Go.RowKit Go.Deep
attribute [local go_sem ↓] Go.wp_at_zero Go.wp_at_succ
def encU (x : Int) : List Value := [.int .u8 x]
def okU (x : Int) : Prop := 0 ≤ x ∧ x ≤ 255
/-- A slice of bytes. -/
def IsRow (k : IntKind) (w : World) (a : Option Addr) (len cap : Nat) (z : List Int) : Prop := k = .u8 ∧ z.length = len ∧ len ≤ maxLen ∧ Reads w a 1 encU z ∧ ∀ x ∈ z, okU x
theorem isRow_of {H : Type} {enc : TypeId × Value → H} {P : Program} {w : World} {base : Nat} {spare : Nat → Bool} {held : Bool} {t e : TypeId} {a : Option Addr} {len cap : Nat} {d : DataW H} {ps : List MemPlace}
    (ht : P.underlying t = some (.slice e)) (he : P.underlying e = some (.int .u8)) (hC : P.cellsOf e = 1) (h : DataW.Trod enc P w base spare held t (.slice a len cap) d ps) : ∃ z, IsRow .u8 w a len cap z := by
  obtain ⟨hl, xs, hx, hr, ho⟩ := open_rows (w := w) encU okU 1 ht hC (by decide) (fun n cs y _ h => by
    obtain ⟨m, e1, _, hm⟩ := DataW.trod_int he h
    refine ⟨m, e1, ?_⟩
    simpa [okU, Lit.wf, IntKind.min, IntKind.max, IntKind.signed, IntKind.bits] using hm) h
  exact ⟨xs, rfl, hx, hl, hr, ho⟩
theorem i64_and255 (n : Int) : 0 ≤ bits .and .i64 n 255 ∧ bits .and .i64 n 255 ≤ 255 := by
  have h : (BitVec.ofInt 64 n &&& 255#64).toNat ≤ 255 := by
    rw [BitVec.toNat_and]
    exact Nat.le_trans Nat.and_le_right (by decide)
  show 0 ≤ IntKind.i64.wrap ((BitVec.ofInt 64 n &&& BitVec.ofInt 64 255).toNat : Int) ∧ IntKind.i64.wrap ((BitVec.ofInt 64 n &&& BitVec.ofInt 64 255).toNat : Int) ≤ 255
  rw [show BitVec.ofInt 64 255 = 255#64 from rfl]
  generalize (BitVec.ofInt 64 n &&& 255#64).toNat = x at *
  rw [IntKind.wrap_i64]; omega
/-- The cursor c over bytes that lie in w0: a block of the run's own. -/
def Cur (w0 w : World) (c : Nat) : Prop :=
  ∃ a len cap z i h, IsRow .u8 w0 a len cap z ∧ w0.heap.size ≤ c ∧ Below w0.heap.size w0 w ∧ i ≤ len ∧ w.heap[c]? = some (.cells #[.slice a len cap, .int .i64 ((i : Nat) : Int), .int .i64 h] 93 (0, 0))
theorem Cur.lt {w0 w : World} {c : Nat} (h : Cur w0 w c) : c < w.heap.size := by
  obtain ⟨_, _, _, _, _, _, _, _, _, _, h⟩ := h
  exact (Array.getElem?_eq_some_iff.1 h).1
theorem Cur.ge {w0 w : World} {c : Nat} (h : Cur w0 w c) : w0.heap.size ≤ c := by
  obtain ⟨_, _, _, _, _, _, _, h, _⟩ := h
  exact h
theorem Cur.base {w0 w : World} {c : Nat} (h : Cur w0 w c) : Below w0.heap.size w0 w := by
  obtain ⟨_, _, _, _, _, _, _, _, h, _⟩ := h
  exact h
theorem Cur.below {w0 w w' : World} {c : Nat} (h : Cur w0 w c) (hb : Below w.heap.size w w') : Cur w0 w' c := by
  have hlt := h.lt
  obtain ⟨a, len, cap, z, i, x, h1, h2, h3, h4, h5⟩ := h
  exact ⟨a, len, cap, z, i, x, h1, h2, h3.trans (hb.mono h3.size), h4, (hb.block c hlt).trans h5⟩
/-- Behind a draw: the value is as P says, the cursor stands, and nothing but the cursor is written. -/
def Drawn (w0 : World) (c : Nat) (P : Value → World → Prop) (w : World) (e : Ending) (w' : World) : Prop :=
  ∃ v, e = .returned v ∧ P v w' ∧ Cur w0 w' c ∧ w.grownBy w' (some c)
theorem grownBy_below2 {w W w' : World} {r : Option Nat} (h : w.grownBy W r) (hb : Below W.heap.size W w') : w.grownBy w' r := grownBy_trans h (grownBy_of_below hb r)
theorem Drawn.from {w0 w W w' : World} {c : Nat} {P : Value → World → Prop} {e : Ending} (hg : w.grownBy W (some c)) (h : Drawn w0 c P W e w') : Drawn w0 c P w e w' := by
  obtain ⟨v, rfl, h1, h2, h3⟩ := h
  exact ⟨v, rfl, h1, h2, grownBy_trans hg h3⟩
def IsInt (lo hi : Int) (v : Value) (_ : World) : Prop := ∃ n : Int, v = .int .i64 n ∧ lo ≤ n ∧ n ≤ hi

/-- The cells of a cursor. -/
def CurIs (w : World) (c : Nat) (a : Option Addr) (len cap i : Nat) (h : Int) : Prop := w.heap[c]? = some (.cells #[.slice a len cap, .int .i64 ((i : Nat) : Int), .int .i64 h] 93 (0, 0))
theorem CurIs.c0 {w : World} {c : Nat} {a : Option Addr} {len cap i : Nat} {h : Int} (k : CurIs w c a len cap i h) : w.cell? ⟨c, 0, none⟩ = some (.slice a len cap) := cell_of_row w c 0 _ _ _ k
theorem CurIs.c1 {w : World} {c : Nat} {a : Option Addr} {len cap i : Nat} {h : Int} (k : CurIs w c a len cap i h) : w.cell? ⟨c, 1, none⟩ = some (.int .i64 ((i : Nat) : Int)) := cell_of_row w c 1 _ _ _ k
theorem CurIs.c2 {w : World} {c : Nat} {a : Option Addr} {len cap i : Nat} {h : Int} (k : CurIs w c a len cap i h) : w.cell? ⟨c, 2, none⟩ = some (.int .i64 h) := cell_of_row w c 2 _ _ _ k
theorem CurIs.free {w : World} {c : Nat} {a : Option Addr} {len cap i : Nat} {h : Int} (k : CurIs w c a len cap i h) (j : Nat) : w.frozen? ⟨c, j, none⟩ = false := frozen_of_row w c j _ _ k
theorem CurIs.setH {w : World} {c : Nat} {a : Option Addr} {len cap i : Nat} {h h2 : Int} (k : CurIs w c a len cap i h) : CurIs (w.setCell ⟨c, 2, none⟩ (.int .i64 h2)) c a len cap i h2 := heap_setCell_same w c 2 _ _ _ k
theorem CurIs.setI {w : World} {c : Nat} {a : Option Addr} {len cap i i2 : Nat} {h x : Int} (k : CurIs w c a len cap i h) (hx : x = ((i2 : Nat) : Int)) : CurIs (w.setCell ⟨c, 1, none⟩ (.int .i64 x)) c a len cap i2 h := by
  subst hx; exact heap_setCell_same w c 1 _ _ _ k

set_option maxRecDepth 100000 in
set_option maxHeartbeats 4000000 in
theorem byte_c (w0 w : World) (c : Nat) (hc : Cur w0 w c) :
    Calls Tryd.prog 82 #[.pointer (some ⟨c, 0, none⟩)] w (Drawn w0 c (IsInt 0 255) w) := by
  obtain ⟨a, len, cap, z, i, h, hz, hge, hb, hi, hblk⟩ := hc
  have HZ := Lib.hid hz
  have HB := Lib.hid hb
  have HC := Lib.hid (show CurIs w c a len cap i h from hblk)
  have hlm := hz.2.2.1
  have e0 := HC.out.c0
  have e1 := HC.out.c1
  have e2 := HC.out.c2
  have f1 := HC.out.free 1
  have f2 := HC.out.free 2
  clear hblk hb hz
  unfold maxLen at hlm
  have hi0 : (0 : Int) ≤ (i : Int) := by omega
  have HEND := Lib.hid (fun (w' : World) (i2 : Nat) (h2 n : Int) (k1 : CurIs w' c a len cap i2 h2) (k2 : i2 ≤ len) (k3 : w.grownBy w' (some c)) (k4 : 0 ≤ n ∧ n ≤ 255) =>
    (show Drawn w0 c (IsInt 0 255) w (.returned (.int .i64 n)) w' from ⟨_, rfl, ⟨n, rfl, k4.1, k4.2⟩, ⟨a, len, cap, z, i2, h2, HZ.out, hge, HB.out.trans (below_of_grown k3 hge HB.out.size), k2, k1⟩, k3⟩))
  go_enter Tryd.func82, Tryd.ntmps82
  go_wp2_with fail
  obtain ⟨h2, hh2⟩ : ∃ h2, wrap64 (wrap64 (h * 6364136223846793005) + 1442695040888963407) = h2 := ⟨_, rfl⟩
  rw [hh2]
  clear hh2
  have HC1 := Lib.hid (HC.out.setH (h2 := h2))
  have HG1 := Lib.hid (grownBy_setCell w c 2 (.int .i64 h2))
  generalize w.setCell ⟨c, 2, none⟩ (.int .i64 h2) = W at *
  clear e0 e1 e2 f1 f2
  have e0 := HC1.out.c0
  have e1 := HC1.out.c1
  have e2 := HC1.out.c2
  have f1 := HC1.out.free 1
  rcases Nat.lt_or_ge i len with hil | hil
  · have p1 : (i : Int) < (len : Int) := by omega
    obtain ⟨_, hzl, _, hzr, hzo⟩ := HZ.out
    obtain ⟨x, hx⟩ := some_of_lt (xs := z) (k := i) (by omega)
    have hxo := hzo x (List.mem_of_getElem? hx)
    obtain ⟨b, off, hab, hbl, ha⟩ : ∃ b off, a = some ⟨b, off, none⟩ ∧ b < w0.heap.size ∧ w0.cell? ⟨b, off + i, none⟩ = some (.int .u8 x) := by
      rcases hzr with rfl | ⟨b, off, h1, h2, h3⟩
      · simp at hx
      · exact ⟨b, off, h1, h2, by simpa using h3 i x hx 0 _ rfl⟩
    subst hab
    have hax : W.cell? ⟨b, off + i, none⟩ = some (.int .u8 x) := (World.cell?_of_block ((below_of_grown HG1.out hge HB.out.size).block b hbl)).trans ((HB.out.cell (p := ⟨b, off + i, none⟩) hbl).trans ha)
    have x0 := hxo.1
    have x1 := hxo.2
    clear hzl hzr hzo hx hxo ha
    go_quiet (fail)
    go_wp2_with fail
    go_quiet (fail)
    go_wp2_with fail
    go_quiet (fail)
    go_wp2
    go_ret
    exact HEND.out _ (i + 1) h2 _ (HC1.out.setI (by omega)) (by omega) (grownBy_trans HG1.out (grownBy_trans (grownBy_of_below (below_drewN (Below.refl _ _) _) _) (grownBy_setCell _ c 1 _))) (i64_and255 _)
  · have p1 : ¬ (i : Int) < (len : Int) := by omega
    go_quiet (fail)
    go_wp2_with fail
    go_quiet (fail)
    go_wp2
    go_ret
    exact HEND.out _ i h2 _ HC1.out hi (grownBy_trans HG1.out (grownBy_of_below (below_drewN (below_drewN (Below.refl _ _) _) _) _)) (i64_and255 _)

/-- A number below n. -/
def IsBelow (n : Int) (v : Value) (_ : World) : Prop := ∃ m : Int, v = .int .i64 m ∧ 0 ≤ m ∧ (0 < n → m < n) ∧ (n ≤ 0 → m = 0)
set_option maxHeartbeats 2000000 in
theorem below_c (w0 w : World) (c : Nat) (n : Int) (hc : Cur w0 w c) (hn : n ≤ 9223372036854775807) :
    Calls Tryd.prog 62 #[.pointer (some ⟨c, 0, none⟩), .int .i64 n] w (Drawn w0 c (IsBelow n) w) := by
  have HC := Lib.hid hc
  clear hc
  by_cases h0 : n ≤ 0
  · have HEND := Lib.hid (show Drawn w0 c (IsBelow n) w (.returned (.int .i64 0)) w from ⟨_, rfl, ⟨0, rfl, Int.le_refl _, fun h => by omega, fun _ => rfl⟩, HC.out, grownBy_refl _ _⟩)
    go_enter Tryd.func62, Tryd.ntmps62
    go_wp2
    go_ret
    exact HEND.out
  · have hp : 0 < n := by omega
    by_cases h256 : n ≤ 256
    · have K := Lib.hid (byte_c w0 w c HC.out)
      go_enter Tryd.func62, Tryd.ntmps62
      go_wp2_with fail
      refine K.out.mono ?_
      rintro e w1 ⟨v, rfl, ⟨x, rfl, x0, x1⟩, hc1, hg1⟩
      obtain ⟨y, hy⟩ : ∃ y, x % n = y := ⟨_, rfl⟩
      have hy0 : 0 ≤ y := by rw [← hy]; exact Int.emod_nonneg _ (by omega)
      have hy1 : y < n := by rw [← hy]; exact Int.emod_lt_of_pos _ hp
      have hm : x.tmod n = y := by rw [← hy, Int.tmod_eq_emod_of_nonneg x0]
      have HEND := Lib.hid (show Drawn w0 c (IsBelow n) w (.returned (.int .i64 y)) w1 from ⟨_, rfl, ⟨y, rfl, hy0, fun _ => hy1, fun h => by omega⟩, hc1, hg1⟩)
      clear hc1 hg1
      go_wp2
      go_ret
      exact HEND.out
    · have K := Lib.hid (fun W (h : Cur w0 W c) => byte_c w0 W c h)
      go_enter Tryd.func62, Tryd.ntmps62
      go_wp2_with fail
      refine (K.out _ HC.out).mono ?_
      rintro e w1 ⟨v, rfl, ⟨x, rfl, x0, x1⟩, hc1, hg1⟩
      have HC1 := Lib.hid hc1
      have HG1 := Lib.hid hg1
      clear hc1 hg1
      go_wp2_with fail
      refine (K.out _ HC1.out).mono ?_
      rintro e w2 ⟨v, rfl, ⟨y, rfl, y0, y1⟩, hc2, hg2⟩
      have HC2 := Lib.hid hc2
      have HG2 := Lib.hid (grownBy_trans HG1.out hg2)
      clear hc2 hg2
      go_wp2_with fail
      refine (K.out _ HC2.out).mono ?_
      rintro e w3 ⟨v, rfl, ⟨z, rfl, z0, z1⟩, hc3, hg3⟩
      have HC3 := Lib.hid hc3
      have HG3 := Lib.hid (grownBy_trans HG2.out hg3)
      clear hc3 hg3
      go_wp2_with fail
      refine (K.out _ HC3.out).mono ?_
      rintro e w4 ⟨v, rfl, ⟨t, rfl, t0, t1⟩, hc4, hg4⟩
      have HC4 := Lib.hid hc4
      have HG4 := Lib.hid (grownBy_trans HG3.out hg4)
      clear hc4 hg4
      obtain ⟨s, hs⟩ : ∃ s, x * 16777216 + y * 65536 + z * 256 + t = s := ⟨_, rfl⟩
      have hs0 : 0 ≤ s := by omega
      obtain ⟨r, hr⟩ : ∃ r, s % n = r := ⟨_, rfl⟩
      have hr0 : 0 ≤ r := by rw [← hr]; exact Int.emod_nonneg _ (by omega)
      have hr1 : r < n := by rw [← hr]; exact Int.emod_lt_of_pos _ hp
      have hm : s.tmod n = r := by rw [← hr, Int.tmod_eq_emod_of_nonneg hs0]
      have HEND := Lib.hid (show Drawn w0 c (IsBelow n) w (.returned (.int .i64 r)) w4 from ⟨_, rfl, ⟨r, rfl, hr0, fun _ => hr1, fun h => by omega⟩, HC4.out, HG4.out⟩)
      go_wp2
      go_ret
      exact HEND.out
def IsBool (v : Value) (_ : World) : Prop := ∃ b : Bool, v = .bool b
theorem once_c (w0 w : World) (c : Nat) (n : Int) (hc : Cur w0 w c) (hn : n ≤ 9223372036854775807) :
    Calls Tryd.prog 77 #[.pointer (some ⟨c, 0, none⟩), .int .i64 n] w (Drawn w0 c IsBool w) := by
  have K := Lib.hid (below_c w0 w c n hc hn)
  clear hc
  go_enter Tryd.func77, Tryd.ntmps77
  go_wp2_with fail
  refine K.out.mono ?_
  rintro e w1 ⟨v, rfl, ⟨x, rfl, _, _, _⟩, hc1, hg1⟩
  have HEND := Lib.hid (fun b => (show Drawn w0 c IsBool w (.returned (.bool b)) w1 from ⟨_, rfl, ⟨b, rfl⟩, hc1, hg1⟩))
  clear hc1 hg1
  go_wp2
  go_ret
  exact HEND.out _
/-- One of the texts. -/
def IsOneOf (xs : List ByteArray) (v : Value) (_ : World) : Prop := ∃ s, v = .string s ∧ s ∈ xs
theorem pick_c (w0 w : World) (c : Nat) (a : Option Addr) (cap : Nat) (xs : List ByteArray) (hc : Cur w0 w c) (hlen : 0 < xs.length) (hl2 : xs.length ≤ maxLen) (hr : Reads w a 1 encS xs) (hne : ∀ b off, a = some ⟨b, off, none⟩ → b ≠ c) :
    Calls Tryd.prog 92 #[.pointer (some ⟨c, 0, none⟩), .slice a xs.length cap] w (Drawn w0 c (IsOneOf xs) w) := by
  unfold maxLen at hl2
  have K := Lib.hid (below_c w0 w c (xs.length : Int) hc (by omega))
  have HR := Lib.hid hr
  have HN := Lib.hid hne
  clear hc hr hne
  go_enter Tryd.func92, Tryd.ntmps92
  go_wp2_with fail
  refine K.out.mono ?_
  rintro e w1 ⟨v, rfl, ⟨x, rfl, x0, x1, _⟩, hc1, hg1⟩
  have hx1 := x1 (by omega)
  obtain ⟨k, rfl⟩ : ∃ k : Nat, x = (k : Int) := ⟨x.toNat, by omega⟩
  obtain ⟨y, hy⟩ := some_of_lt (xs := xs) (k := k) (by omega)
  obtain ⟨b, off, hab, c0⟩ := readFS HR.out (Below.refl _ _) hy
  have hbn := HN.out b off hab
  have c1 : w1.cell? ⟨b, off + k, none⟩ = some (.string y) := (World.cell?_of_block (hg1.block b (World.block_lt_of_cell? w _ c0) (fun e => hbn (by cases e; rfl)))).trans c0
  subst hab
  have HEND := Lib.hid (show Drawn w0 c (IsOneOf xs) w (.returned (.string y)) w1 from ⟨_, rfl, ⟨y, rfl, List.mem_of_getElem? hy⟩, hc1, hg1⟩)
  clear hc1 hg1 hy c0 x1
  go_wp2
  go_ret
  exact HEND.out
end Go.Proofs.YtedbmmoddemngaaDoor
