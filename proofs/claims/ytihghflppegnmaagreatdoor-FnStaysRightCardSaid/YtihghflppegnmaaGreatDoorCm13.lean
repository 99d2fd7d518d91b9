/- Lemmas and contracts that the last text leans on, joined: DrawK, Named, First, Looks, PgClean, EqCCell. Conditions: as each theorem says. -/
import Derived.Test.YtihghflppegnmaaGreatDoorCm11
import Derived.Test.YtihghflppegnmaaGreatDoorCm12
import Derived.Deep.CutRange
import Derived.Test.YtihghflppegnmaaGreatDoorCm8
import Derived.Test.YtihghflppegnmaaGreatDoorCm4
import Derived.Test.YtihghflppegnmaaGreatDoorProg
import Derived.WalkKit
import Derived.WalkSpells
import Derived.WalkLawsBesides
import Derived.Test.YtihghflppegnmaaGreatDoorCm1
import Derived.Lib.Hide
import Derived.Deep.RegionHeld3
import Derived.Deep.DrawnRows
set_option linter.unusedSimpArgs false
set_option linter.unusedVariables false
namespace Go.Proofs.YtihghflppegnmaaGreatDoor
open Go.ChangeShapes Go.WideShapes Go.ChangeAt Go.RowKit
attribute [local go_sem ↓] Go.wp_at_zero Go.wp_at_succ
theorem own_cap {w : World} {base e K n cap : Nat} {a : Option Addr} {xs : List Value} {m : Nat} (h : w.ownsRow base e K (.slice a n cap) m xs) : a = none → cap = 0 := fun e => by
 subst e;rcases h.2 with ⟨h, _⟩ | ⟨g, c, cur, h, _⟩
 ·cases h; rfl
 ·cases h
set_option maxHeartbeats 2000000 in
theorem bootT_c (w : World) : Calls Tryz.prog 44 #[] w (Fresh 99 2 (bootS.flatMap encC) bootS.length w) := by
 have K := Lib.hid (specMachOf_c (some ⟨w.heap.size, 0, none⟩) 0 [] (w.alloc (.cells #[] 99)) (by decide) (fun h => by cases h) (.inl rfl));have HB := Lib.hid (show Below w.heap.size w (w.alloc (.cells #[] 99)) from (by repeat (first | exact Below.refl _ _ | refine Below.drew ?_ | refine below_drewN ?_ _ | refine Below.allocC ?_ _ | refine Below.setCell ?_ (by first | (simp; done) | (simp; omega)) _ | refine Below.chain ?_ (by assumption))));obtain ⟨bm, ⟨x, y⟩, E⟩ : ∃ aa bb, (spawnP 0).run ⟨[], [], []⟩ = (aa, bb) := ⟨_, _, rfl⟩;have e0 : bootS = bm.st := by unfold bootS; rw [E]
 rw [e0];have KS := Lib.hid (fun v1 v2 v3 W (h : MRd W v1 v2 v3 ⟨[], [], []⟩) => tSpawn_c v1 v2 v3 ⟨[], [], []⟩ bm x y 0 W h (mNone_ok _) E);clear e0 E;go_enter Tryz.func44, Tryz.ntmps44;go_wp2_with fail;refine K.out.mono ?_;rintro e w1 ⟨v, rfl, ho, hb1⟩;have HB1 := Lib.hid (HB.out.trans (hb1.mono HB.out.size));obtain ⟨a, c, hv, hr, l1, l2⟩ := reads_of_owns' encC_len (show w1.ownsRow _ _ 2 v ([] : List (ByteArray × ByteArray)).length (([] : List (ByteArray × ByteArray)).flatMap encC) from ho);subst hv;have HRD := Lib.hid (show MRd w1 (.slice a ([] : List (ByteArray × ByteArray)).length c) (.slice none 0 0) (.slice none 0 0) ⟨[], [], []⟩ from ⟨⟨a, c, rfl, hr, l1, l2⟩, ⟨none, 0, rfl, .inl rfl, Nat.le_refl _, Nat.zero_le _⟩, ⟨none, 0, rfl, .inl rfl, Nat.le_refl _, Nat.zero_le _⟩⟩);have HO := Lib.hid (ownsRow_base ho (Nat.le_trans HB.out.size (Nat.le_succ _)));clear ho hb1 hr K;go_wp2_with fail;refine (KS.out _ _ _ w1 HRD.out).mono ?_;rintro e w2 ⟨u1, u2, u3, rfl, hmo, hb2⟩;have hrd2 := hmo.rd HRD.out hb2;obtain ⟨x1, k1, hx1, hr1, _, _⟩ := hrd2.r1;obtain ⟨x2, k2, hx2, _, _, _⟩ := hrd2.r2;obtain ⟨x3, k3, hx3, _, _, _⟩ := hrd2.r3;subst hx1 hx2 hx3;have ho2 : w2.ownsRow w.heap.size 99 2 (.slice x1 bm.st.length k1) bm.st.length (bm.st.flatMap encC) := by
  rcases hmo.o1 with ⟨h1, h2⟩ | h
  ·rw [h1, h2]; exact ownsRow_below HO.out hb2
  ·exact ownsRow_base h HB1.out.size
 have HEND := Lib.hid (fun W (hW : Below w2.heap.size w2 W) => (show Fresh 99 2 (bm.st.flatMap encC) bm.st.length w (.returned (.slice x1 bm.st.length k1)) W from ⟨_, rfl, ownsRow_below ho2 hW, HB1.out.trans ((hb2.trans (hW.mono hb2.size)).mono HB1.out.size)⟩));clear hmo hb2 hrd2 hr1 KS ho2 HO HRD;go_wp2;go_ret;refine HEND.out (w2.alloc (.cells #[.slice x1 bm.st.length k1, .slice x2 bm.rs.length k2, .slice x3 bm.ws.length k3] 87)) ?_;exact (by repeat (first | exact Below.refl _ _ | refine Below.drew ?_ | refine below_drewN ?_ _ | refine Below.allocC ?_ _ | refine Below.setCell ?_ (by first | (simp; done) | (simp; omega)) _ | refine Below.chain ?_ (by assumption)))
def OwnG (base n : Nat) (v : Value) (W : World) : Prop :=
 ∃ xs : Sto, W.ownsRow base 99 2 v xs.length (xs.flatMap encC) ∧ Grown n xs ∧ ∀ x ∈ xs, x.1.size ≤ 1048576 ∧ x.2.size ≤ 1048576
theorem OwnG.far {base n c : Nat} {v : Value} {W W' : World} (h : OwnG base n v W) (hg : W.grownBy W' (some c)) (hc : c < base) : OwnG base n v W' := by
 obtain ⟨xs, o, g⟩ := h;exact ⟨xs, own_far o hg hc, g⟩
theorem OwnG.base {base base' n : Nat} {v : Value} {W : World} (h : OwnG base n v W) (hb : base' ≤ base) : OwnG base' n v W := by
 obtain ⟨xs, o, g⟩ := h;exact ⟨xs, ownsRow_base o hb, g⟩
theorem Grown.mono {n k : Nat} {s : Sto} (h : Grown n s) (hk : n ≤ k) : Grown k s := ⟨h.1, by have := h.2.1; omega, Nat.le_trans h.2.2.1 hk, h.2.2.2⟩
theorem OwnG.mono {base n k : Nat} {v : Value} {W : World} (h : OwnG base n v W) (hk : n ≤ k) : OwnG base k v W := by
 obtain ⟨xs, o, g, s⟩ := h;exact ⟨xs, o, g.mono hk, s⟩
theorem grown_mok {n : Nat} {xs : Sto} (h : Grown n xs) (hn : n ≤ 12) (hs : ∀ x ∈ xs, x.1.size ≤ 1048576 ∧ x.2.size ≤ 1048576) : MOk 600 ⟨xs, [], []⟩ :=
 ⟨by have := h.2.1; show xs.length ≤ 600; omega, Nat.zero_le _, Nat.zero_le _, hs⟩
theorem boot_grown : Grown 0 bootS ∧ ∀ x ∈ bootS, x.1.size ≤ 1048576 ∧ x.2.size ≤ 1048576 := by
 rw [boot_is];refine ⟨⟨⟨?_, ?_, ?_⟩, Nat.le_of_ble_eq_true (by kernel_rfl), Nat.le_of_ble_eq_true (by kernel_rfl), ?_⟩, ?_⟩
 ·refine List.pairwise_cons.2 ⟨fun x hx => ?_, List.pairwise_singleton _ _⟩;obtain rfl := List.mem_singleton.1 hx;kernel_rfl
 ·intro c hc h;rcases List.mem_cons.1 hc with rfl | hc
  ·rw [show hd cProc = some 99 from by kernel_rfl] at h; cases h
  ·obtain rfl := List.mem_singleton.1 hc;rw [show hd (procK 1 tS) = some 114 from hd_proc 1 tS] at h; cases h
 ·exact ⟨(cProc, decS 1), List.mem_cons_self, rfl⟩
 ·intro x hx;rcases List.mem_cons.1 hx with rfl | hx
  ·exact ⟨by kernel_rfl, by kernel_rfl⟩
  ·obtain rfl := List.mem_singleton.1 hx;exact ⟨by kernel_rfl, by kernel_rfl⟩
 ·intro x hx;rcases List.mem_cons.1 hx with rfl | hx
  ·exact ⟨Nat.le_of_ble_eq_true (by kernel_rfl), Nat.le_of_ble_eq_true (by kernel_rfl)⟩
  ·obtain rfl := List.mem_singleton.1 hx;exact ⟨Nat.le_of_ble_eq_true (by kernel_rfl), Nat.le_of_ble_eq_true (by kernel_rfl)⟩
theorem isCal_ok {v : Value} {W : World} (h : IsCal v W) : ∃ c : Cal, v = .agg #[.int .i64 c.kind, .string c.name, .string c.dest, .int .i64 c.a, .int .i64 c.b, .string c.text] ∧ COk c := by
 obtain ⟨k, n, d, a, b, t, rfl, h1, h2, h3, h4, h5⟩ := h;exact ⟨⟨k, n, d, a, b, t⟩, rfl, ⟨h4.1, h4.2⟩, ⟨h5.1, h5.2⟩, Nat.le_trans h1 (by decide), Nat.le_trans h2 (by decide), Nat.le_trans h3 (by decide)⟩
set_option maxRecDepth 100000 in
set_option maxHeartbeats 4000000 in
theorem storeK_c (w0 w : World) (c N : Nat) (hN : N ≤ 12) (hc : Cur w0 w c) :
 Calls Tryz.prog 62 #[.pointer (some ⟨c, 0, none⟩), .int .i64 N] w (Drawn w0 c (OwnG w.heap.size N) w) := by
 have hcl := hc.lt;have HC := Lib.hid hc;have K0 := Lib.hid (bootT_c w);have KB := Lib.hid (fun W (h : Cur w0 W c) => below_c w0 W c ((N : Int) + 1) h (by omega));have KT := Lib.hid (fun W (h : Cur w0 W c) => below_c w0 W c 2 h (by omega));have KC := Lib.hid (fun W (h : Cur w0 W c) => call_c w0 W c h);have KO := Lib.hid (fun (W : World) (k : Nat) (hk : k < N) (a : Option Addr) (cap : Nat) (xs : Sto) (ho : W.ownsRow w.heap.size 99 2 (.slice a xs.length cap) xs.length (xs.flatMap encC)) (hg : Grown k xs) (hs : ∀ x ∈ xs, x.1.size ≤ 1048576 ∧ x.2.size ≤ 1048576) (p : Int) (hp : I64 p) (cl : Cal) (hcl : COk cl) =>
  show Calls Tryz.prog 26 #[.slice a xs.length cap, .int .i64 p, .agg #[.int .i64 cl.kind, .string cl.name, .string cl.dest, .int .i64 cl.a, .int .i64 cl.b, .string cl.text]] W (fun e w' => ∃ u1 x u3, e = .returned (.tuple #[u1, x, u3]) ∧ OwnG W.heap.size (k + 1) u1 w' ∧ Below W.heap.size W w') from by
   obtain ⟨m', an, E⟩ : ∃ aa bb, (callP p cl).run ⟨xs, [], []⟩ = (aa, bb) := ⟨_, _, rfl⟩;have hm := grown_mok hg (by omega) hs;refine (callOnS_c a cap xs p cl m' an W (reads_owns2 encC_len ho) (own_cap ho) (hm.mono (by decide)) hp hcl E).mono ?_;rintro e w' ⟨u1, u2, u3, rfl, hb, hu⟩;have h2 := ((callP_cost p cl).okE hm E).sz;have h3 := hg.call (by omega) p cl;have h4 : ((callP p cl).sem xs).1 = m'.st := by
    have := ((callP p cl).run_sem ⟨xs, [], []⟩).1;rw [E] at this;exact this.symm
   rw [h4] at h3;exact ⟨u1, _, _, rfl, ⟨m'.st, hu.o1, h3, h2⟩, hb⟩)
 obtain ⟨hb0, hb1⟩ := boot_grown;have HB0 := Lib.hid hb0;have HB1 := Lib.hid hb1;clear hb0 hb1 hc;go_enter Tryz.func62, Tryz.ntmps62;go_wp2_with fail;refine K0.out.mono ?_;rintro e w1 ⟨v1, rfl, o1, b1⟩;have HO1 := Lib.hid (show OwnG w.heap.size 0 v1 w1 from ⟨bootS, o1, HB0.out, HB1.out⟩);have HC1 := Lib.hid (HC.out.below b1);have HG1 := Lib.hid (grownBy_of_below b1 (some c));clear o1 b1 K0 HB0 HB1;go_wp2;go_loopw [5, 6] (fun v i wr => ∃ k : Nat, i = .int .i64 k ∧ k ≤ N ∧ Hid (OwnG w.heap.size k v wr) ∧ Hid (Cur w0 wr c) ∧ Hid (w.grownBy wr (some c))) (fun _ i _ => N - (intOf i).toNat)
 case atStart => exact ⟨0, rfl, Nat.zero_le _, HO1, HC1, HG1⟩
 case round =>
  obtain ⟨k, rfl, hk, HO, HCr, HG⟩ := hrel;have p0 : (0 : Int) ≤ (k : Int) := by omega
  have K1 := Lib.hid (KB.out wr HCr.out);have hN1 : IntKind.i64.wrap ((N : Int) + 1) = (N : Int) + 1 := by rw [IntKind.wrap_i64]; omega
  go_wp2_with fail;refine K1.out.mono ?_;rintro e w2 ⟨v2, rfl, ⟨r, rfl, r0, r1, _⟩, hc2, hg2⟩;have hr8 := r1 (by omega);have HC2 := Lib.hid hc2;have HG2 := Lib.hid (grownBy_trans HG.out hg2);have HO2 := Lib.hid (HO.out.far hg2 hcl);clear hc2 hg2 HO HG HCr r1 K1;by_cases hlt : (k : Int) < r
  ·go_wp2_with fail;refine (KT.out _ HC2.out).mono ?_;rintro e w3 ⟨v3, rfl, ⟨q, rfl, q0, q1, _⟩, hc3, hg3⟩;have hq8 := q1 (by omega);have HC3 := Lib.hid hc3;have HG3 := Lib.hid (grownBy_trans HG2.out hg3);have HO3 := Lib.hid (HO2.out.far hg3 hcl);clear hc3 hg3 HO2 HG2 HC2 q1;have hq1 : IntKind.i64.wrap (1 + q) = 1 + q := by rw [IntKind.wrap_i64]; omega
   go_wp2_with fail;refine (KC.out _ HC3.out).mono ?_;rintro e w4 ⟨v4, rfl, hcal, hc4, hg4⟩;obtain ⟨cl, rfl, hco⟩ := isCal_ok hcal;have HC4 := Lib.hid hc4;have HG4 := Lib.hid (grownBy_trans HG3.out hg4);obtain ⟨xs, o4, g4, s4⟩ := HO3.out.far hg4 hcl;obtain ⟨a4, cap4, hv4, _⟩ := reads_of_owns encC_len o4;subst hv4;have KP := Lib.hid (KO.out w4 k (by omega) a4 cap4 xs o4 g4 s4 (1 + q) ⟨by omega, by omega⟩ cl hco);clear hc4 hg4 o4 g4 s4 HO3 HG3 HC3 hcal hco;go_wp2_with fail;refine KP.out.mono ?_;rintro e w5 ⟨u1, x5, u5, rfl, ho5, hb5⟩;have HC5 := Lib.hid (HC4.out.below hb5);have HG5 := Lib.hid (grownBy_below2 HG4.out hb5);have HO5 := Lib.hid (ho5.base HG4.out.size);clear ho5 hb5 HC4 HG4 KP;go_wp2;go_roundw
   case rel => exact ⟨k + 1, by go_num, by omega, HO5, HC5, HG5⟩
   case measure => simp [intOf]; omega
  ·have HEND := Lib.hid (show Drawn w0 c (OwnG w.heap.size N) w (.returned _) w2 from ⟨_, rfl, HO2.out.mono hk, HC2.out, HG2.out⟩);clear HO2 HC2 HG2;go_wp2;go_ret;exact HEND.out
def procList : List Int := [1, 1, 1, 1, 2, 3, 0, -1]
theorem proc1_c (w0 w : World) (c : Nat) (hc : Cur w0 w c) : Calls Tryz.prog 66 #[.pointer (some ⟨c, 0, none⟩)] w (Drawn w0 c (IsOneInt procList) w) := by
 have K := Lib.hid (pickIntN_c w0 w c procList 3 8 w.heap.size rfl rfl hc (by decide) (by decide));clear hc;go_enter Tryz.func66, Tryz.ntmps66;go_wp2_with fail;refine K.out.mono ?_;rintro e w1 ⟨v, rfl, ⟨q, rfl, hq⟩, hc1, hg1⟩;have HEND := Lib.hid (show Drawn w0 c (IsOneInt procList) w (.returned (.int .i64 q)) w1 from ⟨_, rfl, ⟨q, rfl, hq⟩, hc1, hg1⟩);clear hc1 hg1 hq K;go_wp2;go_ret;exact HEND.out
def OwnS (base n : Nat) (v : Value) (W : World) : Prop :=
 ∃ xs : Sto, W.ownsRow base 99 2 v xs.length (xs.flatMap encC) ∧ xs.length ≤ n ∧ ∀ x ∈ xs, x.1.size ≤ 1048576 ∧ x.2.size ≤ 1048576
theorem OwnS.far {base n c : Nat} {v : Value} {W W' : World} (h : OwnS base n v W) (hg : W.grownBy W' (some c)) (hc : c < base) : OwnS base n v W' := by
 obtain ⟨xs, o, g⟩ := h;exact ⟨xs, own_far o hg hc, g⟩
theorem OwnS.mono {base n k : Nat} {v : Value} {W : World} (h : OwnS base n v W) (hk : n ≤ k) : OwnS base k v W := by
 obtain ⟨xs, o, l, s⟩ := h;exact ⟨xs, o, Nat.le_trans l hk, s⟩
theorem OwnS.below {base n : Nat} {v : Value} {W W' : World} (h : OwnS base n v W) (hb : Below W.heap.size W W') : OwnS base n v W' := by
 obtain ⟨xs, o, g⟩ := h;exact ⟨xs, ownsRow_below o hb, g⟩
theorem OwnG.s {base n : Nat} {v : Value} {W : World} (h : OwnG base n v W) (hn : n ≤ 12) : OwnS base 600 v W := by
 obtain ⟨xs, o, g, s⟩ := h;exact ⟨xs, o, (grown_mok g hn s).l1, s⟩
def DrawnCall (w : World) (e : Ending) (w' : World) : Prop :=
 ∃ v p cl, e = .returned (.tuple #[v, .int .i64 p, .agg #[.int .i64 cl.kind, .string cl.name, .string cl.dest, .int .i64 cl.a, .int .i64 cl.b, .string cl.text]]) ∧ I64 p ∧ COk cl ∧ OwnS w.heap.size 700 v w' ∧ Below w.heap.size w w'
def pk1 : List ByteArray := [⟨#[105, 47, 49, 47, 115]⟩, ⟨#[99, 47, 102, 105, 108, 101]⟩, ⟨#[114, 47, 49, 47, 115]⟩, ⟨#[112, 47, 49, 47, 116]⟩]
def pk2 : List ByteArray := [⟨#[53]⟩, ⟨#[120]⟩, ⟨#[57, 57, 57]⟩, ⟨#[49]⟩]
theorem pk1_size : ∀ s ∈ pk1, s.size ≤ 100 := by decide
theorem pk2_size : ∀ s ∈ pk2, s.size ≤ 100 := by decide
theorem procList_ok : ∀ q ∈ procList, I64 q := fun q h => by
 have : (procList.all fun a => decide (-9223372036854775808 ≤ a) && decide (a ≤ 9223372036854775807)) = true := by kernel_rfl
 have h2 := List.all_eq_true.1 this q h;simp only [Bool.and_eq_true, decide_eq_true_eq] at h2;exact ⟨h2.1, h2.2⟩
theorem putKeyS_sz {xs : Sto} {k v : ByteArray} (h : ∀ x ∈ xs, x.1.size ≤ 1048576 ∧ x.2.size ≤ 1048576) (hk : k.size ≤ 100) (hv : v.size ≤ 100) : ∀ x ∈ putKeyS xs k v, x.1.size ≤ 1048576 ∧ x.2.size ≤ 1048576 := fun x hx => by
 rcases putKeyS_mem hx with rfl | hx
 ·exact ⟨Nat.le_trans hk (by decide), Nat.le_trans hv (by decide)⟩
 ·exact h x hx
theorem drawnCall_of {w W0 W : World} {v : Value} {p : Int} {cl : Cal} {c B : Nat} {xs : List Value} (hp : I64 p) (hc : COk cl) {N : Nat} (ho : OwnS B N v W) (hr : Box W w.heap.size xs) (hb : Below w.heap.size w W0) (hcur : Cur W0 W c) (hB : w.heap.size < B) (hN : N ≤ 700) :
 DrawnCall w (.returned (.tuple #[v, .int .i64 p, .agg #[.int .i64 cl.kind, .string cl.name, .string cl.dest, .int .i64 cl.a, .int .i64 cl.b, .string cl.text]])) (sets W w.heap.size 0 (fieldsV cl.kind cl.name cl.dest cl.a cl.b cl.text)) := by
 have hg := sets_grown (fieldsV cl.kind cl.name cl.dest cl.a cl.b cl.text) W w.heap.size 0;obtain ⟨ys, o, l, s⟩ := ho;refine ⟨v, p, cl, rfl, hp, hc, ⟨ys, ownsRow_base (o.kept hg (.inr fun e => ?_)) (by omega), by omega, s⟩, ?_⟩
 ·have := (o.lt _ e).1;omega
 ·have hb2 := hb.trans (hcur.base.mono hb.size);exact hb2.trans (below_of_grown hg (Nat.le_refl _) hb2.size)
set_option maxRecDepth 100000 in
set_option maxHeartbeats 4000000 in
theorem drawCallOn_c (a : Option Addr) (len cap : Nat) (z : List Int) (w : World) (hz : IsRow .u8 w a len cap z) :
 Calls Tryz.prog 16 #[.slice a len cap] w (DrawnCall w) := by
 obtain ⟨W0, hW0⟩ : ∃ W0, W0 = w.alloc (.cells #[.int .i64 0, .string ⟨#[]⟩, .string ⟨#[]⟩, .int .i64 0, .int .i64 0, .string ⟨#[]⟩] 36) := ⟨_, rfl⟩;have hb0 : Below w.heap.size w W0 := by subst hW0; exact (by repeat (first | exact Below.refl _ _ | refine Below.drew ?_ | refine below_drewN ?_ _ | refine Below.allocC ?_ _ | refine Below.setCell ?_ (by first | (simp; done) | (simp; omega)) _ | refine Below.chain ?_ (by assumption)))
 have HB0 := Lib.hid hb0;have HR0 := Lib.hid (show Box W0 w.heap.size [.int .i64 0, .string ⟨#[]⟩, .string ⟨#[]⟩, .int .i64 0, .int .i64 0, .string ⟨#[]⟩] by subst hW0; exact Box.new w _ _);have hs0 : W0.heap.size = w.heap.size + 1 := by subst hW0; simp
 have K := Lib.hid (new_c a len cap z W0 (hz.below hb0));have KS := Lib.hid (fun W c (h : Cur W0 W c) => storeK_c W0 W c 12 (by decide) h);have KO := Lib.hid (fun W c (h : Cur W0 W c) => once_c W0 W c 10 h (by decide));have K1 := Lib.hid (fun W c N (hN : N = W.heap.size) (h : Cur W0 W c) => pickN_c W0 W c pk1 9 4 N rfl hN h (by decide) (by decide));have K2 := Lib.hid (fun W c N (hN : N = W.heap.size) (h : Cur W0 W c) => pickN_c W0 W c pk2 9 4 N rfl hN h (by decide) (by decide));have KP := Lib.hid (fun W c (h : Cur W0 W c) => proc1_c W0 W c h);have KA := Lib.hid (fun W c (h : Cur W0 W c) => anyCall_c W0 W c h);clear hz hb0;go_enter Tryz.func16, Tryz.ntmps16;go_upto_region 1 with fail;rw [← hW0];clear hW0;go_wp2_with fail;refine K.out.mono ?_;rintro e w1 ⟨c, rfl, hc1⟩;have HC1 := Lib.hid hc1;have hB1 := Lib.hid hc1.base;have hcl := hc1.lt;have hcg := hc1.ge;clear hc1 K;go_wp2_with fail;refine (KS.out _ _ HC1.out).mono ?_;rintro e w2 ⟨v2, rfl, ho, hc2, hg2⟩;have HO2 := Lib.hid (ho.s (by decide));have HC2 := Lib.hid hc2;have HG2 := Lib.hid hg2;clear ho hc2 hg2 HC1 KS;go_wp2_with fail;refine (KO.out _ _ HC2.out).mono ?_;rintro e w3 ⟨v, rfl, ⟨b, rfl⟩, hc3, hg3⟩;have HC3 := Lib.hid hc3;have HG3 := Lib.hid (grownBy_trans HG2.out hg3);have HO3 := Lib.hid (HO2.out.far hg3 hcl);clear hc3 hg3 HC2 HG2 HO2 KO;have HB1 := Lib.hid hB1.out;cases b
 ·go_wp2_with fail;refine (KP.out _ _ HC3.out).mono ?_;rintro e w8 ⟨v8, rfl, ⟨q, rfl, hq⟩, hc8, hg8⟩;have HC8 := Lib.hid hc8;have HG8 := Lib.hid (grownBy_trans HG3.out hg8);have HO8 := Lib.hid (HO3.out.far hg8 hcl);clear hc8 hg8 HC3 HG3 HO3 KP;go_wp2_with fail;refine (KA.out _ _ HC8.out).mono ?_;rintro e w9 ⟨v9, rfl, hcal, hc9, hg9⟩;obtain ⟨cl, rfl, hco⟩ := isCal_ok hcal;have HC9 := Lib.hid hc9;have HG9 := Lib.hid (grownBy_trans HG8.out hg9);have HO9 := Lib.hid (HO8.out.far hg9 hcl);have HR9 := Lib.hid ((HR0.out.below HB1.out).grown HG9.out (by omega));have HEND := Lib.hid (drawnCall_of (v := v2) (p := q) (cl := cl) (procList_ok q hq) hco HO9.out HR9.out HB0.out HC9.out (by have := hB1.out.size; omega) (by decide));have c0 := HR9.out.cell 0 _ rfl;have f0 := HR9.out.free 0;have c1 := HR9.out.cell 1 _ rfl;have f1 := HR9.out.free 1;have c2 := HR9.out.cell 2 _ rfl;have f2 := HR9.out.free 2;have c3 := HR9.out.cell 3 _ rfl;have f3 := HR9.out.free 3;have c4 := HR9.out.cell 4 _ rfl;have f4 := HR9.out.free 4;have c5 := HR9.out.cell 5 _ rfl;have f5 := HR9.out.free 5;clear hc9 hg9 hcal hco HC8 HG8 HO8 HC9 HG9 HO9 HR9 HR0 HB0 HB1 hB1 KA;go_wp2;exact bodyPost_ret (v := .tuple #[v2, .int .i64 q, .agg #[.int .i64 cl.kind, .string cl.name, .string cl.dest, .int .i64 cl.a, .int .i64 cl.b, .string cl.text]]) (by simp [results, Tryz.results16, go_sem, *]) rfl HEND.out
 ·go_wp2_with fail;refine (K1.out _ _ _ rfl HC3.out).mono ?_;rintro e w4 ⟨v4, rfl, ⟨key, rfl, hkey⟩, hc4, hg4⟩;have HC4 := Lib.hid hc4;have HG4 := Lib.hid (grownBy_trans HG3.out hg4);have HO4 := Lib.hid (HO3.out.far hg4 hcl);clear hc4 hg4 HC3 HG3 HO3 K1;go_wp2_with fail;refine (K2.out _ _ _ rfl HC4.out).mono ?_;rintro e w5 ⟨v5, rfl, ⟨val, rfl, hval⟩, hc5, hg5⟩;have HC5 := Lib.hid hc5;have HG5 := Lib.hid (grownBy_trans HG4.out hg5);obtain ⟨xs, o5, l5, s5⟩ := HO4.out.far hg5 hcl;obtain ⟨a5, cap5, hv5, hr5⟩ := reads_of_owns encC_len o5;subst hv5;have KPK := Lib.hid (specPutKey_c a5 cap5 xs key val w5 (by omega) hr5 (fun x hx => ⟨Nat.le_trans (s5 x hx).1 (by decide), Nat.le_trans (s5 x hx).2 (by decide)⟩) (Nat.le_trans (pk1_size key hkey) (by decide)) (Nat.le_trans (pk2_size val hval) (by decide)));have S5 := Lib.hid (putKeyS_sz s5 (pk1_size key hkey) (pk2_size val hval));have L5 := Lib.hid (show (putKeyS xs key val).length ≤ 700 by have := putKeyS_len xs key val; omega);clear hc5 hg5 HC4 HG4 HO4 K2 o5 l5 s5 hr5 hkey hval;go_wp2_with fail;refine KPK.out.mono ?_;rintro e w6 ⟨v6, rfl, o6, hb6⟩;have HC6 := Lib.hid (HC5.out.below hb6);have HG6 := Lib.hid (grownBy_below2 HG5.out hb6);have HO6 := Lib.hid (show OwnS w1.heap.size 700 v6 w6 from ⟨_, ownsRow_base o6 HG5.out.size, L5.out, S5.out⟩);clear o6 hb6 HC5 HG5 KPK L5 S5;go_wp2_with fail;refine (KP.out _ _ HC6.out).mono ?_;rintro e w8 ⟨v8, rfl, ⟨q, rfl, hq⟩, hc8, hg8⟩;have HC8 := Lib.hid hc8;have HG8 := Lib.hid (grownBy_trans HG6.out hg8);have HO8 := Lib.hid (HO6.out.far hg8 hcl);clear hc8 hg8 HC6 HG6 HO6 KP;go_wp2_with fail;refine (KA.out _ _ HC8.out).mono ?_;rintro e w9 ⟨v9, rfl, hcal, hc9, hg9⟩;obtain ⟨cl, rfl, hco⟩ := isCal_ok hcal;have HC9 := Lib.hid hc9;have HG9 := Lib.hid (grownBy_trans HG8.out hg9);have HO9 := Lib.hid (HO8.out.far hg9 hcl);have HR9 := Lib.hid ((HR0.out.below HB1.out).grown HG9.out (by omega));have HEND := Lib.hid (drawnCall_of (v := v6) (p := q) (cl := cl) (procList_ok q hq) hco HO9.out HR9.out HB0.out HC9.out (by have := hB1.out.size; omega) (by decide));have c0 := HR9.out.cell 0 _ rfl;have f0 := HR9.out.free 0;have c1 := HR9.out.cell 1 _ rfl;have f1 := HR9.out.free 1;have c2 := HR9.out.cell 2 _ rfl;have f2 := HR9.out.free 2;have c3 := HR9.out.cell 3 _ rfl;have f3 := HR9.out.free 3;have c4 := HR9.out.cell 4 _ rfl;have f4 := HR9.out.free 4;have c5 := HR9.out.cell 5 _ rfl;have f5 := HR9.out.free 5;clear hc9 hg9 hcal hco HC8 HG8 HO8 HC9 HG9 HO9 HR9 HR0 HB0 HB1 hB1 KA;go_wp2;exact bodyPost_ret (v := .tuple #[v6, .int .i64 q, .agg #[.int .i64 cl.kind, .string cl.name, .string cl.dest, .int .i64 cl.a, .int .i64 cl.b, .string cl.text]]) (by simp [results, Tryz.results16, go_sem, *]) rfl HEND.out
theorem named_c (k : Int) (s : ByteArray) (w : World) : Calls Tryz.prog 15 #[.int .i64 k, .string s] w fun e w' => e = .returned (.agg #[.int .i64 k, .string s, .string ⟨#[]⟩, .int .i64 0, .int .i64 0, .string ⟨#[]⟩]) ∧ Below w.heap.size w w' := by
 go_enter Tryz.func15, Tryz.ntmps15;go_wp2;exact bodyPost_ret (v := .agg #[.int .i64 k, .string s, .string ⟨#[]⟩, .int .i64 0, .int .i64 0, .string ⟨#[]⟩]) (by simp [results, Tryz.results15, go_sem]) rfl ⟨rfl, (by repeat (first | exact Below.refl _ _ | refine Below.drew ?_ | refine below_drewN ?_ _ | refine Below.allocC ?_ _ | refine Below.setCell ?_ (by first | (simp; done) | (simp; omega)) _ | refine Below.chain ?_ (by assumption)))⟩
end Go.Proofs.YtihghflppegnmaaGreatDoor
namespace Go.Proofs.YtihghflppegnmaaGreatDoor
open Go.RowKit
def xS : ByteArray := ⟨#[120]⟩
def callN (kind : Int) (name : ByteArray) : Cal := ⟨kind, name, ⟨#[]⟩, 0, 0, ⟨#[]⟩⟩
theorem unlink_x : ((callP 1 (callN 3 xS)).sem sto0).2.code = 2 := by
 unfold callP;rw [Pg.sem_bind, sem_state, show getKeyS sto0 (procK 1 tS) = decS 1 from by kernel_rfl, num1];dsimp only;rw [if_pos rfl, if_pos (by kernel_rfl)];rw [kind3 rfl, Pg.sem_bind];unfold unlinkP;rw [if_pos (by kernel_rfl), Pg.sem_bind, show ((fileOfP (callN 3 xS).name).sem sto0) = (sto0, 0) from by
  show (sto0, numOfV (getKeyS sto0 (nK xS))) = (sto0, 0);rw [show getKeyS sto0 (nK xS) = ⟨#[]⟩ from by kernel_rfl, numOf_empty]]
 dsimp only;rw [if_pos rfl];rfl
theorem make_x : ∃ m, (callP 1 (callN 1 xS)).run ⟨sto0, [], []⟩ = (m, ⟨0, 1, noB⟩) ∧ m.st.length = 5 ∧ m.ws.length = 3 := by
 unfold callP;rw [Pg.run_bind, show (stateP 1).run ⟨sto0, [], []⟩ = (⟨sto0, [procK 1 tS], []⟩, 1) from by
  show (_, numOfV (getKeyS sto0 (procK 1 tS))) = _;rw [show getKeyS sto0 (procK 1 tS) = decS 1 from by kernel_rfl, num1];exact Prod.ext (by kernel_rfl) rfl]
 dsimp only;rw [if_pos rfl, if_pos (by kernel_rfl)];rw [kind1 rfl, Pg.run_bind];unfold makeP;rw [if_pos (by kernel_rfl), Pg.run_bind, show (fileOfP (callN 1 xS).name).run ⟨sto0, [procK 1 tS], []⟩ = (⟨sto0, [nK xS, procK 1 tS], []⟩, 0) from by
  show (_, numOfV (getKeyS sto0 (nK xS))) = _;rw [show getKeyS sto0 (nK xS) = ⟨#[]⟩ from by kernel_rfl, numOf_empty];exact Prod.ext (by kernel_rfl) rfl]
 dsimp only;rw [if_pos rfl, Pg.run_bind, show (numP cFile).run ⟨sto0, [nK xS, procK 1 tS], []⟩ = (⟨sto0, [cFile, nK xS, procK 1 tS], []⟩, 0) from by
  show (_, numOfV (getKeyS sto0 cFile)) = _;rw [show getKeyS sto0 cFile = ⟨#[]⟩ from by kernel_rfl, numOf_empty];exact Prod.ext (by kernel_rfl) rfl]
 dsimp only;rw [if_neg (by decide), Pg.run_bind, bump_run];unfold bumpM bumpN nextN;dsimp only;rw [show getKeyS sto0 cFile = ⟨#[]⟩ from by kernel_rfl, numOf_empty, if_neg (by decide), if_neg (by decide), show (0 : Int) + 1 = 1 from rfl, Pg.run_bind,
  show (setP (nK (callN 1 xS).name) 1).run (setM (lookM ⟨sto0, [cFile, nK xS, procK 1 tS], []⟩ cFile) cFile 1) = (⟨putKeyS (putKeyS sto0 cFile (decS 1)) (nK xS) (decS 1), [cFile, nK xS, procK 1 tS], addS [cFile] (nK xS)⟩, ()) from Prod.ext (by kernel_rfl) rfl]
 dsimp only;rw [Pg.run_bind, show (setP (linksK 1) 1).run ⟨putKeyS (putKeyS sto0 cFile (decS 1)) (nK xS) (decS 1), [cFile, nK xS, procK 1 tS], addS [cFile] (nK xS)⟩ = (⟨putKeyS (putKeyS (putKeyS sto0 cFile (decS 1)) (nK xS) (decS 1)) (linksK 1) (decS 1), [cFile, nK xS, procK 1 tS], addS (addS [cFile] (nK xS)) (linksK 1)⟩, ()) from rfl];have h1 : putKeyS sto0 cFile (decS 1) = [(cFile, decS 1), (cProc, decS 1), (procK 1 tS, decS 1)] := (put_ins (by kernel_rfl) (Nat.le_of_ble_eq_true (by kernel_rfl)) (Nat.le_of_ble_eq_true (by kernel_rfl))).trans (by kernel_rfl);rw [h1];have h2 : putKeyS [(cFile, decS 1), (cProc, decS 1), (procK 1 tS, decS 1)] (nK xS) (decS 1) = [(cFile, decS 1), (cProc, decS 1), (nK xS, decS 1), (procK 1 tS, decS 1)] := (put_ins (by kernel_rfl) (Nat.le_of_ble_eq_true (by kernel_rfl)) (Nat.le_of_ble_eq_true (by kernel_rfl))).trans (by kernel_rfl);rw [h2];have h3 : putKeyS [(cFile, decS 1), (cProc, decS 1), (nK xS, decS 1), (procK 1 tS, decS 1)] (linksK 1) (decS 1) = [(cFile, decS 1), (cProc, decS 1), (linksK 1, decS 1), (nK xS, decS 1), (procK 1 tS, decS 1)] := (put_ins (by kernel_rfl) (Nat.le_of_ble_eq_true (by kernel_rfl)) (Nat.le_of_ble_eq_true (by kernel_rfl))).trans (by kernel_rfl);rw [h3];exact ⟨_, rfl, rfl, by kernel_rfl⟩
def looksB (k : Int) : Bool := k == 5 || k == 6 || k == 15 || k == 21
theorem specLooks_c (k : Int) (w : World) : Calls Tryz.prog 21 #[.int .i64 k] w fun e w' => e = .returned (.bool (looksB k)) ∧ w = w' := by
 by_cases h1 : k = 5
 ·subst h1;go_enter Tryz.func21, Tryz.ntmps21;go_wp2;go_ret;exact ⟨rfl, rfl⟩
 have e1 : (k == 5) = false := by rw [beq_eq_false_iff_ne]; exact h1
 by_cases h2 : k = 6
 ·subst h2;go_enter Tryz.func21, Tryz.ntmps21;go_wp2;go_ret;exact ⟨rfl, rfl⟩
 have e2 : (k == 6) = false := by rw [beq_eq_false_iff_ne]; exact h2
 by_cases h3 : k = 15
 ·subst h3;go_enter Tryz.func21, Tryz.ntmps21;go_wp2;go_ret;exact ⟨rfl, rfl⟩
 have e3 : (k == 15) = false := by rw [beq_eq_false_iff_ne]; exact h3
 have HL := Lib.hid (show looksB k = (k == 21) from by unfold looksB; rw [e1, e2, e3]; rfl);go_enter Tryz.func21, Tryz.ntmps21;go_wp2;go_ret;exact ⟨by rw [HL.out]; rfl, rfl⟩
end Go.Proofs.YtihghflppegnmaaGreatDoor
namespace Go.Proofs.YtihghflppegnmaaGreatDoor
open Go.RowKit
namespace Pg
variable {α β : Type}
def Still : Pg α → Prop
 | .ret _ => True
 | .look _ f => ∀ v, Still (f v)
 | .lay _ _ _ => False
 | .under _ f => ∀ ks, Still (f ks)
def All (g : α → Prop) : Pg α → Prop
 | .ret a => g a
 | .look _ f => ∀ v, All g (f v)
 | .lay _ _ f => All g f
 | .under _ f => ∀ ks, All g (f ks)
def Clean (g : α → Prop) : Pg α → Prop
 | .ret _ => True
 | .look _ f => ∀ v, Clean g (f v)
 | .lay _ _ f => All g f
 | .under _ f => ∀ ks, Clean g (f ks)
variable {g : α → Prop} {p : β → Prop}
theorem All.sem {x : Pg α} : All g x → ∀ s : Sto, g (x.sem s).2 := by
 induction x with
 | ret a => intro h _; exact h
 | look k f ih => intro h s; exact ih _ (h _) s
 | lay k v f ih => intro h s; exact ih h _
 | under q f ih => intro h s; exact ih _ (h _) s
theorem Clean.sem {x : Pg α} : Clean g x → ∀ s : Sto, g (x.sem s).2 ∨ (x.sem s).1 = s := by
 induction x with
 | ret a => intro _ s; exact .inr rfl
 | look k f ih => intro h s; exact ih _ (h _) s
 | lay k v f ih => intro h s; exact .inl (All.sem (x := f) h _)
 | under q f ih => intro h s; exact ih _ (h _) s
theorem Still.run {x : Pg α} : Still x → ∀ m : Mch, (x.run m).1.st = m.st ∧ (x.run m).1.ws = m.ws := by
 induction x with
 | ret a => intro _ m; exact ⟨rfl, rfl⟩
 | look k f ih => intro h m; exact ih _ (h _) (lookM m k)
 | lay k v f ih => intro h; exact h.elim
 | under q f ih => intro h m; exact ih _ (h _) (lookM m (starK q))
theorem All.clean {x : Pg α} : All g x → Clean g x := by
 induction x with
 | ret a => intro _; exact trivial
 | look k f ih => intro h v; exact ih v (h v)
 | lay k v f ih => intro h; exact h
 | under q f ih => intro h v; exact ih v (h v)
theorem All.bind {x : Pg β} {h : β → Pg α} (hg : ∀ v, All g (h v)) : All g (x >>= h) := by
 induction x with
 | ret a => exact hg a
 | look k f ih => exact fun v => ih v
 | lay k v f ih => exact ih
 | under q f ih => exact fun v => ih v
theorem All.bindP {x : Pg β} {h : β → Pg α} (hx : All p x) (hg : ∀ v, p v → All g (h v)) : All g (x >>= h) := by
 induction x with
 | ret a => exact hg a hx
 | look k f ih => exact fun v => ih v (hx v)
 | lay k v f ih => exact ih hx
 | under q f ih => exact fun v => ih v (hx v)
theorem Clean.bind {x : Pg β} {h : β → Pg α} (hx : Clean p x) (hg : ∀ v, p v → All g (h v)) (hn : ∀ v, Clean g (h v)) : Clean g (x >>= h) := by
 induction x with
 | ret a => exact hn a
 | look k f ih => exact fun v => ih v (hx v)
 | lay k v f ih => exact All.bindP (x := f) hx hg
 | under q f ih => exact fun v => ih v (hx v)
theorem Clean.still {x : Pg β} {h : β → Pg α} (hx : Still x) (hn : ∀ v, Clean g (h v)) : Clean g (x >>= h) := by
 induction x with
 | ret a => exact hn a
 | look k f ih => exact fun v => ih v (hx v)
 | lay k v f ih => exact hx.elim
 | under q f ih => exact fun v => ih v (hx v)
theorem Still.bind {x : Pg β} {h : β → Pg α} (hx : Still x) (hn : ∀ v, Still (h v)) : Still (x >>= h) := by
 induction x with
 | ret a => exact hn a
 | look k f ih => exact fun v => ih v (hx v)
 | lay k v f ih => exact hx.elim
 | under q f ih => exact fun v => ih v (hx v)
theorem Clean.map {x : Pg β} {f : β → α} (hx : Clean p x) (h : ∀ v, p v → g (f v)) : Clean g (x >>= fun v => pure (f v)) := Clean.bind hx (fun v hv => h v hv) (fun _ => trivial)
theorem Clean.pure (a : α) : Clean g (Pure.pure a : Pg α) := trivial
theorem Still.pure (a : α) : Still (Pure.pure a : Pg α) := trivial
theorem Clean.ite {q : Prop} [Decidable q] {x y : Pg α} (hx : Clean g x) (hy : Clean g y) : Clean g (if q then x else y) := by
 split
 ·exact hx
 ·exact hy
theorem All.ite {q : Prop} [Decidable q] {x y : Pg α} (hx : All g x) (hy : All g y) : All g (if q then x else y) := by
 split
 ·exact hx
 ·exact hy
theorem Still.ite {q : Prop} [Decidable q] {x y : Pg α} (hx : Still x) (hy : Still y) : Still (if q then x else y) := by
 split
 ·exact hx
 ·exact hy
end Pg
open Pg
theorem numP_still (k : ByteArray) : Still (numP k) := fun _ => trivial
theorem msgP_still (k : ByteArray) : Still (msgP k) := fun _ => trivial
theorem blockP_still (i j : Int) : Still (blockP i j) := fun _ => trivial
theorem namesP_still : Still namesP := fun _ => trivial
theorem fileOfP_still (a : ByteArray) : Still (fileOfP a) := by
 unfold fileOfP;exact Still.ite (numP_still _) (Still.pure _)
theorem isPipeP_still (a : Int) : Still (isPipeP a) := by
 unfold isPipeP;exact Still.bind (numP_still _) (fun _ => trivial)
theorem stateP_still (a : Int) : Still (stateP a) := numP_still _
theorem loadP_still (a b : Int) : Still (loadP a b) := by
 unfold loadP;exact Still.ite (Still.bind (msgP_still _) (fun _ => trivial)) (Still.pure _)
theorem readL_still (id a e : Int) : ∀ (n : Nat) (p : Int) (s : ByteArray), Still (readL id a e n p s)
 | 0, _, _ => trivial
 | n + 1, _, _ => by
  unfold readL;exact Still.ite (Still.bind (blockP_still _ _) (fun _ => readL_still id a e n _ _)) trivial
theorem readP_still (a b c : Int) : Still (readP a b c) := by
 unfold readP;exact Still.bind (numP_still _) (fun _ => Still.ite trivial (readL_still _ _ _ _ _ _))
theorem kidsL_still (p : Int) : ∀ (ks : List ByteArray) (o : List Int), Still (kidsL p ks o)
 | [], _ => trivial
 | k :: ks, _ => by
  unfold kidsL;exact Still.ite (Still.bind (numP_still _) (fun _ => kidsL_still p ks _)) (kidsL_still p ks _)
theorem kidsP_still (p : Int) : Still (kidsP p) := fun _ => kidsL_still p _ _
theorem makeP_clean (a : ByteArray) : Pg.Clean (fun x => x.2 = 0) (makeP a) := by
 unfold makeP
 repeat' first | exact Pg.Clean.pure _ | exact (rfl : (_ : Int) = 0) | with_reducible refine Pg.Clean.ite ?_ ?_ | with_reducible refine Pg.Clean.still (numP_still _) (fun _ => ?_) | with_reducible refine Pg.Clean.still (msgP_still _) (fun _ => ?_) | with_reducible refine Pg.Clean.still (blockP_still _ _) (fun _ => ?_) | with_reducible refine Pg.Clean.still (fileOfP_still _) (fun _ => ?_) | with_reducible refine Pg.Clean.still (isPipeP_still _) (fun _ => ?_) | with_reducible refine Pg.Clean.still (stateP_still _) (fun _ => ?_) | (refine All.clean ?_; repeat' first | exact (rfl : (_ : Int) = 0) | with_reducible refine All.ite ?_ ?_ | with_reducible refine All.bind (fun _ => ?_))
theorem linkP_clean (a b : ByteArray) : Pg.Clean (fun x => x = 0) (linkP a b) := by
 unfold linkP
 repeat' first | exact Pg.Clean.pure _ | exact (rfl : (_ : Int) = 0) | with_reducible refine Pg.Clean.ite ?_ ?_ | with_reducible refine Pg.Clean.still (numP_still _) (fun _ => ?_) | with_reducible refine Pg.Clean.still (msgP_still _) (fun _ => ?_) | with_reducible refine Pg.Clean.still (blockP_still _ _) (fun _ => ?_) | with_reducible refine Pg.Clean.still (fileOfP_still _) (fun _ => ?_) | with_reducible refine Pg.Clean.still (isPipeP_still _) (fun _ => ?_) | with_reducible refine Pg.Clean.still (stateP_still _) (fun _ => ?_) | (refine All.clean ?_; repeat' first | exact (rfl : (_ : Int) = 0) | with_reducible refine All.ite ?_ ?_ | with_reducible refine All.bind (fun _ => ?_))
theorem unlinkP_clean (a : ByteArray) : Pg.Clean (fun x => x = 0) (unlinkP a) := by
 unfold unlinkP
 repeat' first | exact Pg.Clean.pure _ | exact (rfl : (_ : Int) = 0) | with_reducible refine Pg.Clean.ite ?_ ?_ | with_reducible refine Pg.Clean.still (numP_still _) (fun _ => ?_) | with_reducible refine Pg.Clean.still (msgP_still _) (fun _ => ?_) | with_reducible refine Pg.Clean.still (blockP_still _ _) (fun _ => ?_) | with_reducible refine Pg.Clean.still (fileOfP_still _) (fun _ => ?_) | with_reducible refine Pg.Clean.still (isPipeP_still _) (fun _ => ?_) | with_reducible refine Pg.Clean.still (stateP_still _) (fun _ => ?_) | (refine All.clean ?_; repeat' first | exact (rfl : (_ : Int) = 0) | with_reducible refine All.ite ?_ ?_ | with_reducible refine All.bind (fun _ => ?_))
theorem renameP_clean (a b : ByteArray) : Pg.Clean (fun x => x = 0) (renameP a b) := by
 unfold renameP
 repeat' first | exact Pg.Clean.pure _ | exact (rfl : (_ : Int) = 0) | with_reducible refine Pg.Clean.ite ?_ ?_ | with_reducible refine Pg.Clean.still (numP_still _) (fun _ => ?_) | with_reducible refine Pg.Clean.still (msgP_still _) (fun _ => ?_) | with_reducible refine Pg.Clean.still (blockP_still _ _) (fun _ => ?_) | with_reducible refine Pg.Clean.still (fileOfP_still _) (fun _ => ?_) | with_reducible refine Pg.Clean.still (isPipeP_still _) (fun _ => ?_) | with_reducible refine Pg.Clean.still (stateP_still _) (fun _ => ?_) | (refine All.clean ?_; repeat' first | exact (rfl : (_ : Int) = 0) | with_reducible refine All.ite ?_ ?_ | with_reducible refine All.bind (fun _ => ?_))
theorem mkPipeP_clean  : Pg.Clean (fun x => x.2 = 0) (mkPipeP ) := by
 unfold mkPipeP
 repeat' first | exact Pg.Clean.pure _ | exact (rfl : (_ : Int) = 0) | with_reducible refine Pg.Clean.ite ?_ ?_ | with_reducible refine Pg.Clean.still (numP_still _) (fun _ => ?_) | with_reducible refine Pg.Clean.still (msgP_still _) (fun _ => ?_) | with_reducible refine Pg.Clean.still (blockP_still _ _) (fun _ => ?_) | with_reducible refine Pg.Clean.still (fileOfP_still _) (fun _ => ?_) | with_reducible refine Pg.Clean.still (isPipeP_still _) (fun _ => ?_) | with_reducible refine Pg.Clean.still (stateP_still _) (fun _ => ?_) | (refine All.clean ?_; repeat' first | exact (rfl : (_ : Int) = 0) | with_reducible refine All.ite ?_ ?_ | with_reducible refine All.bind (fun _ => ?_))
theorem putPipeP_clean (a : Int) (t : ByteArray) : Pg.Clean (fun x => x = 0) (putPipeP a t) := by
 unfold putPipeP
 repeat' first | exact Pg.Clean.pure _ | exact (rfl : (_ : Int) = 0) | with_reducible refine Pg.Clean.ite ?_ ?_ | with_reducible refine Pg.Clean.still (numP_still _) (fun _ => ?_) | with_reducible refine Pg.Clean.still (msgP_still _) (fun _ => ?_) | with_reducible refine Pg.Clean.still (blockP_still _ _) (fun _ => ?_) | with_reducible refine Pg.Clean.still (fileOfP_still _) (fun _ => ?_) | with_reducible refine Pg.Clean.still (isPipeP_still _) (fun _ => ?_) | with_reducible refine Pg.Clean.still (stateP_still _) (fun _ => ?_) | (refine All.clean ?_; repeat' first | exact (rfl : (_ : Int) = 0) | with_reducible refine All.ite ?_ ?_ | with_reducible refine All.bind (fun _ => ?_))
theorem takePipeP_clean (a : Int) : Pg.Clean (fun x => x.2 = 0) (takePipeP a) := by
 unfold takePipeP
 repeat' first | exact Pg.Clean.pure _ | exact (rfl : (_ : Int) = 0) | with_reducible refine Pg.Clean.ite ?_ ?_ | with_reducible refine Pg.Clean.still (numP_still _) (fun _ => ?_) | with_reducible refine Pg.Clean.still (msgP_still _) (fun _ => ?_) | with_reducible refine Pg.Clean.still (blockP_still _ _) (fun _ => ?_) | with_reducible refine Pg.Clean.still (fileOfP_still _) (fun _ => ?_) | with_reducible refine Pg.Clean.still (isPipeP_still _) (fun _ => ?_) | with_reducible refine Pg.Clean.still (stateP_still _) (fun _ => ?_) | (refine All.clean ?_; repeat' first | exact (rfl : (_ : Int) = 0) | with_reducible refine All.ite ?_ ?_ | with_reducible refine All.bind (fun _ => ?_))
theorem spawnP_clean (a : Int) : Pg.Clean (fun x => x.2 = 0) (spawnP a) := by
 unfold spawnP
 repeat' first | exact Pg.Clean.pure _ | exact (rfl : (_ : Int) = 0) | with_reducible refine Pg.Clean.ite ?_ ?_ | with_reducible refine Pg.Clean.still (numP_still _) (fun _ => ?_) | with_reducible refine Pg.Clean.still (msgP_still _) (fun _ => ?_) | with_reducible refine Pg.Clean.still (blockP_still _ _) (fun _ => ?_) | with_reducible refine Pg.Clean.still (fileOfP_still _) (fun _ => ?_) | with_reducible refine Pg.Clean.still (isPipeP_still _) (fun _ => ?_) | with_reducible refine Pg.Clean.still (stateP_still _) (fun _ => ?_) | (refine All.clean ?_; repeat' first | exact (rfl : (_ : Int) = 0) | with_reducible refine All.ite ?_ ?_ | with_reducible refine All.bind (fun _ => ?_))
theorem endP_clean (a b : Int) : Pg.Clean (fun x => x = 0) (endP a b) := by
 unfold endP
 repeat' first | exact Pg.Clean.pure _ | exact (rfl : (_ : Int) = 0) | with_reducible refine Pg.Clean.ite ?_ ?_ | with_reducible refine Pg.Clean.still (numP_still _) (fun _ => ?_) | with_reducible refine Pg.Clean.still (msgP_still _) (fun _ => ?_) | with_reducible refine Pg.Clean.still (blockP_still _ _) (fun _ => ?_) | with_reducible refine Pg.Clean.still (fileOfP_still _) (fun _ => ?_) | with_reducible refine Pg.Clean.still (isPipeP_still _) (fun _ => ?_) | with_reducible refine Pg.Clean.still (stateP_still _) (fun _ => ?_) | (refine All.clean ?_; repeat' first | exact (rfl : (_ : Int) = 0) | with_reducible refine All.ite ?_ ?_ | with_reducible refine All.bind (fun _ => ?_))
theorem reapP_clean (a b : Int) : Pg.Clean (fun x => x.2 = 0) (reapP a b) := by
 unfold reapP
 repeat' first | exact Pg.Clean.pure _ | exact (rfl : (_ : Int) = 0) | with_reducible refine Pg.Clean.ite ?_ ?_ | with_reducible refine Pg.Clean.still (numP_still _) (fun _ => ?_) | with_reducible refine Pg.Clean.still (msgP_still _) (fun _ => ?_) | with_reducible refine Pg.Clean.still (blockP_still _ _) (fun _ => ?_) | with_reducible refine Pg.Clean.still (fileOfP_still _) (fun _ => ?_) | with_reducible refine Pg.Clean.still (isPipeP_still _) (fun _ => ?_) | with_reducible refine Pg.Clean.still (stateP_still _) (fun _ => ?_) | (refine All.clean ?_; repeat' first | exact (rfl : (_ : Int) = 0) | with_reducible refine All.ite ?_ ?_ | with_reducible refine All.bind (fun _ => ?_))
theorem sendP_clean (a b : Int) : Pg.Clean (fun x => x = 0) (sendP a b) := by
 unfold sendP
 repeat' first | exact Pg.Clean.pure _ | exact (rfl : (_ : Int) = 0) | with_reducible refine Pg.Clean.ite ?_ ?_ | with_reducible refine Pg.Clean.still (numP_still _) (fun _ => ?_) | with_reducible refine Pg.Clean.still (msgP_still _) (fun _ => ?_) | with_reducible refine Pg.Clean.still (blockP_still _ _) (fun _ => ?_) | with_reducible refine Pg.Clean.still (fileOfP_still _) (fun _ => ?_) | with_reducible refine Pg.Clean.still (isPipeP_still _) (fun _ => ?_) | with_reducible refine Pg.Clean.still (stateP_still _) (fun _ => ?_) | (refine All.clean ?_; repeat' first | exact (rfl : (_ : Int) = 0) | with_reducible refine All.ite ?_ ?_ | with_reducible refine All.bind (fun _ => ?_))
theorem takeSigP_clean (a : Int) : Pg.Clean (fun x => x.2 = 0) (takeSigP a) := by
 unfold takeSigP
 repeat' first | exact Pg.Clean.pure _ | exact (rfl : (_ : Int) = 0) | with_reducible refine Pg.Clean.ite ?_ ?_ | with_reducible refine Pg.Clean.still (numP_still _) (fun _ => ?_) | with_reducible refine Pg.Clean.still (msgP_still _) (fun _ => ?_) | with_reducible refine Pg.Clean.still (blockP_still _ _) (fun _ => ?_) | with_reducible refine Pg.Clean.still (fileOfP_still _) (fun _ => ?_) | with_reducible refine Pg.Clean.still (isPipeP_still _) (fun _ => ?_) | with_reducible refine Pg.Clean.still (stateP_still _) (fun _ => ?_) | (refine All.clean ?_; repeat' first | exact (rfl : (_ : Int) = 0) | with_reducible refine All.ite ?_ ?_ | with_reducible refine All.bind (fun _ => ?_))
theorem timerP_clean (a b : Int) : Pg.Clean (fun x => x = 0) (timerP a b) := by
 unfold timerP
 repeat' first | exact Pg.Clean.pure _ | exact (rfl : (_ : Int) = 0) | with_reducible refine Pg.Clean.ite ?_ ?_ | with_reducible refine Pg.Clean.still (numP_still _) (fun _ => ?_) | with_reducible refine Pg.Clean.still (msgP_still _) (fun _ => ?_) | with_reducible refine Pg.Clean.still (blockP_still _ _) (fun _ => ?_) | with_reducible refine Pg.Clean.still (fileOfP_still _) (fun _ => ?_) | with_reducible refine Pg.Clean.still (isPipeP_still _) (fun _ => ?_) | with_reducible refine Pg.Clean.still (stateP_still _) (fun _ => ?_) | (refine All.clean ?_; repeat' first | exact (rfl : (_ : Int) = 0) | with_reducible refine All.ite ?_ ?_ | with_reducible refine All.bind (fun _ => ?_))
theorem tickP_clean (a : Int) : Pg.Clean (fun x => x.2 = 0) (tickP a) := by
 unfold tickP
 repeat' first | exact Pg.Clean.pure _ | exact (rfl : (_ : Int) = 0) | with_reducible refine Pg.Clean.ite ?_ ?_ | with_reducible refine Pg.Clean.still (numP_still _) (fun _ => ?_) | with_reducible refine Pg.Clean.still (msgP_still _) (fun _ => ?_) | with_reducible refine Pg.Clean.still (blockP_still _ _) (fun _ => ?_) | with_reducible refine Pg.Clean.still (fileOfP_still _) (fun _ => ?_) | with_reducible refine Pg.Clean.still (isPipeP_still _) (fun _ => ?_) | with_reducible refine Pg.Clean.still (stateP_still _) (fun _ => ?_) | (refine All.clean ?_; repeat' first | exact (rfl : (_ : Int) = 0) | with_reducible refine All.ite ?_ ?_ | with_reducible refine All.bind (fun _ => ?_))
theorem storeP_clean (a b : Int) (t : ByteArray) : Pg.Clean (fun x => x = 0) (storeP a b t) := by
 unfold storeP
 repeat' first | exact Pg.Clean.pure _ | exact (rfl : (_ : Int) = 0) | with_reducible refine Pg.Clean.ite ?_ ?_ | with_reducible refine Pg.Clean.still (numP_still _) (fun _ => ?_) | with_reducible refine Pg.Clean.still (msgP_still _) (fun _ => ?_) | with_reducible refine Pg.Clean.still (blockP_still _ _) (fun _ => ?_) | with_reducible refine Pg.Clean.still (fileOfP_still _) (fun _ => ?_) | with_reducible refine Pg.Clean.still (isPipeP_still _) (fun _ => ?_) | with_reducible refine Pg.Clean.still (stateP_still _) (fun _ => ?_) | (refine All.clean ?_; repeat' first | exact (rfl : (_ : Int) = 0) | with_reducible refine All.ite ?_ ?_ | with_reducible refine All.bind (fun _ => ?_))
theorem putOutP_clean (t : ByteArray) : Pg.Clean (fun x => x = 0) (putOutP t) := by
 unfold putOutP
 repeat' first | exact Pg.Clean.pure _ | exact (rfl : (_ : Int) = 0) | with_reducible refine Pg.Clean.ite ?_ ?_ | with_reducible refine Pg.Clean.still (numP_still _) (fun _ => ?_) | with_reducible refine Pg.Clean.still (msgP_still _) (fun _ => ?_) | with_reducible refine Pg.Clean.still (blockP_still _ _) (fun _ => ?_) | with_reducible refine Pg.Clean.still (fileOfP_still _) (fun _ => ?_) | with_reducible refine Pg.Clean.still (isPipeP_still _) (fun _ => ?_) | with_reducible refine Pg.Clean.still (stateP_still _) (fun _ => ?_) | (refine All.clean ?_; repeat' first | exact (rfl : (_ : Int) = 0) | with_reducible refine All.ite ?_ ?_ | with_reducible refine All.bind (fun _ => ?_))
theorem writeP_clean (a b : Int) (t : ByteArray) : Pg.Clean (fun x => x = 0) (writeP a b t) := by
 unfold writeP
 repeat' first | exact Pg.Clean.pure _ | exact (rfl : (_ : Int) = 0) | with_reducible refine Pg.Clean.ite ?_ ?_ | with_reducible refine Pg.Clean.still (numP_still _) (fun _ => ?_) | with_reducible refine Pg.Clean.still (msgP_still _) (fun _ => ?_) | with_reducible refine Pg.Clean.still (blockP_still _ _) (fun _ => ?_) | with_reducible refine Pg.Clean.still (fileOfP_still _) (fun _ => ?_) | with_reducible refine Pg.Clean.still (isPipeP_still _) (fun _ => ?_) | with_reducible refine Pg.Clean.still (stateP_still _) (fun _ => ?_) | (refine All.clean ?_; repeat' first | exact (rfl : (_ : Int) = 0) | with_reducible refine All.ite ?_ ?_ | with_reducible refine All.bind (fun _ => ?_))
theorem cutP_clean (a b : Int) : Pg.Clean (fun x => x = 0) (cutP a b) := by
 unfold cutP
 repeat' first | exact Pg.Clean.pure _ | exact (rfl : (_ : Int) = 0) | with_reducible refine Pg.Clean.ite ?_ ?_ | with_reducible refine Pg.Clean.still (numP_still _) (fun _ => ?_) | with_reducible refine Pg.Clean.still (msgP_still _) (fun _ => ?_) | with_reducible refine Pg.Clean.still (blockP_still _ _) (fun _ => ?_) | with_reducible refine Pg.Clean.still (fileOfP_still _) (fun _ => ?_) | with_reducible refine Pg.Clean.still (isPipeP_still _) (fun _ => ?_) | with_reducible refine Pg.Clean.still (stateP_still _) (fun _ => ?_) | (refine All.clean ?_; repeat' first | exact (rfl : (_ : Int) = 0) | with_reducible refine All.ite ?_ ?_ | with_reducible refine All.bind (fun _ => ?_))
theorem fileP_clean (c : Cal) : Pg.Clean (fun a : Ans => a.code = 0) (fileP c) := by
 unfold fileP;refine Pg.Clean.still (fileOfP_still _) (fun _ => Pg.Clean.ite (Pg.Clean.pure _) (Pg.Clean.ite (Pg.Clean.still (readP_still _ _ _) (fun _ => Pg.Clean.pure _)) (Pg.Clean.ite ?_ ?_)))
 ·exact Pg.Clean.map (writeP_clean _ _ _) (fun _ h => h)
 ·exact Pg.Clean.map (cutP_clean _ _) (fun _ h => h)
theorem spawnAllP_clean (a : Int) : Pg.Clean (fun a : Ans => a.code = 0) (spawnAllP a) := by
 unfold spawnAllP;refine Pg.Clean.bind (spawnP_clean _) (fun v hv => ?_) (fun v => ?_)
 ·rw [if_pos hv]; exact All.bind (fun _ => hv)
 ·split
  ·rename_i h; exact All.clean (All.bind (fun _ => h))
  ·exact Pg.Clean.pure _
theorem endAllP_clean (a b : Int) : Pg.Clean (fun a : Ans => a.code = 0) (endAllP a b) := by
 unfold endAllP;refine Pg.Clean.bind (endP_clean _ _) (fun v hv => ?_) (fun v => ?_)
 ·rw [if_pos hv]; exact All.bind (fun _ => hv)
 ·split
  ·rename_i h; exact All.clean (All.bind (fun _ => h))
  ·exact Pg.Clean.pure _
theorem kindP_clean (p : Int) (c : Cal) : Pg.Clean (fun a : Ans => a.code = 0) (kindP p c) := by
 unfold kindP;refine Pg.Clean.ite (Pg.Clean.map (makeP_clean _) (fun _ h => h)) (Pg.Clean.ite (Pg.Clean.map (linkP_clean _ _) (fun _ h => h)) (Pg.Clean.ite (Pg.Clean.map (unlinkP_clean _) (fun _ h => h)) (Pg.Clean.ite (Pg.Clean.map (renameP_clean _ _) (fun _ h => h)) ?_)));refine Pg.Clean.ite (Pg.Clean.still namesP_still (fun _ => Pg.Clean.pure _)) (Pg.Clean.ite (fileP_clean _) (Pg.Clean.ite (Pg.Clean.map mkPipeP_clean (fun _ h => h)) (Pg.Clean.ite (Pg.Clean.map (putPipeP_clean _ _) (fun _ h => h)) (Pg.Clean.ite (Pg.Clean.map (takePipeP_clean _) (fun _ h => h)) ?_))));refine Pg.Clean.ite (spawnAllP_clean _) (Pg.Clean.ite (endAllP_clean _ _) (Pg.Clean.ite (Pg.Clean.map (reapP_clean _ _) (fun _ h => h)) (Pg.Clean.ite (Pg.Clean.still (kidsP_still _) (fun _ => Pg.Clean.pure _)) (Pg.Clean.ite (Pg.Clean.map (sendP_clean _ _) (fun _ h => h)) ?_))));refine Pg.Clean.ite (Pg.Clean.map (takeSigP_clean _) (fun _ h => h)) (Pg.Clean.ite (Pg.Clean.map (timerP_clean _ _) (fun _ h => h)) (Pg.Clean.ite (Pg.Clean.map (tickP_clean _) (fun _ h => h)) (Pg.Clean.ite (Pg.Clean.map (storeP_clean _ _ _) (fun _ h => h)) (Pg.Clean.ite (Pg.Clean.still (loadP_still _ _) (fun _ => Pg.Clean.pure _)) (Pg.Clean.map (putOutP_clean _) (fun _ h => h))))))
theorem callP_clean (p : Int) (c : Cal) : Pg.Clean (fun a : Ans => a.code = 0) (callP p c) := by
 unfold callP;exact Pg.Clean.still (stateP_still _) (fun _ => Pg.Clean.ite (Pg.Clean.ite (kindP_clean _ _) (Pg.Clean.pure _)) (Pg.Clean.pure _))
theorem callP_refused (p : Int) (c : Cal) (m : Mch) : ((callP p c).run m).2.code = 0 ∨ ((callP p c).run m).1.st = m.st := by
 obtain ⟨h1, h2⟩ := (callP p c).run_sem m;rw [h1, h2];exact (callP_clean p c).sem m.st
end Go.Proofs.YtihghflppegnmaaGreatDoor
namespace Go.Proofs.YtihghflppegnmaaGreatDoor
open Go.RowKit
attribute [local go_sem ↓] Go.wp_at_zero Go.wp_at_succ
theorem readqCCell {w wr : World} {a : Option Addr} {xs : List (ByteArray × ByteArray)} (hr : Reads w a 2 encC xs) (hb : Below w.heap.size w wr) {k : Nat} {x : (ByteArray × ByteArray)} (hx : xs[k]? = some x) :
 ∃ b off, a = some ⟨b, off, none⟩ ∧ wr.cell? ⟨b, off + k * 2, none⟩ = some (.string x.1) ∧ wr.cell? ⟨b, off + k * 2 + 1, none⟩ = some (.string x.2) := by
 rcases hr.below hb with rfl | ⟨b, off, h1, _, h3⟩
 ·simp at hx
 ·exact ⟨b, off, h1, by simpa [Nat.add_assoc] using h3 k x hx 0 _ rfl, by simpa [Nat.add_assoc] using h3 k x hx 1 _ rfl⟩
set_option maxHeartbeats 4000000 in
theorem lawEqCell_c (a a2 : Option Addr) (cap cap2 : Nat) (xs ys : List (ByteArray × ByteArray)) (w : World) (hlen : xs.length ≤ maxLen) (hr : Reads w a 2 encC xs) (hr2 : Reads w a2 2 encC ys) :
 Calls Tryz.prog 17 #[.slice a xs.length cap, .slice a2 ys.length cap2] w fun e w' => e = .returned (.bool (same xs ys)) ∧ Below w.heap.size w w' := by
 have HR := Lib.hid hr;have HR2 := Lib.hid hr2;clear hr hr2;unfold maxLen at hlen;by_cases h1 : xs.length = ys.length
 ·have HE := Lib.hid h1;have hq : ((xs.length : Int) != (ys.length : Int)) = false := by simp [h1]
  have h1' : ys.length ≤ xs.length := by omega
  have h1'' : xs.length ≤ ys.length := by omega
  clear h1;go_enter Tryz.func17, Tryz.ntmps17;go_wp2;go_loopw [5] (fun i wr => ∃ k : Nat, k ≤ xs.length ∧ i = .int .i64 k ∧ upTo xs ys k ∧ Below w.heap.size w wr) (fun i _ => xs.length - (intOf i).toNat)
  case atStart => exact ⟨0, Nat.zero_le _, rfl, upTo_zero _ _, (by repeat (first | exact Below.refl _ _ | assumption | refine Below.alloc ?_ (by simp <;> omega) _ | refine Below.setCell ?_ (by simp <;> omega) _ | refine Below.drew ?_))⟩
  case round =>
   obtain ⟨k, hk, rfl, hup, hb⟩ := hrel;by_cases hlt : k < xs.length
   ·obtain ⟨x, hx⟩ := some_of_lt hlt;obtain ⟨y, hy⟩ := some_of_lt (xs := ys) (k := k) (by omega);obtain ⟨b, off, rfl, c0, c1⟩ := readqCCell HR.out hb hx;obtain ⟨b2, off2, rfl, d0, d1⟩ := readqCCell HR2.out hb hy;have p1 : (0 : Int) ≤ (k : Int) := by omega
    have p2 : (k : Int) < (xs.length : Int) := by omega
    have p3 : (k : Int) < (ys.length : Int) := by omega
    have HX := Lib.hid hx;have HY := Lib.hid hy;clear hx hy;obtain ⟨a0, a1⟩ := x;obtain ⟨e0, e1⟩ := y;dsimp only at c0 c1 d0 d1;by_cases h2 : a0 = e0
    rotate_left
    ·have HN := Lib.hid (same_at HX.out HY.out (same_ne (by simp [h2])));have q1 := toList_ne h2;have q2 := beq_toList_false h2;have q3 := bne_toList_true h2;clear HX HY;go_wp2_with fail;go_region_held3 (fun w' => w'.cell? ⟨b, off + k * 2, none⟩ = some (.string a0) ∧ w'.cell? ⟨b, off + k * 2 + 1, none⟩ = some (.string a1) ∧ w'.cell? ⟨b2, off2 + k * 2, none⟩ = some (.string e0) ∧ w'.cell? ⟨b2, off2 + k * 2 + 1, none⟩ = some (.string e1)) ((go_split_ands; (repeat' apply And.intro) <;> first | assumption | exact keepS (by assumption) (by assumption))) (fail);go_wp2;go_ret;exact ⟨by rw [HN.out]; rfl, (by repeat (first | exact Below.refl _ _ | refine Below.drew ?_ | refine below_drewN ?_ _ | refine Below.allocC ?_ _ | refine Below.setCell ?_ (by first | (simp; done) | (simp; omega)) _ | refine Below.chain ?_ (by assumption)))⟩
    subst h2;by_cases h3 : a1 = e1
    rotate_left
    ·have HN := Lib.hid (same_at HX.out HY.out (same_ne (by simp [h3])));have q1 := toList_ne h3;have q2 := beq_toList_false h3;have q3 := bne_toList_true h3;clear HX HY;go_wp2_with fail;go_region_held3 (fun w' => w'.cell? ⟨b, off + k * 2, none⟩ = some (.string a0) ∧ w'.cell? ⟨b, off + k * 2 + 1, none⟩ = some (.string a1) ∧ w'.cell? ⟨b2, off2 + k * 2, none⟩ = some (.string a0) ∧ w'.cell? ⟨b2, off2 + k * 2 + 1, none⟩ = some (.string e1)) ((go_split_ands; (repeat' apply And.intro) <;> first | assumption | exact keepS (by assumption) (by assumption))) (fail);go_wp2;go_ret;exact ⟨by rw [HN.out]; rfl, (by repeat (first | exact Below.refl _ _ | refine Below.drew ?_ | refine below_drewN ?_ _ | refine Below.allocC ?_ _ | refine Below.setCell ?_ (by first | (simp; done) | (simp; omega)) _ | refine Below.chain ?_ (by assumption)))⟩
    subst h3;have hs := upTo_succ hup HX.out HY.out (same_self _);clear HX HY;go_wp2_with fail;go_region_held3 (fun w' => w'.cell? ⟨b, off + k * 2, none⟩ = some (.string a0) ∧ w'.cell? ⟨b, off + k * 2 + 1, none⟩ = some (.string a1) ∧ w'.cell? ⟨b2, off2 + k * 2, none⟩ = some (.string a0) ∧ w'.cell? ⟨b2, off2 + k * 2 + 1, none⟩ = some (.string a1)) ((go_split_ands; (repeat' apply And.intro) <;> first | assumption | exact keepS (by assumption) (by assumption))) (fail);go_wp2;go_roundw
    case rel => exact ⟨k + 1, by omega, by go_num, hs, (by repeat (first | exact Below.refl _ _ | refine Below.drew ?_ | refine below_drewN ?_ _ | refine Below.allocC ?_ _ | refine Below.setCell ?_ (by first | (simp; done) | (simp; omega)) _ | refine Below.chain ?_ (by assumption)))⟩
    case measure => simp [intOf]; omega
   ·have HS := Lib.hid (same_end hup (by omega) (by omega));go_wp2;go_ret;exact ⟨by rw [HS.out]; rfl, hb⟩
 ·have HS := Lib.hid (same_len h1);have hq : ((xs.length : Int) != (ys.length : Int)) = true := by simp; omega
  clear h1;go_enter Tryz.func17, Tryz.ntmps17;go_wp2;go_ret;exact ⟨by rw [HS.out]; rfl, (by repeat (first | exact Below.refl _ _ | assumption | refine Below.alloc ?_ (by simp <;> omega) _ | refine Below.setCell ?_ (by simp <;> omega) _ | refine Below.drew ?_))⟩
end Go.Proofs.YtihghflppegnmaaGreatDoor
