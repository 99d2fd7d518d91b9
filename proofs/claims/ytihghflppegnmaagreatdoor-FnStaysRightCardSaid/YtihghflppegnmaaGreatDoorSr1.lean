/- Lemmas and contracts that the last text leans on, joined: SliceStep, DrawL, LawStaysRightW. Conditions: as each theorem says. -/
import Derived.Test.YtihghflppegnmaaGreatDoorProg
import Derived.WalkKit
import Derived.WalkSpells
import Derived.WalkLawsBesides
import Derived.Test.YtihghflppegnmaaGreatDoorCm1
import Derived.Lib.Hide
import Derived.Deep.RegionHeld3
import Derived.Deep.DrawnRows
import Derived.Test.YtihghflppegnmaaGreatDoorCm13
import Derived.Test.YtihghflppegnmaaGreatDoorCards
import Derived.Test.YtihghflppegnmaaGreatDoorTie
import Derived.Test.YtihghflppegnmaaGreatDoorCm8
import Derived.Test.YtihghflppegnmaaGreatDoorCm11
import Derived.Test.YtihghflppegnmaaGreatDoorCm12
import Derived.LaidMore
import Derived.OpenVars
import Derived.Stop.Joined
import Derived.SevenTiedAt
import Derived.Lib.LaidU8
import Derived.LaidLaws
import Derived.Deep.CutRange
import Derived.BigQuiet
set_option linter.unusedSimpArgs false
set_option linter.unusedVariables false
namespace Go.Proofs.YtihghflppegnmaaGreatDoor
open Go.RowKit
attribute [local go_sem ↓] Go.wp_at_zero Go.wp_at_succ
theorem readStep {w wr : World} {a : Option Addr} {xs : List Stp} (hr : Reads w a 7 encStp xs) (hb : Below w.heap.size w wr) {k : Nat} {x : Stp} (hx : xs[k]? = some x) :
 ∃ b off, a = some ⟨b, off, none⟩ ∧ wr.cell? ⟨b, off + k * 7, none⟩ = some (.int .i64 x.proc) ∧ wr.cell? ⟨b, off + k * 7 + 1, none⟩ = some (.int .i64 x.call.kind) ∧ wr.cell? ⟨b, off + k * 7 + 2, none⟩ = some (.string x.call.name) ∧ wr.cell? ⟨b, off + k * 7 + 3, none⟩ = some (.string x.call.dest) ∧ wr.cell? ⟨b, off + k * 7 + 4, none⟩ = some (.int .i64 x.call.a) ∧ wr.cell? ⟨b, off + k * 7 + 5, none⟩ = some (.int .i64 x.call.b) ∧ wr.cell? ⟨b, off + k * 7 + 6, none⟩ = some (.string x.call.text) := by
 rcases hr.below hb with rfl | ⟨b, off, h1, _, h3⟩
 ·simp at hx
 ·exact ⟨b, off, h1, by simpa [Nat.add_assoc] using h3 k x hx 0 _ rfl, by simpa [Nat.add_assoc] using h3 k x hx 1 _ rfl, by simpa [Nat.add_assoc] using h3 k x hx 2 _ rfl, by simpa [Nat.add_assoc] using h3 k x hx 3 _ rfl, by simpa [Nat.add_assoc] using h3 k x hx 4 _ rfl, by simpa [Nat.add_assoc] using h3 k x hx 5 _ rfl, by simpa [Nat.add_assoc] using h3 k x hx 6 _ rfl⟩
theorem infoStep : (Tryz.prog.info? 45).map (fun i => (i.zero, i.size, i.bytes)) = some (some (.agg #[.int .i64 0, .int .i64 0, .string ⟨#[]⟩, .string ⟨#[]⟩, .int .i64 0, .int .i64 0, .string ⟨#[]⟩]), 7, 80) := by kernel_rfl
end Go.Proofs.YtihghflppegnmaaGreatDoor
namespace Go.Proofs.YtihghflppegnmaaGreatDoor
open Go.ChangeShapes Go.WideShapes Go.ChangeAt Go.RowKit
attribute [local go_sem ↓] Go.wp_at_zero Go.wp_at_succ
def StpOk (s : Stp) : Prop := I64 s.proc ∧ COk s.call
def OwnSteps (base n : Nat) (v : Value) (W : World) : Prop :=
 ∃ xs : List Stp, W.ownsRow base 45 7 v xs.length (xs.flatMap encStp) ∧ xs.length ≤ n ∧ ∀ x ∈ xs, StpOk x
theorem OwnSteps.far {base n c : Nat} {v : Value} {W W' : World} (h : OwnSteps base n v W) (hg : W.grownBy W' (some c)) (hc : c < base) : OwnSteps base n v W' := by
 obtain ⟨xs, o, g⟩ := h;exact ⟨xs, own_far o hg hc, g⟩
theorem OwnSteps.mono {base n k : Nat} {v : Value} {W : World} (h : OwnSteps base n v W) (hk : n ≤ k) : OwnSteps base k v W := by
 obtain ⟨xs, o, l, s⟩ := h;exact ⟨xs, o, Nat.le_trans l hk, s⟩
theorem encStp_one (x : Stp) : ∀ u ∈ encStp x, u.oneCell' = true := by
 intro u hu;simp only [encStp, encCal, List.mem_cons, List.not_mem_nil, or_false] at hu;rcases hu with rfl | rfl | rfl | rfl | rfl | rfl | rfl <;> rfl
set_option maxRecDepth 100000 in
set_option maxHeartbeats 4000000 in
theorem steps_c (w0 w : World) (c N : Nat) (hN : N ≤ 12) (hc : Cur w0 w c) :
 Calls Tryz.prog 84 #[.pointer (some ⟨c, 0, none⟩), .int .i64 N] w (Drawn w0 c (OwnSteps w.heap.size N) w) := by
 obtain ⟨i0, hinf, hzz⟩ := Option.map_eq_some_iff.1 infoStep;simp only [Prod.mk.injEq] at hzz;have HI := Lib.hid hinf;have HZ := Lib.hid hzz;clear hinf hzz;have hcl := hc.lt;have HC := Lib.hid hc;have HE0 := Lib.hid (own_empty w 45 7);have KB := Lib.hid (fun W (h : Cur w0 W c) => below_c w0 W c ((N : Int) + 1) h (by omega));have KP := Lib.hid (fun W (h : Cur w0 W c) => proc1_c w0 W c h);have KA := Lib.hid (fun W (h : Cur w0 W c) => anyCall_c w0 W c h);clear hc;go_enter Tryz.func84, Tryz.ntmps84;go_wp2;go_loopw [5, 6] (fun v i wr => ∃ k : Nat, i = .int .i64 k ∧ k ≤ N ∧ Hid (OwnSteps w.heap.size k v wr) ∧ Hid (Cur w0 wr c) ∧ Hid (w.grownBy wr (some c))) (fun _ i _ => N - (intOf i).toNat)
 case atStart => exact ⟨0, rfl, Nat.zero_le _, Lib.hid ⟨[], HE0.out, Nat.le_refl _, fun x hx => by cases hx⟩, Lib.hid (HC.out.below (by repeat (first | exact Below.refl _ _ | refine Below.drew ?_ | refine below_drewN ?_ _ | refine Below.allocC ?_ _ | refine Below.setCell ?_ (by first | (simp; done) | (simp; omega)) _ | refine Below.chain ?_ (by assumption)))), Lib.hid (grownBy_of_below (by repeat (first | exact Below.refl _ _ | refine Below.drew ?_ | refine below_drewN ?_ _ | refine Below.allocC ?_ _ | refine Below.setCell ?_ (by first | (simp; done) | (simp; omega)) _ | refine Below.chain ?_ (by assumption))) _)⟩
 case round =>
  obtain ⟨k, rfl, hk, HO, HCr, HG⟩ := hrel;have p0 : (0 : Int) ≤ (k : Int) := by omega
  have K1 := Lib.hid (KB.out wr HCr.out);have hN1 : IntKind.i64.wrap ((N : Int) + 1) = (N : Int) + 1 := by rw [IntKind.wrap_i64]; omega
  go_wp2_with fail;refine K1.out.mono ?_;rintro e w2 ⟨v2, rfl, ⟨r, rfl, r0, r1, _⟩, hc2, hg2⟩;have hr8 := r1 (by omega);have HC2 := Lib.hid hc2;have HG2 := Lib.hid (grownBy_trans HG.out hg2);have HO2 := Lib.hid (HO.out.far hg2 hcl);clear hc2 hg2 HO HG HCr r1 K1;by_cases hlt : (k : Int) < r
  ·go_wp2_with fail;refine (KP.out _ HC2.out).mono ?_;rintro e w3 ⟨v3, rfl, ⟨q, rfl, hq⟩, hc3, hg3⟩;have HC3 := Lib.hid hc3;have HG3 := Lib.hid (grownBy_trans HG2.out hg3);have HO3 := Lib.hid (HO2.out.far hg3 hcl);have HQ := Lib.hid (procList_ok q hq);clear hc3 hg3 HO2 HG2 HC2 hq;go_wp2_with fail;refine (KA.out _ HC3.out).mono ?_;rintro e w4 ⟨v4, rfl, hcal, hc4, hg4⟩;obtain ⟨cl, rfl, hco⟩ := isCal_ok hcal;have HC4 := Lib.hid hc4;have HG4 := Lib.hid (grownBy_trans HG3.out hg4);obtain ⟨xs, o4, l4, s4⟩ := HO3.out.far hg4 hcl;obtain ⟨a4, cap4, hv4, _⟩ := reads_of_owns encStp_len o4;subst hv4;have HW4 := Lib.hid o4;have HS4 := Lib.hid s4;have HCO := Lib.hid hco;have hs4 : w.heap.size ≤ w4.heap.size := HG4.out.size;clear hc4 hg4 o4 s4 HO3 HG3 HC3 hcal hco;go_wp2_with (at_builtin; refine wpList_append_own2 _ rfl _ _ 41 rfl w.heap.size 45 i0 _ 7 80 Tryz.underlying41 HI.out HZ.out.1 HZ.out.2.1 HZ.out.2.2 rfl (by decide) _ _ _ rfl (HW4.out.alloc _) ⟨w4.heap.size, 0, none⟩ 1 1 (encStp ⟨q, cl⟩) rfl rfl (box_news (Box.new _ (encStp ⟨q, cl⟩) _)) (encStp_one ⟨q, cl⟩) (by unfold maxLen; omega) (by omega) (by simp; omega) ?_);intro v' w' o2 g2 or2;have hbn := (show Below w4.heap.size w4 (w4.alloc (.cells (encStp ⟨q, cl⟩).toArray 45)) from (by repeat (first | exact Below.refl _ _ | refine Below.drew ?_ | refine below_drewN ?_ _ | refine Below.allocC ?_ _ | refine Below.setCell ?_ (by first | (simp; done) | (simp; omega)) _ | refine Below.chain ?_ (by assumption))));have HG5 := Lib.hid (grown_own (grownBy_below2 HG4.out hbn) (HW4.out.alloc _) g2);have HC5 := Lib.hid (Cur.own (HC4.out.below hbn) (HW4.out.alloc _) hcl g2);have HO5 := Lib.hid (show OwnSteps w.heap.size (k + 1) v' w' from ⟨xs ++ [⟨q, cl⟩], by
    rw [List.length_append, List.flatMap_append]; exact (by simpa using o2), by simp; omega, fun z hz => by
    rcases List.mem_append.1 hz with hz | hz
    ·exact HS4.out z hz
    ·have := List.mem_singleton.1 hz;subst this;exact ⟨HQ.out, HCO.out⟩⟩)
   clear o2 g2 or2 HW4 HC4 HG4 hbn HS4;go_wp2;go_roundw
   case rel => exact ⟨k + 1, by go_num, by omega, HO5, HC5, HG5⟩
   case measure => simp [intOf]; omega
  ·have HEND := Lib.hid (show Drawn w0 c (OwnSteps w.heap.size N) w (.returned _) w2 from ⟨_, rfl, HO2.out.mono hk, HC2.out, HG2.out⟩);clear HO2 HC2 HG2;go_wp2;go_ret;exact HEND.out
def DrawnRun (w : World) (e : Ending) (w' : World) : Prop :=
 ∃ v1 v2, e = .returned (.tuple #[v1, v2]) ∧ OwnG w.heap.size 6 v1 w' ∧ OwnSteps w.heap.size 6 v2 w' ∧ (∀ k, v1.ownBlock = some k → v2.ownBlock ≠ some k) ∧ Below w.heap.size w w'
theorem case_c (a : Option Addr) (len cap : Nat) (z : List Int) (w : World) (hz : IsRow .u8 w a len cap z) :
 Calls Tryz.prog 68 #[.slice a len cap] w (DrawnRun w) := by
 have K := Lib.hid (new_c a len cap z w hz);have KS := Lib.hid (fun W c (h : Cur w W c) => storeK_c w W c 6 (by decide) h);have KT := Lib.hid (fun W c (h : Cur w W c) => steps_c w W c 6 (by decide) h);clear hz;go_enter Tryz.func68, Tryz.ntmps68;go_wp2_with fail;refine K.out.mono ?_;rintro e w1 ⟨c, rfl, hc1⟩;have HC1 := Lib.hid hc1;have hcl := hc1.lt;have hb1 := hc1.base.size;clear hc1 K;go_wp2_with fail;refine (KS.out _ _ HC1.out).mono ?_;rintro e w2 ⟨v2, rfl, ho, hc2, hg2⟩;have HO2 := Lib.hid ho;have HC2 := Lib.hid hc2;have hs2 := hg2.size;clear ho hc2 hg2 HC1 KS;go_wp2_with fail;refine (KT.out _ _ HC2.out).mono ?_;rintro e w3 ⟨v3, rfl, ho, hc3, hg3⟩;have HEND := Lib.hid (show DrawnRun w (.returned (.tuple #[v2, v3])) w3 from ⟨v2, v3, rfl, (HO2.out.far hg3 hcl).base hb1, by
  obtain ⟨xs, o, l⟩ := ho;exact ⟨xs, ownsRow_base o (Nat.le_trans hb1 hs2), l⟩, fun k e1 e2 => by
  obtain ⟨xs, o, _⟩ := ho;obtain ⟨ys, o', _⟩ := HO2.out;have h1 := (o.lt k e2).1;have h2 := (o'.lt k e1).2;omega, hc3.base⟩)
 clear ho hc3 hg3 KT HO2 HC2;go_wp2;exact bodyPost_ret (v := .tuple #[v2, v3]) (by simp [results, Tryz.results68, go_sem]) rfl HEND.out
theorem drawRun_c (a : Option Addr) (len cap : Nat) (z : List Int) (w : World) (hz : IsRow .u8 w a len cap z) :
 Calls Tryz.prog 18 #[.slice a len cap] w (DrawnRun w) := by
 have K := Lib.hid (case_c a len cap z w hz);clear hz;go_enter Tryz.func18, Tryz.ntmps18;go_wp2_with fail;refine K.out.mono ?_;rintro e w1 ⟨v1, v2, rfl, h⟩;have HEND := Lib.hid (show DrawnRun w (.returned (.tuple #[v1, v2])) w1 from ⟨v1, v2, rfl, h⟩);clear h;go_wp2;exact bodyPost_ret (v := .tuple #[v1, v2]) (by simp [results, Tryz.results18, go_sem]) rfl HEND.out
end Go.Proofs.YtihghflppegnmaaGreatDoor
namespace Go.Proofs.YtihghflppegnmaaGreatDoor.fnStaysRight
open Go.ChangeShapes Go.WideShapes Go.ChangeAt Go.RowKit
open Go.ChangeMaps (open_string shut_string)
attribute [local go_sem ↓] Go.wp_at_zero Go.wp_at_succ
theorem dec_of_laid {w : World} (h : laidMetH Tryz.prog Rows.fnStaysRightRow.laid w) : DecTab w := by
 rw [MakeChecks.laidMetH_plain _ _ _ (by kernel_rfl)] at h;obtain ⟨g, t, cs, fuel, p, hg, ht, hv, hd⟩ := Lib.laidMet.reads h (n := "internal/strconv.uint64pow10") (d := Rows.laid_internal_strconv_uint64pow10) (by repeat (first | exact List.Mem.head _ | apply List.Mem.tail));obtain rfl := Option.some.inj ((show (Tryz.prog.globals[0]?).map (·.type) = some 239 by kernel_rfl).symm.trans (by rw [← ht]; congr 2; exact Option.some.inj ((show Tryz.prog.globalNamed "internal/strconv.uint64pow10" = some 0 by kernel_rfl).symm.trans hg)));have e : Rows.laid_internal_strconv_uint64pow10 = (Lib.tabData .u64 Lib.pow10Tab : DataW Unit) := by kernel_rfl
 rw [e] at hd;unfold DecTab Lib.TabIs;rw [hv, ← Lib.cells_of_tab Tryz.underlying239 Tryz.underlying226 (by kernel_rfl) (by kernel_rfl) hd]
theorem syn_of_laid {w : World} (h : laidMetH Tryz.prog Rows.fnStaysRightRow.laid w) : ∃ tp p, w.var? Tryz.prog "strconv.ErrSyntax" = some #[.iface tp p] := by
 rw [MakeChecks.laidMetH_plain _ _ _ (by kernel_rfl)] at h;obtain ⟨g, t, cs, fuel, p, hg, ht, hv, hd⟩ := Lib.laidMet.reads h (n := "strconv.ErrSyntax") (d := Rows.laid_strconv_ErrSyntax) (by repeat (first | exact List.Mem.head _ | apply List.Mem.tail));obtain rfl := Option.some.inj ((show (Tryz.prog.globals[2]?).map (·.type) = some 215 by kernel_rfl).symm.trans (by rw [← ht]; congr 2; exact Option.some.inj ((show Tryz.prog.globalNamed "strconv.ErrSyntax" = some 2 by kernel_rfl).symm.trans hg)));obtain ⟨_, u, v, e, _, _⟩ := iface_of_trod Tryz.underlying215 hd;have e2 : cs = #[.iface u v] := by
  apply Array.toList_inj.1;simpa using e
 rw [e2] at hv;exact ⟨u, v, hv⟩
theorem ran_of_laid {w : World} (h : laidMetH Tryz.prog Rows.fnStaysRightRow.laid w) : ∃ tp p, w.var? Tryz.prog "strconv.ErrRange" = some #[.iface tp p] := by
 rw [MakeChecks.laidMetH_plain _ _ _ (by kernel_rfl)] at h;obtain ⟨g, t, cs, fuel, p, hg, ht, hv, hd⟩ := Lib.laidMet.reads h (n := "strconv.ErrRange") (d := Rows.laid_strconv_ErrRange) (by repeat (first | exact List.Mem.head _ | apply List.Mem.tail));obtain rfl := Option.some.inj ((show (Tryz.prog.globals[3]?).map (·.type) = some 215 by kernel_rfl).symm.trans (by rw [← ht]; congr 2; exact Option.some.inj ((show Tryz.prog.globalNamed "strconv.ErrRange" = some 3 by kernel_rfl).symm.trans hg)));obtain ⟨_, u, v, e, _, _⟩ := iface_of_trod Tryz.underlying215 hd;have e2 : cs = #[.iface u v] := by
  apply Array.toList_inj.1;simpa using e
 rw [e2] at hv;exact ⟨u, v, hv⟩
theorem odd_of_laid {w : World} (h : laidMetH Tryz.prog Rows.fnStaysRightRow.laid w) : OddErr w := by
 rw [MakeChecks.laidMetH_plain _ _ _ (by kernel_rfl)] at h;obtain ⟨g, t, cs, fuel, p, hg, ht, hv, hd⟩ := Lib.laidMet.reads h (n := "encoding/hex.ErrLength") (d := Rows.laid_encoding_hex_ErrLength) (by repeat (first | exact List.Mem.head _ | apply List.Mem.tail));obtain rfl := Option.some.inj ((show Tryz.prog.globalNamed "encoding/hex.ErrLength" = some 1 by kernel_rfl).symm.trans hg);obtain rfl := Option.some.inj ((show (Tryz.prog.globals[1]?).map (·.type) = some 215 by kernel_rfl).symm.trans ht);obtain ⟨_, u, v, e, _, _⟩ := iface_of_trod Tryz.underlying215 hd;have hc := World.var?_cell hg hv 0;have e2 : cs[0]? = some (.iface u v) := by
  have := congrArg (·[0]?) e;simpa using this
 rw [e2] at hc;exact ⟨u, v, hc⟩
def SAt (n : Nat) (v : Value) (W : World) : Prop := ∃ (a : Option Addr) (c : Nat) (xs : Sto), v = .slice a xs.length c ∧ Reads W a 2 encC xs ∧ Grown n xs ∧ ∀ x ∈ xs, x.1.size ≤ 1048576 ∧ x.2.size ≤ 1048576
theorem SAt.below {n : Nat} {v : Value} {W W' : World} (h : SAt n v W) (hb : Below W.heap.size W W') : SAt n v W' := by
 obtain ⟨a, c, xs, e, r, g⟩ := h;exact ⟨a, c, xs, e, r.below hb, g⟩
theorem owng_sat {base n : Nat} {v : Value} {W : World} (h : OwnG base n v W) : SAt n v W := by
 obtain ⟨xs, o, g, s⟩ := h;obtain ⟨a, c, e, r⟩ := reads_of_owns encC_len o;exact ⟨a, c, xs, e, r, g, s⟩
theorem callG_c (a : Option Addr) (cap n : Nat) (xs : Sto) (W : World) (hn : n ≤ 12) (hr : Reads W a 2 encC xs) (hg : Grown n xs) (hs : ∀ x ∈ xs, x.1.size ≤ 1048576 ∧ x.2.size ≤ 1048576) (p : Int) (hp : I64 p) (cl : Cal) (hc : COk cl) (HT : ∀ X, Below W.heap.size W X → Tabs X) :
 Calls Tryz.prog 13 #[.slice a xs.length cap, .int .i64 p, .agg #[.int .i64 cl.kind, .string cl.name, .string cl.dest, .int .i64 cl.a, .int .i64 cl.b, .string cl.text]] W (fun e w' => ∃ u1 x u3, e = .returned (.tuple #[u1, x, u3]) ∧ SAt (n + 1) u1 w' ∧ Below W.heap.size W w') := by
 obtain ⟨m', an, E⟩ : ∃ aa bb, (callP p cl).run ⟨xs, [], []⟩ = (aa, bb) := ⟨_, _, rfl⟩;have hm := grown_mok hg hn hs;refine (callOnA_c a cap xs p cl m' an W hr (by have := hg.2.1; omega) hs hp hc HT E).mono ?_;rintro e w' ⟨u1, u2, u3, rfl, hb, o1, _⟩;have h2 := ((callP_cost p cl).okE hm E).sz;have h3 := hg.call hn p cl;have h4 : ((callP p cl).sem xs).1 = m'.st := by
  have := ((callP p cl).run_sem ⟨xs, [], []⟩).1;rw [E] at this;exact this.symm
 rw [h4] at h3;exact ⟨u1, _, _, rfl, owng_sat ⟨m'.st, o1, h3, h2⟩, hb⟩
theorem right_c (a : Option Addr) (cap n : Nat) (xs : Sto) (hn : n ≤ 12) (W : World) (hr : Reads W a 2 encC xs) (hg : Grown n xs) (hs : ∀ x ∈ xs, x.1.size ≤ 1048576 ∧ x.2.size ≤ 1048576) :
 Calls Tryz.prog 19 #[.slice a xs.length cap] W fun e w' => e = .returned (.bool true) ∧ Below W.heap.size W w' := by
 have h := specStoreOk_c a cap xs W (by have := hg.2.1; unfold maxLen; omega) hr (fun x hx => ⟨Nat.le_trans (hs x hx).1 (by decide), Nat.le_trans (hs x hx).2 (by decide)⟩);rw [hg.right (by omega)] at h;exact h
set_option maxRecDepth 100000 in
set_option maxHeartbeats 8000000 in
theorem walk (a0 : Option Addr) (len0 cap0 : Nat) (z0 : List Int) (w : World) (w0 : IsRow .u8 w a0 len0 cap0 z0) (hL : laidMetH Tryz.prog Rows.fnStaysRightRow.laid w) :
 Calls Tryz.prog 5 #[.slice a0 len0 cap0] w fun e w' => e = .returned (.bool true) ∧ Below w.heap.size w w' := by
 have HT := Lib.hid (fun (W : World) (hW : Below w.heap.size w W) => (Tabs.below ⟨dec_of_laid hL, ⟨syn_of_laid hL, ran_of_laid hL⟩, odd_of_laid hL⟩ hW : Tabs W));clear hL;have HZ := Lib.hid w0;clear w0;by_cases hbig : 1048576 < len0
 ·have KB := Lib.hid (fun W => big_yes a0 len0 cap0 W hbig);go_enter Tryz.func5, Tryz.ntmps5;go_wp2_with fail;refine (KB.out _).mono ?_;rintro e w1 ⟨rfl, rfl⟩;go_wp2;go_ret;exact ⟨rfl, Below.refl _ _⟩
 ·have KB := Lib.hid (fun W => big_no a0 len0 cap0 W (by omega));have KM := Lib.hid (drawRun_c a0 len0 cap0 z0 w HZ.out);go_enter Tryz.func5, Tryz.ntmps5;go_wp2_with fail;refine (KB.out _).mono ?_;rintro e w1 ⟨rfl, rfl⟩;go_wp2_with fail;refine KM.out.mono ?_;rintro e w1 ⟨v1, v2, rfl, ho1, ⟨ys, o2, l2, s2⟩, _, hb1⟩;have H1 := Lib.hid (owng_sat ho1);obtain ⟨a2, c2, hv2, hr2⟩ := reads_of_owns encStp_len o2;subst hv2;have HR := Lib.hid hr2;have HS := Lib.hid s2;have HB1 := Lib.hid hb1;have KB2 := Lib.hid (fun W (hW : Below w.heap.size w W) => bootI_c W (fun X hX => HT.out X (hW.trans (hX.mono hW.size))));clear ho1 o2 s2 hr2 hb1 KM KB HZ;go_wp2_with fail;go_loopw [3, 5] (fun v i wr => ∃ k : Nat, k ≤ ys.length ∧ i = .int .i64 k ∧ Hid (SAt (6 + k) v wr ∧ Below w1.heap.size w1 wr)) (fun _ i _ => ys.length - (intOf i).toNat)
  case atStart => exact ⟨0, Nat.zero_le _, rfl, Lib.hid ⟨H1.out, Below.refl _ _⟩⟩
  case round =>
   obtain ⟨k, hk, rfl, HI⟩ := hrel;clear H1;obtain ⟨a3, c3, xs, rfl, hr3, hg3, hs3⟩ := HI.out.1;by_cases hlt : k < ys.length
   ·obtain ⟨x, hx⟩ := some_of_lt hlt;obtain ⟨b, off, hab, -⟩ := readStep HR.out HI.out.2 hx;subst hab;have p1 : (0 : Int) ≤ (k : Int) := by omega
    have p2 : (k : Int) < (ys.length : Int) := by omega
    have hwk : IntKind.i64.wrap ((k : Int) + 1) = ((k + 1 : Nat) : Int) := by rw [IntKind.wrap_i64]; omega
    obtain ⟨sp, sc⟩ := HS.out x (List.mem_of_getElem? hx);have HX := Lib.hid hx;have hbw := HB1.out.trans (HI.out.2.mono HB1.out.size);have HBW := Lib.hid hbw;have HS0 := Lib.hid (show (fun W => Reads W (some ⟨b, off, none⟩) 7 encStp ys ∧ Below wr.heap.size wr W) wr.drew from ⟨(HR.out.below HI.out.2).below (by repeat (first | exact Below.refl _ _ | refine Below.drew ?_ | refine below_drewN ?_ _ | refine Below.allocC ?_ _ | refine Below.setCell ?_ (by first | (simp; done) | (simp; omega)) _ | refine Below.chain ?_ (by assumption))), (by repeat (first | exact Below.refl _ _ | refine Below.drew ?_ | refine below_drewN ?_ _ | refine Below.allocC ?_ _ | refine Below.setCell ?_ (by first | (simp; done) | (simp; omega)) _ | refine Below.chain ?_ (by assumption)))⟩);have KC := Lib.hid (fun W (hW : (fun W => Reads W (some ⟨b, off, none⟩) 7 encStp ys ∧ Below wr.heap.size wr W) W) => callG_c a3 c3 (6 + k) xs W (by omega) (hr3.below hW.2) hg3 hs3 x.proc sp x.call sc (fun X hX => HT.out X ((HBW.out.trans (hW.2.mono HBW.out.size)).trans (hX.mono (HBW.out.trans (hW.2.mono HBW.out.size)).size))));have c0 : ∀ W, (fun W => Reads W (some ⟨b, off, none⟩) 7 encStp ys ∧ Below wr.heap.size wr W) W → W.cell? ⟨b, off + k * 7, none⟩ = some (.int .i64 x.proc) := fun W hW => by obtain ⟨b', o', e, h0, h1, h2, h3, h4, h5, h6⟩ := readStep hW.1 (Below.refl _ _) HX.out; cases e; exact h0
    have c1 : ∀ W, (fun W => Reads W (some ⟨b, off, none⟩) 7 encStp ys ∧ Below wr.heap.size wr W) W → W.cell? ⟨b, off + k * 7 + 1, none⟩ = some (.int .i64 x.call.kind) := fun W hW => by obtain ⟨b', o', e, h0, h1, h2, h3, h4, h5, h6⟩ := readStep hW.1 (Below.refl _ _) HX.out; cases e; exact h1
    have c2 : ∀ W, (fun W => Reads W (some ⟨b, off, none⟩) 7 encStp ys ∧ Below wr.heap.size wr W) W → W.cell? ⟨b, off + k * 7 + 2, none⟩ = some (.string x.call.name) := fun W hW => by obtain ⟨b', o', e, h0, h1, h2, h3, h4, h5, h6⟩ := readStep hW.1 (Below.refl _ _) HX.out; cases e; exact h2
    have c3 : ∀ W, (fun W => Reads W (some ⟨b, off, none⟩) 7 encStp ys ∧ Below wr.heap.size wr W) W → W.cell? ⟨b, off + k * 7 + 3, none⟩ = some (.string x.call.dest) := fun W hW => by obtain ⟨b', o', e, h0, h1, h2, h3, h4, h5, h6⟩ := readStep hW.1 (Below.refl _ _) HX.out; cases e; exact h3
    have c4 : ∀ W, (fun W => Reads W (some ⟨b, off, none⟩) 7 encStp ys ∧ Below wr.heap.size wr W) W → W.cell? ⟨b, off + k * 7 + 4, none⟩ = some (.int .i64 x.call.a) := fun W hW => by obtain ⟨b', o', e, h0, h1, h2, h3, h4, h5, h6⟩ := readStep hW.1 (Below.refl _ _) HX.out; cases e; exact h4
    have c5 : ∀ W, (fun W => Reads W (some ⟨b, off, none⟩) 7 encStp ys ∧ Below wr.heap.size wr W) W → W.cell? ⟨b, off + k * 7 + 5, none⟩ = some (.int .i64 x.call.b) := fun W hW => by obtain ⟨b', o', e, h0, h1, h2, h3, h4, h5, h6⟩ := readStep hW.1 (Below.refl _ _) HX.out; cases e; exact h5
    have c6 : ∀ W, (fun W => Reads W (some ⟨b, off, none⟩) 7 encStp ys ∧ Below wr.heap.size wr W) W → W.cell? ⟨b, off + k * 7 + 6, none⟩ = some (.string x.call.text) := fun W hW => by obtain ⟨b', o', e, h0, h1, h2, h3, h4, h5, h6⟩ := readStep hW.1 (Below.refl _ _) HX.out; cases e; exact h6
    clear hx hlt hr3 hg3 hs3 hbw;go_wp2_with fail;refine wp_region_Y (fun W => Reads W (some ⟨b, off, none⟩) 7 encStp ys ∧ Below wr.heap.size wr W) [] (by kernel_rfl) HS0.out (fun hS => ?_);refine pU 0 hS ?_;refine pU 1 hS ?_;refine pU 2 hS ?_;refine pU 3 hS ?_;refine pU 4 hS ?_;refine pL 5 hS ?_;refine pU 6 hS ?_;refine pU 7 hS ?_;refine pU 8 hS ?_;refine pU 9 hS ?_;refine pL 10 hS ?_;refine wpO 11 fun K hK => ?_;go_simp;refine (KC.out _ hS).mono ?_;rintro e w5 ⟨u1, u2, u3, rfl, h5, hb5⟩;have hS5 : (fun W => Reads W (some ⟨b, off, none⟩) 7 encStp ys ∧ Below wr.heap.size wr W) w5 := ⟨hS.1.below hb5, hS.2.trans (hb5.mono hS.2.size)⟩;clear hS hb5;go_wp2_with fail;refine hK.out _ _ (Or.inr hS5) ?_;clear hK K
    try simp only [Act.put, sqz]
    refine pU 12 hS5 ?_;refine pU 13 hS5 ?_;refine pU 14 hS5 ?_;refine pU 15 hS5 ?_;refine pU 16 hS5 ?_;refine wpAnyY_done (by kernel_rfl) ?_ _;have HN := Lib.hid (show SAt (6 + (k + 1)) u1 w5 ∧ Below w1.heap.size w1 w5 from ⟨h5, HI.out.2.trans (hS5.2.mono HI.out.2.size)⟩);clear hS5 h5 KC HI c0 c1 c2 c3 c4 c5 c6 HS0;go_wp2_with fail;go_roundw
    case rel => exact ⟨k + 1, by omega, by go_num, HN⟩
    case measure => simp [intOf]; omega
   ·obtain rfl : k = ys.length := by omega
    have p2 : ¬ ((ys.length : Nat) : Int) < (ys.length : Int) := by omega
    have KR := Lib.hid (right_c a3 c3 (6 + ys.length) xs (by omega) wr hr3 hg3 hs3);have p3 : (0 : Int) < (xs.length : Int) := by have := hg3.pos; omega
    have HBW := Lib.hid (HB1.out.trans (HI.out.2.mono HB1.out.size));clear HI hr3 hg3 hs3;go_wp2_with fail;refine KR.out.mono ?_;rintro e w6 ⟨rfl, hb6⟩;have B6 := Lib.hid (HBW.out.trans (hb6.mono HBW.out.size));clear hb6 HBW KR;go_wp2_with fail;refine (KB2.out _ B6.out).mono ?_;rintro e w7 ⟨v7, rfl, o7, hb7⟩;obtain ⟨a7, c7, hv7, hr7⟩ := reads_of_owns encC_len o7;subst hv7;have B7 := Lib.hid (B6.out.trans (hb7.mono B6.out.size));have KR := Lib.hid (right_c a7 c7 0 bootS (by omega) w7 hr7 boot_grown.1 boot_grown.2);clear o7 hb7 hr7 B6 KB2;go_wp2_with fail;refine KR.out.mono ?_;rintro e w8 ⟨rfl, hb8⟩;have BE := Lib.hid (B7.out.trans (hb8.mono B7.out.size));clear hb8 B7 KR;go_wp2;go_ret;exact ⟨rfl, BE.out⟩
end Go.Proofs.YtihghflppegnmaaGreatDoor.fnStaysRight
