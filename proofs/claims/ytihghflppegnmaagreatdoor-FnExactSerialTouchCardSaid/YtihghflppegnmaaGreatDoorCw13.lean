/- Lemmas and contracts that the last text leans on, joined: DrawK, DrawL, Small, KeysN, MarkC, MarkT, MarkP, LawSerialTouchW. Conditions: as each theorem says. -/
import Derived.Test.YtihghflppegnmaaGreatDoorCw11
import Derived.Test.YtihghflppegnmaaGreatDoorCw6
import Derived.Test.YtihghflppegnmaaGreatDoorCw3
import Derived.Test.YtihghflppegnmaaGreatDoorCw12
import Derived.Test.YtihghflppegnmaaGreatDoorCw2
import Derived.Test.YtihghflppegnmaaGreatDoorCw8
import Derived.Deep.CutRange
import Derived.Test.YtihghflppegnmaaGreatDoorCw1
import Derived.Test.YtihghflppegnmaaGreatDoorCards
import Derived.Test.YtihghflppegnmaaGreatDoorTie
import Derived.Test.YtihghflppegnmaaGreatDoorCw7
import Derived.LaidMore
import Derived.OpenVars
import Derived.Stop.Joined
import Derived.SevenTiedAt
import Derived.Lib.LaidU8
import Derived.LaidLaws
import Derived.Lib.Hide
import Derived.Deep.RegionHeld3
import Derived.Deep.DrawnRows
import Derived.BigQuiet
set_option linter.unusedSimpArgs false
set_option linter.unusedVariables false
namespace Go.Proofs.YtihghflppegnmaaGreatDoor
open Go.ChangeShapes Go.WideShapes Go.ChangeAt Go.RowKit
attribute [local go_sem ↓] Go.wp_at_zero Go.wp_at_succ
def OwnG (base n : Nat) (v : Value) (W : World) : Prop :=
 ∃ xs : Sto, W.ownsRow base 99 2 v xs.length (xs.flatMap encC) ∧ Grown n xs ∧ ∀ x ∈ xs, x.1.size ≤ 1048576 ∧ x.2.size ≤ 1048576
theorem Grown.mono {n k : Nat} {s : Sto} (h : Grown n s) (hk : n ≤ k) : Grown k s := ⟨h.1, by have := h.2.1; omega, Nat.le_trans h.2.2.1 hk, h.2.2.2⟩
theorem OwnG.mono {base n k : Nat} {v : Value} {W : World} (h : OwnG base n v W) (hk : n ≤ k) : OwnG base k v W := by
 obtain ⟨xs, o, g, s⟩ := h;exact ⟨xs, o, g.mono hk, s⟩
theorem grown_mok {n : Nat} {xs : Sto} (h : Grown n xs) (hn : n ≤ 12) (hs : ∀ x ∈ xs, x.1.size ≤ 1048576 ∧ x.2.size ≤ 1048576) : MOk 600 ⟨xs, [], []⟩ :=
 ⟨by have := h.2.1; show xs.length ≤ 600; omega, Nat.zero_le _, Nat.zero_le _, hs⟩
def OwnS (base n : Nat) (v : Value) (W : World) : Prop :=
 ∃ xs : Sto, W.ownsRow base 99 2 v xs.length (xs.flatMap encC) ∧ xs.length ≤ n ∧ ∀ x ∈ xs, x.1.size ≤ 1048576 ∧ x.2.size ≤ 1048576
theorem OwnS.mono {base n k : Nat} {v : Value} {W : World} (h : OwnS base n v W) (hk : n ≤ k) : OwnS base k v W := by
 obtain ⟨xs, o, l, s⟩ := h;exact ⟨xs, o, Nat.le_trans l hk, s⟩
theorem OwnG.s {base n : Nat} {v : Value} {W : World} (h : OwnG base n v W) (hn : n ≤ 12) : OwnS base 600 v W := by
 obtain ⟨xs, o, g, s⟩ := h;exact ⟨xs, o, (grown_mok g hn s).l1, s⟩
def StpOk (s : Stp) : Prop := I64 s.proc ∧ COk s.call
def OwnSteps (base n : Nat) (v : Value) (W : World) : Prop :=
 ∃ xs : List Stp, W.ownsRow base 45 7 v xs.length (xs.flatMap encStp) ∧ xs.length ≤ n ∧ ∀ x ∈ xs, StpOk x
theorem OwnSteps.mono {base n k : Nat} {v : Value} {W : World} (h : OwnSteps base n v W) (hk : n ≤ k) : OwnSteps base k v W := by
 obtain ⟨xs, o, l, s⟩ := h;exact ⟨xs, o, Nat.le_trans l hk, s⟩
end Go.Proofs.YtihghflppegnmaaGreatDoor
namespace Go.Proofs.YtihghflppegnmaaGreatDoor
theorem MOk.up {n n' : Nat} {m : Mch} (h : MOk n m) (hn : n ≤ n') : MOk n' m := ⟨Nat.le_trans h.l1 hn, Nat.le_trans h.l2 hn, Nat.le_trans h.l3 hn, h.sz⟩
end Go.Proofs.YtihghflppegnmaaGreatDoor
namespace Go.Proofs.YtihghflppegnmaaGreatDoor
open Go.RowKit
open Pg
structure Kin (V : ByteArray → Prop) (c0 : Nat) (m : Mch) : Prop where
 k : ∀ c ∈ m.st, V c.1
 r : ∀ k ∈ m.rs, V k
 w : ∀ k ∈ m.ws, V k
 rr : RisingK m.rs
 rw : RisingK m.ws
 n : ∃ P : ByteArray → Bool, (m.st.filter (fun c => !P c.1)).length ≤ c0 ∧ ((m.st.filter (fun c => P c.1)).map (·.1)).Nodup
 sz : ∀ x ∈ m.st, x.1.size ≤ 1048576 ∧ x.2.size ≤ 1048576
variable {V : ByteArray → Prop} {c0 : Nat}
theorem Kin.look {m : Mch} (h : Kin V c0 m) {k : ByteArray} (hk : V k) : Kin V c0 (lookM m k) :=
 ⟨h.k, fun x hx => by
  rcases mem_addS.1 hx with rfl | hx
  ·exact hk
  ·exact h.r x hx, h.w, rising_addS h.rr, h.rw, h.n, h.sz⟩
theorem insK_perm (c : ByteArray × ByteArray) (xs : Sto) : (insK c xs).Perm (c :: xs) := by
 have e : insK c xs = xs.take (xs.findIdx (gtP c.1)) ++ c :: xs.drop (xs.findIdx (gtP c.1)) := insK_is c xs;rw [e];refine List.perm_middle.trans ?_;rw [List.take_append_drop]
theorem del_filter {s : Sto} {k : ByteArray} {P : ByteArray → Bool} : (delK s k).filter (fun c => eqB c.1 k || P c.1) = (delK s k).filter (fun c => P c.1) := by
 refine List.filter_congr (fun x hx => ?_);unfold delK at hx;have := (List.mem_filter.1 hx).2;have e : eqB x.1 k = false := by simpa using this
 rw [e, Bool.false_or]
theorem put_count {s : Sto} {k v : ByteArray} {P : ByteArray → Bool} (h1 : (s.filter (fun c => !P c.1)).length ≤ c0) (h2 : ((s.filter (fun c => P c.1)).map (·.1)).Nodup) :
 ∃ P' : ByteArray → Bool, ((putKeyS s k v).filter (fun c => !P' c.1)).length ≤ c0 ∧ (((putKeyS s k v).filter (fun c => P' c.1)).map (·.1)).Nodup := by
 unfold putKeyS;split
 ·exact ⟨P, h1, h2⟩
 have d1 : ((delK s k).filter (fun c => !(eqB c.1 k || P c.1))).length ≤ c0 := by
  refine Nat.le_trans ?_ h1;refine Nat.le_trans (del_count (fun c => !(eqB c.1 k || P c.1)) s k) ?_;rw [← List.countP_eq_length_filter, ← List.countP_eq_length_filter];refine List.countP_mono_left (fun c _ hc => ?_);simp only [Bool.not_or, Bool.and_eq_true] at hc;exact hc.2
 have d2 : (((delK s k).filter (fun c => P c.1)).map (·.1)).Nodup := by
  refine List.Nodup.sublist ?_ h2;unfold delK;exact (List.Sublist.filter _ List.filter_sublist).map _
 have d3 : ∀ x ∈ ((delK s k).filter (fun c => P c.1)).map (·.1), x ≠ k := fun x hx e => by
  obtain ⟨y, hy, rfl⟩ := List.mem_map.1 hx;have hy2 := (List.mem_filter.1 hy).1;unfold delK at hy2;have := (List.mem_filter.1 hy2).2;rw [e, eqB_self] at this;cases this
 refine ⟨fun y => eqB y k || P y, ?_, ?_⟩
 ·unfold putV;split
  ·exact d1
  ·rw [ins_count];simp only [eqB_self, Bool.true_or, Bool.not_true, Bool.false_eq_true, ↓reduceIte];exact d1
 ·unfold putV;split
  ·rw [del_filter];exact d2
  ·have hp := ((insK_perm (k, v) (delK s k)).filter (fun c => eqB c.1 k || P c.1)).map (·.1);rw [hp.nodup_iff, List.filter_cons_of_pos (by simp [eqB_self]), List.map_cons, del_filter, List.nodup_cons];exact ⟨fun h => d3 _ h rfl, d2⟩
theorem Kin.lay {m : Mch} (h : Kin V c0 m) {k : ByteArray} (v : ByteArray) (hk : V k) : Kin V c0 (layM m k v) :=
 ⟨fun c hc => by
  rcases putKeyS_mem2 hc with ⟨rfl, _⟩ | hc
  ·exact hk
  ·exact h.k c hc, h.r, fun x hx => by
  rcases mem_addS.1 hx with rfl | hx
  ·exact hk
  ·exact h.w x hx, h.rr, rising_addS h.rw, by
  obtain ⟨P, h1, h2⟩ := h.n;exact put_count h1 h2, fun x hx => by
  rcases putKeyS_mem2 hx with ⟨rfl, h1, h2⟩ | hx
  ·exact ⟨Nat.le_trans (keyOkB_size h1) (by decide), Nat.le_trans h2 (by decide)⟩
  ·exact h.sz x hx⟩
theorem keysU_mem {xs : Sto} {p k : ByteArray} (h : k ∈ keysU xs p) : (∃ c ∈ xs, c.1 = k) ∧ beginsB k p = true := by
 unfold keysU at h;obtain ⟨y, hy, rfl⟩ := List.mem_map.1 h;exact ⟨⟨y, (List.mem_filter.1 hy).1, rfl⟩, (List.mem_filter.1 hy).2⟩
theorem KS.kin {α : Type} {Q : α → Prop} {x : Pg α} : ∀ {m : Mch}, KS V Q x → Kin V c0 m → Kin V c0 (x.run m).1 := by
 induction x with
 | ret a => intro m _ h; exact h
 | look k f ih => intro m hk h; exact ih _ (hk.2 _) (h.look hk.1)
 | lay k v f ih => intro m hk h; exact ih hk.2 (h.lay v hk.1)
 | under p f ih =>
  intro m hk h;refine ih _ (hk.2 _ (fun k hx => ?_)) (h.look hk.1);obtain ⟨⟨c, hc, rfl⟩, hb⟩ := keysU_mem hx;exact ⟨h.k c hc, hb⟩
theorem kin_run {I : Int → Prop} {N : ByteArray → Prop} (H : Vok V I N) : ∀ (ys : List Stp) (p : Mch × List Ans), (∀ x ∈ ys, I x.proc ∧ I x.call.a ∧ N x.call.name ∧ N x.call.dest) → Kin V c0 p.1 → Kin V c0 (ys.foldl stepI p).1
 | [], _, _, h => h
 | x :: ys, p, hy, h => by
  obtain ⟨h1, h2, h3, h4⟩ := hy x List.mem_cons_self;exact kin_run H ys (stepI p x) (fun z hz => hy z (List.mem_cons_of_mem _ hz)) (KS.kin (ks_call H x.call h1 h2 h3 h4) h)
theorem filter_len {α : Type} (P : α → Bool) : ∀ xs : List α, xs.length = (xs.filter P).length + (xs.filter (fun x => !P x)).length
 | [] => rfl
 | x :: xs => by
  have := filter_len P xs;cases h : P x <;> simp [h] <;> omega
theorem risingK_nodup {s : List ByteArray} (h : RisingK s) : s.Nodup := by
 rw [List.nodup_iff_pairwise_ne];exact List.Pairwise.imp (fun {a b} hab e => by rw [e, ltB_irr] at hab; cases hab) h
theorem Kin.ok {U : List ByteArray} {m : Mch} (h : Kin (· ∈ U) c0 m) : MOk (c0 + U.length) m := by
 obtain ⟨P, h1, h2⟩ := h.n;refine ⟨?_, ?_, ?_, h.sz⟩
 ·have e := filter_len (fun c : ByteArray × ByteArray => P c.1) m.st;have := nodup_le h2 (ys := U) (fun x hx => by
   obtain ⟨y, hy, rfl⟩ := List.mem_map.1 hx;exact h.k y (List.mem_filter.1 hy).1)
  rw [List.length_map] at this;omega
 ·have := nodup_le (risingK_nodup h.rr) h.r;omega
 ·have := nodup_le (risingK_nodup h.rw) h.w;omega
def sufS (xs : Sto) : List ByteArray := xs.flatMap (fun c => (List.range (c.1.size + 1)).map (fun i => c.1.extract i c.1.size))
def pageS (xs : Sto) : List ByteArray := (List.range 1000).flatMap (fun q : Nat => (sufS xs).map (fun s => pagesK (q : Int) ++ s))
def intsS (ss : List Stp) : List Int := (List.range 1000).map (fun i : Nat => (i : Int)) ++ (ss.map (·.proc) ++ ss.map (·.call.a))
def namesS (ss : List Stp) : List ByteArray := ss.map (·.call.name) ++ ss.map (·.call.dest)
def famS (i j : Int) : List ByteArray := [procK i tS, procK i tP, procK i tX, starK (procK i tSl), sigK i tT, sigK i tH, pipeK i tO, pipeK i tT, pipeK i tH, timerK i, starK (pagesK i), linksK i, sizeK i, starK (fileK i), sigQ i j, pipeQ i j, pageK i j, blockK i j, outK1 j]
def fixS : List ByteArray := [cFile, cPipe, cProc, cClock, dnK, starK nHead, starK tHead, starK rHead]
def famsS (I : List Int) : List ByteArray := I.flatMap (fun i => (List.range 1001).flatMap (fun j : Nat => famS i (j : Int)))
def allS (xs : Sto) (ss : List Stp) : List ByteArray := xs.map (·.1) ++ (pageS xs ++ (fixS ++ ((namesS ss).map nK ++ famsS (intsS ss))))
theorem flat_len {α β : Type} (f : α → List β) (n : Nat) : ∀ xs : List α, (∀ x ∈ xs, (f x).length = n) → (xs.flatMap f).length = xs.length * n
 | [], _ => by simp
 | x :: xs, h => by
  rw [List.flatMap_cons, List.length_append, h x List.mem_cons_self, flat_len f n xs (fun y hy => h y (List.mem_cons_of_mem _ hy)), List.length_cons, Nat.succ_mul];omega
theorem suf_len : ∀ xs : Sto, (sufS xs).length ≤ bulkL bulkC xs
 | [] => by simp [sufS, bulkL]
 | c :: xs => by
  have := suf_len xs;unfold sufS bulkL at *;rw [List.flatMap_cons, List.length_append, List.length_map, List.length_range, List.length_cons, List.map_cons, List.sum_cons];unfold bulkC at *;omega
theorem all_len {xs : Sto} {ss : List Stp} (h1 : bulkL bulkC xs ≤ 1048576) (h2 : ss.length ≤ 1048576) : xs.length + (allS xs ss).length ≤ 100000000000 := by
 have hx : xs.length ≤ 1048576 := by unfold bulkL at h1; omega
 have hs := Nat.le_trans (suf_len xs) h1;unfold allS;rw [List.length_append, List.length_append, List.length_append, List.length_append, List.length_map, List.length_map];have e1 : (pageS xs).length = 1000 * (sufS xs).length := by
  unfold pageS;rw [flat_len _ (sufS xs).length _ (fun x _ => List.length_map _), List.length_range]
 have e2 : (famsS (intsS ss)).length = (intsS ss).length * (1001 * 19) := by
  unfold famsS;refine flat_len _ _ _ (fun i _ => ?_);rw [flat_len _ 19 _ (fun j _ => rfl), List.length_range]
 have e3 : (intsS ss).length = 1000 + 2 * ss.length := by
  unfold intsS;rw [List.length_append, List.length_append, List.length_map, List.length_map, List.length_map, List.length_range];omega
 have e4 : (namesS ss).length = 2 * ss.length := by
  unfold namesS;rw [List.length_append, List.length_map, List.length_map];omega
 have e5 : fixS.length = 8 := rfl;rw [e1, e2, e3, e4, e5];omega
theorem mem_fam {xs : Sto} {ss : List Stp} {i j : Int} {k : ByteArray} (hi : i ∈ intsS ss) (h0 : 0 ≤ j) (h1 : j ≤ 1000) (hk : k ∈ famS i j) : k ∈ allS xs ss := by
 unfold allS;refine List.mem_append_right _ (List.mem_append_right _ (List.mem_append_right _ (List.mem_append_right _ ?_)));unfold famsS;refine List.mem_flatMap.2 ⟨i, hi, List.mem_flatMap.2 ⟨j.toNat, List.mem_range.2 (by omega), ?_⟩⟩;rw [show ((j.toNat : Nat) : Int) = j by omega];exact hk
theorem mem_fam1 {xs : Sto} {ss : List Stp} {i : Int} {k : ByteArray} (hi : i ∈ intsS ss) (hk : k ∈ famS i 0) : k ∈ allS xs ss := mem_fam hi (Int.le_refl 0) (by decide) hk
theorem mem_fix {xs : Sto} {ss : List Stp} {k : ByteArray} (hk : k ∈ fixS) : k ∈ allS xs ss := by
 unfold allS;exact List.mem_append_right _ (List.mem_append_right _ (List.mem_append_left _ hk))
theorem mem_nam {xs : Sto} {ss : List Stp} {s : ByteArray} (hk : s ∈ namesS ss) : nK s ∈ allS xs ss := by
 unfold allS;exact List.mem_append_right _ (List.mem_append_right _ (List.mem_append_right _ (List.mem_append_left _ (List.mem_map_of_mem hk))))
theorem mem_int {ss : List Stp} {i : Int} (h0 : 0 ≤ i) (h1 : i ≤ 999) : i ∈ intsS ss := by
 unfold intsS;exact List.mem_append_left _ (List.mem_map.2 ⟨i.toNat, List.mem_range.2 (by omega), by omega⟩)
theorem mem_pages {xs : Sto} {ss : List Stp} {b : Int} {s : ByteArray} (h0 : 0 ≤ b) (h1 : b ≤ 999) (hs : s ∈ sufS xs) : pagesK b ++ s ∈ allS xs ss := by
 unfold allS pageS;refine List.mem_append_right _ (List.mem_append_left _ (List.mem_flatMap.2 ⟨b.toNat, List.mem_range.2 (by omega), List.mem_map.2 ⟨s, hs, ?_⟩⟩));rw [show ((b.toNat : Nat) : Int) = b by omega]
theorem ex_app (a s : ByteArray) : (a ++ s).extract a.size (a ++ s).size = s := by
 apply ByteArray.ext;apply Array.toList_inj.1;simp [ByteArray.data_extract, ByteArray.data_append];rw [List.drop_eq_nil_of_le (show a.data.toList.length ≤ a.size from Nat.le_of_eq Array.length_toList), List.take_nil, List.nil_append, List.take_of_length_le (show s.data.toList.length ≤ s.size from Nat.le_of_eq Array.length_toList)]
theorem pages_eq {i a : Int} {s : ByteArray} (h : beginsB (pagesK i ++ s) (pagesK a) = true) : pagesK i = pagesK a := by
 obtain ⟨t, e⟩ := begins_iff h;have e0 : (pagesK i ++ s).data.toList = 109 :: 47 :: ((decS i).data.toList ++ 47 :: s.data.toList) := by
  have := pages_list i;simp [ByteArray.data_append, this]
 rw [e0, pages_list] at e;have e2 : (decS a).data.toList ++ 47 :: t = (decS i).data.toList ++ 47 :: s.data.toList := by simpa using e
 have e3 := cut_eq (dec_no a) (dec_no i) e2;have e4 : decS i = decS a := (ByteArray.ext (Array.toList_inj.1 e3)).symm;unfold pagesK keyNumS;rw [e4]
theorem pages_next {i a b : Int} {s : ByteArray} (h : beginsB (pagesK i ++ s) (pagesK a) = true) : pagesK b ++ (pagesK i ++ s).extract (pagesK a).size (pagesK i ++ s).size = pagesK b ++ s := by
 rw [← pages_eq h, ex_app]
theorem page_app (i j : Int) : pageK i j = pagesK i ++ decS j := by
 unfold pageK;rw [show keyNumS (pagesK i) j ⟨#[]⟩ = pagesK i ++ decS j ++ ⟨#[]⟩ from rfl];exact ByteArray.append_empty
theorem no_page {k : ByteArray} {a : Int} {c : UInt8} (h : beginsB k (pagesK a) = true) (hk : hd k = some c) (hc : c ≠ 109) : False := by
 have := hd_begins h (hd_pages a);rw [hk] at this;exact hc (Option.some.inj this)
theorem fork_in {xs : Sto} {ss : List Stp} (a b : Int) (k : ByteArray) (h0 : 0 ≤ b) (h1 : b ≤ 999) (hk : k ∈ allS xs ss) (hb : beginsB k (pagesK a) = true) : pagesK b ++ k.extract (pagesK a).size k.size ∈ allS xs ss := by
 have hk2 := hk;unfold allS at hk2;rcases List.mem_append.1 hk2 with h | h
 ·obtain ⟨c, hc, rfl⟩ := List.mem_map.1 h;refine mem_pages h0 h1 (List.mem_flatMap.2 ⟨c, hc, List.mem_map.2 ⟨(pagesK a).size, List.mem_range.2 ?_, rfl⟩⟩);obtain ⟨t, e⟩ := begins_iff hb;have q := congrArg List.length e;rw [List.length_append] at q;have e1 : (pagesK a).data.toList.length = (pagesK a).size := Array.length_toList;have e2 : c.1.data.toList.length = c.1.size := Array.length_toList;omega
 rcases List.mem_append.1 h with h | h
 ·unfold pageS at h;obtain ⟨q, _, hq⟩ := List.mem_flatMap.1 h;obtain ⟨s, hs, rfl⟩ := List.mem_map.1 hq;rw [pages_next hb];exact mem_pages h0 h1 hs
 rcases List.mem_append.1 h with h | h
 ·exfalso;simp only [fixS, List.mem_cons, List.not_mem_nil, or_false] at h;rcases h with rfl | rfl | rfl | rfl | rfl | rfl | rfl | rfl
  all_goals exact no_page hb rfl (by decide)
 rcases List.mem_append.1 h with h | h
 ·obtain ⟨s, _, rfl⟩ := List.mem_map.1 h;exact (no_page hb (hd_n s) (by decide)).elim
 ·unfold famsS at h;obtain ⟨i, hi, h⟩ := List.mem_flatMap.1 h;obtain ⟨j, hj, h⟩ := List.mem_flatMap.1 h;have hj2 := List.mem_range.1 hj;have hbi : b ∈ intsS ss := mem_int h0 h1;simp only [famS, List.mem_cons, List.not_mem_nil, or_false] at h;rcases h with rfl | rfl | rfl | rfl | rfl | rfl | rfl | rfl | rfl | rfl | rfl | rfl | rfl | rfl | rfl | rfl | rfl | rfl | rfl
  ·exact (no_page hb (hd_proc _ _) (by decide)).elim
  ·exact (no_page hb (hd_proc _ _) (by decide)).elim
  ·exact (no_page hb (hd_proc _ _) (by decide)).elim
  ·exact (no_page hb (hd_app (hd_proc _ _)) (by decide)).elim
  ·exact (no_page hb (hd_sig _ _) (by decide)).elim
  ·exact (no_page hb (hd_sig _ _) (by decide)).elim
  ·exact (no_page hb (hd_pipe _ _) (by decide)).elim
  ·exact (no_page hb (hd_pipe _ _) (by decide)).elim
  ·exact (no_page hb (hd_pipe _ _) (by decide)).elim
  ·exact (no_page hb (hd_timer _) (by decide)).elim
  ·rw [show starK (pagesK i) = pagesK i ++ ⟨#[42]⟩ from rfl] at hb ⊢;rw [pages_next hb];exact mem_fam1 hbi (by simp [famS, starK])
  ·exact (no_page hb (hd_links _) (by decide)).elim
  ·exact (no_page hb (hd_size _) (by decide)).elim
  ·exact (no_page hb (hd_app (hd_file _)) (by decide)).elim
  ·exact (no_page hb (hd_sigQ _ _) (by decide)).elim
  ·exact (no_page hb (hd_pipeQ _ _) (by decide)).elim
  ·rw [page_app] at hb ⊢;rw [pages_next hb, ← page_app];exact mem_fam hbi (j := (j : Int)) (by omega) (by omega) (by simp [famS])
  ·exact (no_page hb (hd_block _ _) (by decide)).elim
  ·exact (no_page hb (hd_out _) (by decide)).elim
theorem vok_all (xs : Sto) (ss : List Stp) : Vok (· ∈ allS xs ss) (· ∈ intsS ss) (· ∈ namesS ss) where
 sm := fun i h0 h1 => mem_int h0 h1
 procS := fun i h => mem_fam1 h (by simp [famS])
 procP := fun i h => mem_fam1 h (by simp [famS])
 procX := fun i h => mem_fam1 h (by simp [famS])
 procA := fun i h => mem_fam1 h (by simp [famS])
 sigT := fun i h => mem_fam1 h (by simp [famS])
 sigH := fun i h => mem_fam1 h (by simp [famS])
 pipeO := fun i h => mem_fam1 h (by simp [famS])
 pipeT := fun i h => mem_fam1 h (by simp [famS])
 pipeH := fun i h => mem_fam1 h (by simp [famS])
 timer := fun i h => mem_fam1 h (by simp [famS])
 pagesA := fun i h => mem_fam1 h (by simp [famS])
 links := fun i h => mem_fam1 h (by simp [famS])
 size := fun i h => mem_fam1 h (by simp [famS])
 fileA := fun i h => mem_fam1 h (by simp [famS])
 sigQ := fun i j h h0 h1 => mem_fam h h0 h1 (by simp [famS])
 pipeQ := fun i j h h0 h1 => mem_fam h h0 h1 (by simp [famS])
 page := fun i j h h0 h1 => mem_fam h h0 h1 (by simp [famS])
 block := fun i j h h0 h1 => mem_fam h h0 h1 (by simp [famS])
 out := fun j h0 h1 => mem_fam (mem_int (i := 0) (by decide) (by decide)) h0 h1 (by simp [famS])
 nam := fun s h => mem_nam h
 cfile := mem_fix (by simp [fixS])
 cpipe := mem_fix (by simp [fixS])
 cproc := mem_fix (by simp [fixS])
 cclock := mem_fix (by simp [fixS])
 dn := mem_fix (by simp [fixS])
 nA := mem_fix (by simp [fixS])
 tA := mem_fix (by simp [fixS])
 rA := mem_fix (by simp [fixS])
 fork := fun a b k h0 h1 hk hb => fork_in a b k h0 h1 hk hb
theorem sum_one {c : ByteArray × ByteArray} : ∀ {xs : Sto}, c ∈ xs → c.1.size + c.2.size ≤ bulkL bulkC xs
 | x :: xs, h => by
  unfold bulkL;rw [List.map_cons, List.sum_cons, List.length_cons];rcases List.mem_cons.1 h with rfl | h
  ·unfold bulkC;omega
  ·have := sum_one h;unfold bulkL at this;omega
theorem runOk_any {xs : Sto} {ss : List Stp} (h1 : bulkL bulkC xs ≤ 1048576) (h2 : ss.length ≤ 1048576) (hs : StpsOk ss) : RunOk ss xs :=
 ⟨by unfold bulkL at h1; omega, h2, hs, fun k hk => by
  have hi : Kin (· ∈ allS xs ss) xs.length ⟨xs, [], []⟩ := ⟨fun c hc => List.mem_append_left _ (List.mem_map_of_mem hc), fun k hk => (by cases hk), fun k hk => (by cases hk), List.Pairwise.nil, List.Pairwise.nil, ⟨fun _ => false, List.length_filter_le _ _, by
   rw [show xs.filter (fun _ => false) = [] from List.filter_eq_nil_iff.2 (fun _ _ h => by cases h)];exact List.Pairwise.nil⟩, fun x hx => by
   have q : x.1.size + x.2.size ≤ bulkL bulkC xs := sum_one hx;exact ⟨by omega, by omega⟩⟩
  have h := kin_run (vok_all xs ss) (ss.take k) (⟨xs, [], []⟩, []) (fun x hx => by
   have hx2 := List.mem_of_mem_take hx;unfold intsS namesS;exact ⟨List.mem_append_right _ (List.mem_append_left _ (List.mem_map_of_mem hx2)), List.mem_append_right _ (List.mem_append_right _ (List.mem_map.2 ⟨x, hx2, rfl⟩)), List.mem_append_left _ (List.mem_map.2 ⟨x, hx2, rfl⟩), List.mem_append_right _ (List.mem_map.2 ⟨x, hx2, rfl⟩)⟩) hi
  exact (Kin.ok h).up (all_len h1 h2)⟩
end Go.Proofs.YtihghflppegnmaaGreatDoor
namespace Go.Proofs.YtihghflppegnmaaGreatDoor
open Go.RowKit
attribute [local go_sem ↓] Go.wp_at_zero Go.wp_at_succ
def marksC (k n : Nat) : List (ByteArray × ByteArray) := (List.range n).map (fun j => (markT (k + 2 * j), markT (k + 2 * j + 1)))
theorem marksC_len (k n : Nat) : (marksC k n).length = n := by simp [marksC]
theorem marksC_succ (k n : Nat) : marksC k (n + 1) = marksC k n ++ [(markT (k + 2 * n), markT (k + 2 * n + 1))] := by simp [marksC, List.range_succ]
theorem marksC_flat (k n : Nat) : ((marksC k n).flatMap encC).length = n * 2 := by rw [length_flatMap_const encC_len, marksC_len]
def MarkedC (T k n : Nat) (v : Value) (base : Nat) (w : World) (e : Ending) (w' : World) : Prop :=
 e = .returned (.int .i64 ((k + 2 * n : Nat) : Int)) ∧ w'.ownsRow base T 2 v n ((marksC k n).flatMap encC) ∧ w.grownBy w' v.ownBlock
set_option maxRecDepth 100000 in
set_option maxHeartbeats 3200000 in
theorem markCellS_c (v : Value) (base n k : Nat) (cells : List Value) (w : World) (hk : 0 < k) (hn : k + 2 * n ≤ 1000000000000) (ho : w.ownsRow base 99 2 v n cells) :
 Calls Tryz.prog 32 #[v, .int .i64 k] w (MarkedC 99 k n v base w) := by
 rcases ho.2 with ⟨rfl, rfl⟩ | ⟨g, cap, cur, rfl, hb, h1, h2, h3, h4, h5⟩
 ·have HO := Lib.hid (show w.ownsRow base 99 2 (.slice none 0 0) 0 ((marksC k 0).flatMap encC) from ⟨by simp [marksC], .inl ⟨rfl, rfl⟩⟩);clear ho;go_enter Tryz.func32, Tryz.ntmps32;go_wp2;go_loopw [1, 5] (fun q i wr => q = .int .i64 k ∧ i = .int .i64 0 ∧ wr = w) (fun _ _ _ => 0)
  case atStart => exact ⟨rfl, rfl, rfl⟩
  case round =>
   obtain ⟨rfl, rfl, rfl⟩ := hrel;go_wp2;go_ret;exact ⟨rfl, HO.out, grownBy_refl _ _⟩
 ·have F0 : Filling w g 99 2 cap ((marksC k 0).flatMap encC) := ⟨cur, h1, h4, by simp [marksC]⟩;have HF0 := Lib.hid F0;have HB := Lib.hid hb;have H2 := Lib.hid h2;have H3 := Lib.hid h3;have hcap : n ≤ cap := h2;have hnm : n ≤ 1000000000000 := by omega
  clear h1 h2 h3 h4 h5 ho F0 hb;go_enter Tryz.func32, Tryz.ntmps32;go_wp2;go_loopw [1, 5] (fun q i wr => ∃ m : Nat, m ≤ n ∧ q = .int .i64 ((k + 2 * m : Nat) : Int) ∧ i = .int .i64 m ∧ Hid (Filling wr g 99 2 cap ((marksC k m).flatMap encC)) ∧ Hid (w.grownBy wr (some g))) (fun _ i _ => n - (intOf i).toNat)
  case atStart => exact ⟨0, Nat.zero_le _, rfl, rfl, HF0, Lib.hid (grownBy_refl _ _)⟩
  case round =>
   obtain ⟨m, hm, rfl, rfl, HF, HG⟩ := hrel;by_cases hlt : m < n
   ·have p1 : (0 : Int) ≤ (m : Int) := by omega
    have p2 : (m : Int) < (n : Int) := by omega
    have hK := Lib.hid (markText_c (k + 2 * m) wr (by omega) (by omega));have hK2 := Lib.hid (fun W => markText_c (k + 2 * m + 1) W (by omega) (by omega));go_wp2_with fail;refine hK.out.mono ?_;rintro e w1 ⟨rfl, hb1⟩;have F1 := HF.out.below hb1;have F2 := F1.stores [.string (markT (k + 2 * m))] (m * 2) (marksC_flat k m).symm (by rw [marksC_flat]; simp; omega);have HF2 := Lib.hid F2;have HG2 := Lib.hid (grownBy_trans (grownBy_trans HG.out (grownBy_of_below hb1 (some g))) (sets_grown [.string (markT (k + 2 * m))] w1 g (m * 2)));have f0 := F1.free (m * 2);obtain ⟨o0, z0⟩ := F1.cell (m * 2) (by omega);clear F1 F2;have cst : ((k + 2 * m : Nat) : Int) + 1 = ((k + 2 * m + 1 : Nat) : Int) := by omega
    go_wp2_with fail;refine (hK2.out _).mono ?_;rintro e w2 ⟨rfl, hb2⟩;clear f0 z0;have F3 := (show Filling (w1.setCell ⟨g, m * 2, none⟩ (.string (markT (k + 2 * m)))) g 99 2 cap ((marksC k m).flatMap encC ++ [.string (markT (k + 2 * m))]) from HF2.out).below hb2;have F4 := F3.stores [.string (markT (k + 2 * m + 1))] (m * 2 + 1) (by rw [List.length_append, marksC_flat]; rfl) (by rw [List.length_append, marksC_flat]; simp; omega);have H3' := Lib.hid (show Filling (sets w2 g (m * 2 + 1) [.string (markT (k + 2 * m + 1))]) g 99 2 cap ((marksC k (m + 1)).flatMap encC) by
     rw [marksC_succ, List.flatMap_append];simp only [List.append_assoc] at F4;exact F4)
    have HG3 := Lib.hid (grownBy_trans (grownBy_trans HG2.out (grownBy_of_below hb2 (some g))) (sets_grown [.string (markT (k + 2 * m + 1))] w2 g (m * 2 + 1)));have f0 := F3.free (m * 2 + 1);obtain ⟨o1, z1⟩ := F3.cell (m * 2 + 1) (by omega);clear F3 F4;go_wp2;go_roundw
    case rel => exact ⟨m + 1, by omega, by go_num, by go_num, H3', HG3⟩
    case measure => simp [intOf]; omega
   ·obtain rfl : m = n := by omega
    have HO := Lib.hid (HF.out.owned (n := m) (base := base) (marksC_flat k m) HB.out H2.out H3.out);have p2 : ¬ (m : Int) < (m : Int) := by omega
    go_wp2;go_ret;exact ⟨rfl, HO.out, HG.out⟩
end Go.Proofs.YtihghflppegnmaaGreatDoor
namespace Go.Proofs.YtihghflppegnmaaGreatDoor
open Go.ChangeShapes Go.WideShapes Go.ChangeAt Go.RowKit
attribute [local go_sem ↓] Go.wp_at_zero Go.wp_at_succ
def MarkedT (base k n1 n2 : Nat) (v1 v2 : Value) (w : World) (e : Ending) (w' : World) : Prop :=
 e = .returned (.int .i64 ((k + n1 + n2 : Nat) : Int)) ∧ w'.ownsRow base 9 1 v1 n1 ((marks k n1).flatMap encS) ∧ w'.ownsRow base 9 1 v2 n2 ((marks (k + n1) n2).flatMap encS) ∧ ∃ wm, w.grownBy wm v1.ownBlock ∧ wm.grownBy w' v2.ownBlock
set_option maxHeartbeats 1600000 in
theorem markTouch_c (v1 v2 : Value) (base n1 n2 k : Nat) (c1 c2 : List Value) (w : World) (hk : 0 < k) (hn : k + n1 + n2 ≤ 1000000000000) (o1 : w.ownsRow base 9 1 v1 n1 c1) (o2 : w.ownsRow base 9 1 v2 n2 c2) (hd : ∀ b, v1.ownBlock = some b → v2.ownBlock = some b → False) :
 Calls Tryz.prog 33 #[.agg #[v1, v2], .int .i64 k] w (MarkedT base k n1 n2 v1 v2 w) := by
 have HM := Lib.hid (markStringS_c v1 base n1 k c1 (w.alloc (.cells #[v1, v2] 31)) hk (by omega) (o1.alloc _));have HN := Lib.hid (fun W (h : W.ownsRow base 9 1 v2 n2 c2) => markStringS_c v2 base n2 (k + n1) c2 W (by omega) hn h);have O2 := Lib.hid (o2.alloc (.cells #[v1, v2] 31));have HL := Lib.hid (fun b h => (o1.lt b h).2);have HD := Lib.hid hd;obtain ⟨a1, k1, rfl⟩ := ownsRow_shape o1;obtain ⟨a2, k2, rfl⟩ := ownsRow_shape o2;clear o1 o2 hd;go_enter Tryz.func33, Tryz.ntmps33;go_wp2_with fail;refine HM.out.mono ?_;rintro e w1 ⟨rfl, p1, g1⟩;have X : Box w1 w.heap.size [.slice a1 n1 k1, .slice a2 n2 k2] := by
  obtain ⟨q1, T, q2⟩ := Box.new w [.slice a1 n1 k1, .slice a2 n2 k2] 31;exact ⟨Nat.lt_of_lt_of_le q1 g1.size, T, (g1.block _ q1 (by intro e; exact absurd (HL.out _ e.symm) (Nat.lt_irrefl _))).trans q2⟩
 have f1 := X.cell 1 _ rfl;have KN := Lib.hid (HN.out w1 (own_keep O2.out g1 (fun b h h2 => HD.out b h2 h)));have P1 := Lib.hid p1;have G1 := Lib.hid g1;clear X p1 g1 HM HN O2;go_wp2_with fail;refine KN.out.mono ?_;rintro e w2 ⟨rfl, p2, g2⟩;have HEND := Lib.hid (show MarkedT base k n1 n2 (.slice a1 n1 k1) (.slice a2 n2 k2) w (.returned (.int .i64 ((k + n1 + n2 : Nat) : Int))) w2 from ⟨rfl, own_keep P1.out g2 (fun b h h2 => HD.out b h h2), p2, w1, grownBy_trans (World.grownBy_alloc w _ _) G1.out, g2⟩);clear p2 g2 P1 G1 KN;go_wp2;go_ret;exact HEND.out
set_option maxHeartbeats 1600000 in
theorem heldTouch_c (a1 a2 : Option Addr) (c1 c2 n1 n2 k : Nat) (w : World) (hk : 0 < k) (hn : k + n1 + n2 ≤ 1000000000000) (r1 : Reads w a1 1 encS (marks k n1)) (r2 : Reads w a2 1 encS (marks (k + n1) n2)) :
 Calls Tryz.prog 35 #[.agg #[.slice a1 n1 c1, .slice a2 n2 c2], .int .i64 k] w fun e w' => e = .returned (.int .i64 ((k + n1 + n2 : Nat) : Int)) ∧ Below w.heap.size w w' := by
 have HB : Below w.heap.size w (w.alloc (.cells #[.slice a1 n1 c1, .slice a2 n2 c2] 31)) := (by repeat (first | exact Below.refl _ _ | refine Below.drew ?_ | refine below_drewN ?_ _ | refine Below.allocC ?_ _ | refine Below.setCell ?_ (by first | (simp; done) | (simp; omega)) _ | refine Below.chain ?_ (by assumption)));have HM := Lib.hid (heldStringS_c a1 c1 n1 k _ hk (by omega) (r1.below HB));have HN := Lib.hid (fun W (hW : Below w.heap.size w W) => heldStringS_c a2 c2 n2 (k + n1) W (by omega) hn (r2.below hW));have p0 : ¬ ((k + n1 : Nat) : Int) < 0 := by omega
 have p1 : ¬ ((k + n1 + n2 : Nat) : Int) < 0 := by omega
 have HBB := Lib.hid HB;clear r1 r2 HB hk hn;generalize ((k + n1 + n2 : Nat) : Int) = kk at *;obtain ⟨jj, hjj⟩ : ∃ jj, ((k + n1 : Nat) : Int) = jj := ⟨_, rfl⟩;rw [hjj] at HM HN p0;clear hjj;go_enter Tryz.func35, Tryz.ntmps35;go_wp2_with fail;refine HM.out.mono ?_;rintro e w1 ⟨rfl, hb1⟩;have X0 := (Box.new w [.slice a1 n1 c1, .slice a2 n2 c2] 31).below hb1;have f1 := X0.cell 1 _ rfl;have B1 := Lib.hid (HBB.out.trans (hb1.mono HBB.out.size));have KN := Lib.hid (HN.out w1 B1.out);clear X0 hb1 HN HM HBB;go_wp2_with fail;refine KN.out.mono ?_;rintro e w2 ⟨rfl, hb2⟩;have B2 := Lib.hid (B1.out.trans (hb2.mono B1.out.size));clear hb2 KN B1;go_wp2;go_ret;exact ⟨rfl, B2.out⟩
section
variable {m : Mch} {an : Ans} {lo hi b1 b2 : Nat} {u1 u2 u3 : Value} {W W' w0 : World}
theorem box_keepG {b : Nat} {xs : List Value} {ob : Option Nat} (h : Box W b xs) (hg : W.grownBy W' ob) (hne : ob ≠ some b) : Box W' b xs := by
 obtain ⟨q1, T, q2⟩ := h;exact ⟨Nat.lt_of_lt_of_le q1 hg.size, T, (hg.block b q1 (fun e => hne e.symm)).trans q2⟩
end
end Go.Proofs.YtihghflppegnmaaGreatDoor
namespace Go.Proofs.YtihghflppegnmaaGreatDoor
open Go.RowKit
attribute [local go_sem ↓] Go.wp_at_zero Go.wp_at_succ
def stpM (i : Nat) : Stp := ⟨(i : Int), ⟨((i + 1 : Nat) : Int), markT (i + 2), markT (i + 3), ((i + 4 : Nat) : Int), ((i + 5 : Nat) : Int), markT (i + 6)⟩⟩
def marksP (k n : Nat) : List Stp := (List.range n).map (fun j => stpM (k + 7 * j))
theorem marksP_succ (k n : Nat) : marksP k (n + 1) = marksP k n ++ [stpM (k + 7 * n)] := by simp [marksP, List.range_succ]
theorem marksP_flat (k n : Nat) : ((marksP k n).flatMap encStp).length = n * 7 := by rw [length_flatMap_const encStp_len]; simp [marksP]
set_option maxRecDepth 100000 in
set_option maxHeartbeats 8000000 in
theorem markStepS_c (v : Value) (base n k : Nat) (cells : List Value) (w : World) (hk : 0 < k) (hn : k + 7 * n ≤ 1000000000000) (ho : w.ownsRow base 45 7 v n cells) :
 Calls Tryz.prog 56 #[v, .int .i64 k] w (fun e w' => e = .returned (.int .i64 ((k + 7 * n : Nat) : Int)) ∧ w.grownBy w' v.ownBlock) := by
 rcases ho.2 with ⟨rfl, rfl⟩ | ⟨g, cap, cur, rfl, hb, h1, h2, h3, h4, h5⟩
 ·clear ho;go_enter Tryz.func56, Tryz.ntmps56;go_wp2;go_loopw [1, 5] (fun q i wr => q = .int .i64 k ∧ i = .int .i64 0 ∧ wr = w) (fun _ _ _ => 0)
  case atStart => exact ⟨rfl, rfl, rfl⟩
  case round =>
   obtain ⟨rfl, rfl, rfl⟩ := hrel;go_wp2;go_ret;exact ⟨rfl, grownBy_refl _ _⟩
 ·have F0 : Filling w g 45 7 cap ((marksP k 0).flatMap encStp) := ⟨cur, h1, h4, by simp [marksP]⟩;have HF0 := Lib.hid F0;have hcap : n ≤ cap := h2;have hnm : n ≤ 1000000000000 := by omega
  clear h1 h2 h3 h4 h5 ho F0 hb;go_enter Tryz.func56, Tryz.ntmps56;go_wp2;go_loopw [1, 5] (fun q i wr => ∃ m : Nat, m ≤ n ∧ q = .int .i64 ((k + 7 * m : Nat) : Int) ∧ i = .int .i64 m ∧ Hid (Filling wr g 45 7 cap ((marksP k m).flatMap encStp)) ∧ Hid (w.grownBy wr (some g))) (fun _ i _ => n - (intOf i).toNat)
  case atStart => exact ⟨0, Nat.zero_le _, rfl, rfl, HF0, Lib.hid (grownBy_refl _ _)⟩
  case round =>
   obtain ⟨m, hm, rfl, rfl, HF, HG⟩ := hrel;by_cases hlt : m < n
   ·have p1 : (0 : Int) ≤ (m : Int) := by omega
    have p2 : (m : Int) < (n : Int) := by omega
    have LP := Lib.hid (marksP_flat k m);obtain ⟨q, hq⟩ : ∃ q : Nat, k + 7 * m = q := ⟨_, rfl⟩;have HQ := Lib.hid hq;have hq1 : q + 7 ≤ 1000000000000 := by omega
    have hq0 : 0 < q := by omega
    rw [hq];have hK2 := Lib.hid (fun W => markText_c (q + 2) W (by omega) (by omega));have hK3 := Lib.hid (fun W => markText_c (q + 3) W (by omega) (by omega));have hK6 := Lib.hid (fun W => markText_c (q + 6) W (by omega) (by omega));have F0 := HF.out;have f0 := F0.free (m * 7);obtain ⟨o0, z0⟩ := F0.cell (m * 7) (by omega);have f1 := F0.free (m * 7 + 1);obtain ⟨o1, z1⟩ := F0.cell (m * 7 + 1) (by omega);have H1 := Lib.hid (F0.stores [.int .i64 ((q : Nat) : Int), .int .i64 ((q + 1 : Nat) : Int)] (m * 7) (by simp only [List.length_append, LP.out, List.length_cons, List.length_nil]) (by simp only [List.length_append, LP.out, List.length_cons, List.length_nil]; omega));have G1 := Lib.hid (grownBy_trans HG.out (sets_grown [.int .i64 ((q : Nat) : Int), .int .i64 ((q + 1 : Nat) : Int)] wr g (m * 7)));clear F0;go_wp2_with fail;refine (hK2.out _).mono ?_;rintro e w1 ⟨rfl, hb⟩;clear f0 z0 f1 z1;have F1 := H1.out.below hb;have G1 := Lib.hid (grownBy_trans G1.out (grownBy_of_below hb (some g)));clear hb H1;have f2 := F1.free (m * 7 + 2);obtain ⟨o2, z2⟩ := F1.cell (m * 7 + 2) (by omega);have H2 := Lib.hid (F1.stores [.string (markT (q + 2))] (m * 7 + 2) (by simp only [List.length_append, LP.out, List.length_cons, List.length_nil]) (by simp only [List.length_append, LP.out, List.length_cons, List.length_nil]; omega));have G2 := Lib.hid (grownBy_trans G1.out (sets_grown [.string (markT (q + 2))] w1 g (m * 7 + 2)));clear F1;go_wp2_with fail;refine (hK3.out _).mono ?_;rintro e w2 ⟨rfl, hb⟩;clear f2 z2;have F2 := H2.out.below hb;have G2 := Lib.hid (grownBy_trans G2.out (grownBy_of_below hb (some g)));clear hb H2;have f3 := F2.free (m * 7 + 3);obtain ⟨o3, z3⟩ := F2.cell (m * 7 + 3) (by omega);have f4 := F2.free (m * 7 + 4);obtain ⟨o4, z4⟩ := F2.cell (m * 7 + 4) (by omega);have f5 := F2.free (m * 7 + 5);obtain ⟨o5, z5⟩ := F2.cell (m * 7 + 5) (by omega);have H3 := Lib.hid (F2.stores [.string (markT (q + 3)), .int .i64 ((q + 4 : Nat) : Int), .int .i64 ((q + 5 : Nat) : Int)] (m * 7 + 3) (by simp only [List.length_append, LP.out, List.length_cons, List.length_nil]) (by simp only [List.length_append, LP.out, List.length_cons, List.length_nil]; omega));have G3 := Lib.hid (grownBy_trans G2.out (sets_grown [.string (markT (q + 3)), .int .i64 ((q + 4 : Nat) : Int), .int .i64 ((q + 5 : Nat) : Int)] w2 g (m * 7 + 3)));clear F2;go_wp2_with fail;refine (hK6.out _).mono ?_;rintro e w3 ⟨rfl, hb⟩;clear f3 z3 f4 z4 f5 z5;have F3 := H3.out.below hb;have G3 := Lib.hid (grownBy_trans G3.out (grownBy_of_below hb (some g)));clear hb H3;have f6 := F3.free (m * 7 + 6);obtain ⟨o6, z6⟩ := F3.cell (m * 7 + 6) (by omega);have H4 := Lib.hid (F3.stores [.string (markT (q + 6))] (m * 7 + 6) (by simp only [List.length_append, LP.out, List.length_cons, List.length_nil]) (by simp only [List.length_append, LP.out, List.length_cons, List.length_nil]; omega));have G4 := Lib.hid (grownBy_trans G3.out (sets_grown [.string (markT (q + 6))] w3 g (m * 7 + 6)));clear F3;have HE := Lib.hid (show Filling (sets w3 g (m * 7 + 6) [.string (markT (q + 6))]) g 45 7 cap ((marksP k (m + 1)).flatMap encStp) from by
     rw [marksP_succ, List.flatMap_append, HQ.out];have h := H4.out;simp only [List.append_assoc] at h;exact h)
    clear H4;go_wp2;go_roundw
    case rel => exact ⟨m + 1, by omega, by first | (rw [← HQ.out]; go_num) | go_num, by go_num, HE, G4⟩
    case measure => simp [intOf]; omega
   ·obtain rfl : m = n := by omega
    have p2 : ¬ (m : Int) < (m : Int) := by omega
    go_wp2;go_ret;exact ⟨rfl, HG.out⟩
end Go.Proofs.YtihghflppegnmaaGreatDoor
namespace Go.Proofs.YtihghflppegnmaaGreatDoor.fnExactSerialTouch
open Go.ChangeShapes Go.WideShapes Go.ChangeAt Go.RowKit
open Go.ChangeMaps (open_string shut_string)
attribute [local go_sem ↓] Go.wp_at_zero Go.wp_at_succ
theorem dec_of_laid {w : World} (h : laidMetH Tryz.prog Rows.fnExactSerialTouchRow.laid w) : DecTab w := by
 rw [MakeChecks.laidMetH_plain _ _ _ (by kernel_rfl)] at h;obtain ⟨g, t, cs, fuel, p, hg, ht, hv, hd⟩ := Lib.laidMet.reads h (n := "internal/strconv.uint64pow10") (d := Rows.laid_internal_strconv_uint64pow10) (by repeat (first | exact List.Mem.head _ | apply List.Mem.tail));obtain rfl := Option.some.inj ((show (Tryz.prog.globals[0]?).map (·.type) = some 239 by kernel_rfl).symm.trans (by rw [← ht]; congr 2; exact Option.some.inj ((show Tryz.prog.globalNamed "internal/strconv.uint64pow10" = some 0 by kernel_rfl).symm.trans hg)));have e : Rows.laid_internal_strconv_uint64pow10 = (Lib.tabData .u64 Lib.pow10Tab : DataW Unit) := by kernel_rfl
 rw [e] at hd;unfold DecTab Lib.TabIs;rw [hv, ← Lib.cells_of_tab Tryz.underlying239 Tryz.underlying226 (by kernel_rfl) (by kernel_rfl) hd]
theorem syn_of_laid {w : World} (h : laidMetH Tryz.prog Rows.fnExactSerialTouchRow.laid w) : ∃ tp p, w.var? Tryz.prog "strconv.ErrSyntax" = some #[.iface tp p] := by
 rw [MakeChecks.laidMetH_plain _ _ _ (by kernel_rfl)] at h;obtain ⟨g, t, cs, fuel, p, hg, ht, hv, hd⟩ := Lib.laidMet.reads h (n := "strconv.ErrSyntax") (d := Rows.laid_strconv_ErrSyntax) (by repeat (first | exact List.Mem.head _ | apply List.Mem.tail));obtain rfl := Option.some.inj ((show (Tryz.prog.globals[2]?).map (·.type) = some 215 by kernel_rfl).symm.trans (by rw [← ht]; congr 2; exact Option.some.inj ((show Tryz.prog.globalNamed "strconv.ErrSyntax" = some 2 by kernel_rfl).symm.trans hg)));obtain ⟨_, u, v, e, _, _⟩ := iface_of_trod Tryz.underlying215 hd;have e2 : cs = #[.iface u v] := by
  apply Array.toList_inj.1;simpa using e
 rw [e2] at hv;exact ⟨u, v, hv⟩
theorem ran_of_laid {w : World} (h : laidMetH Tryz.prog Rows.fnExactSerialTouchRow.laid w) : ∃ tp p, w.var? Tryz.prog "strconv.ErrRange" = some #[.iface tp p] := by
 rw [MakeChecks.laidMetH_plain _ _ _ (by kernel_rfl)] at h;obtain ⟨g, t, cs, fuel, p, hg, ht, hv, hd⟩ := Lib.laidMet.reads h (n := "strconv.ErrRange") (d := Rows.laid_strconv_ErrRange) (by repeat (first | exact List.Mem.head _ | apply List.Mem.tail));obtain rfl := Option.some.inj ((show (Tryz.prog.globals[3]?).map (·.type) = some 215 by kernel_rfl).symm.trans (by rw [← ht]; congr 2; exact Option.some.inj ((show Tryz.prog.globalNamed "strconv.ErrRange" = some 3 by kernel_rfl).symm.trans hg)));obtain ⟨_, u, v, e, _, _⟩ := iface_of_trod Tryz.underlying215 hd;have e2 : cs = #[.iface u v] := by
  apply Array.toList_inj.1;simpa using e
 rw [e2] at hv;exact ⟨u, v, hv⟩
theorem odd_of_laid {w : World} (h : laidMetH Tryz.prog Rows.fnExactSerialTouchRow.laid w) : OddErr w := by
 rw [MakeChecks.laidMetH_plain _ _ _ (by kernel_rfl)] at h;obtain ⟨g, t, cs, fuel, p, hg, ht, hv, hd⟩ := Lib.laidMet.reads h (n := "encoding/hex.ErrLength") (d := Rows.laid_encoding_hex_ErrLength) (by repeat (first | exact List.Mem.head _ | apply List.Mem.tail));obtain rfl := Option.some.inj ((show Tryz.prog.globalNamed "encoding/hex.ErrLength" = some 1 by kernel_rfl).symm.trans hg);obtain rfl := Option.some.inj ((show (Tryz.prog.globals[1]?).map (·.type) = some 215 by kernel_rfl).symm.trans ht);obtain ⟨_, u, v, e, _, _⟩ := iface_of_trod Tryz.underlying215 hd;have hc := World.var?_cell hg hv 0;have e2 : cs[0]? = some (.iface u v) := by
  have := congrArg (·[0]?) e;simpa using this
 rw [e2] at hc;exact ⟨u, v, hc⟩
theorem i64_wf {n : Int} (h : (Lit.int .i64 n).wf = true) : I64 n := by
 simp only [Lit.wf, Bool.and_eq_true, decide_eq_true_eq] at h;have e1 : IntKind.i64.min = -9223372036854775808 := by decide
 have e2 : IntKind.i64.max = 9223372036854775807 := by decide
 rw [e1, e2] at h;exact ⟨by omega, by omega⟩
theorem stps_ok {ss : List Stp} (h : ∀ x ∈ ss, okStp x) : StpsOk ss := fun x hx => by
 have q := h x hx;exact ⟨i64_wf q.1, ⟨i64_wf q.2.2.1, i64_wf q.2.2.2.1, q.2.2.2.2.1, q.2.2.2.2.2.1, q.2.2.2.2.2.2⟩⟩
set_option maxRecDepth 100000 in
set_option maxHeartbeats 40000000 in
theorem walk (a0 : Option Addr) (cap0 : Nat) (xs0 : List (ByteArray × ByteArray)) (a1 : Option Addr) (cap1 : Nat) (xs1 : List Stp) (w : World) (l0 : xs0.length ≤ maxLen) (r0 : Reads w a0 2 encC xs0) (w0 : ∀ x ∈ xs0, okC x) (l1 : xs1.length ≤ maxLen) (r1 : Reads w a1 7 encStp xs1) (w1 : ∀ x ∈ xs1, okStp x) (hL : laidMetH Tryz.prog Rows.fnExactSerialTouchRow.laid w) :
 Calls Tryz.prog 10 #[.slice a0 xs0.length cap0, .slice a1 xs1.length cap1] w fun e w' => e = .returned (.bool true) ∧ Below w.heap.size w w' := by
 have HT := Lib.hid (fun (W : World) (hW : Below w.heap.size w W) => (Tabs.below ⟨dec_of_laid hL, ⟨syn_of_laid hL, ran_of_laid hL⟩, odd_of_laid hL⟩ hW : Tabs W));have R0 := Lib.hid (fun (W : World) (hW : Below w.heap.size w W) => (r0.below hW : Reads W a0 2 encC xs0));have HO0 := Lib.hid w0;have R1 := Lib.hid (fun (W : World) (hW : Below w.heap.size w W) => (r1.below hW : Reads W a1 7 encStp xs1));have HO1 := Lib.hid w1;have SOK := Lib.hid (stps_ok w1);clear hL r0 w0 r1 w1;have BX := Lib.hid (Below.refl w.heap.size w);go_enter Tryz.func10, Tryz.ntmps10;go_wp2_with fail;refine (szCellS_c a0 cap0 xs0 1048576 (by omega) (by omega) _ l0 (R0.out w BX.out) HO0.out).mono ?_;rintro e wz0 ⟨rfl, hb⟩;have BX := Lib.hid (BX.out.trans (hb.mono BX.out.size));clear hb;by_cases q0 : (1048576 : Int) < (bulkL bulkC xs0 : Nat)
 ·rw [szSub_no q0];go_wp2;go_ret;exact ⟨rfl, BX.out⟩
 rw [szSub_yes (left := 1048576) (n := bulkL bulkC xs0) (by omega)];have p0 : bulkL bulkC xs0 ≤ 1048576 := by omega
 obtain ⟨lf0, hlf0⟩ : ∃ lf : Int, 1048576 - ((bulkL bulkC xs0 : Nat) : Int) = lf := ⟨_, rfl⟩;have k0 : 0 ≤ lf0 := by omega
 have j0 : lf0 ≤ 1048576 := by omega
 have n0 : ¬ lf0 < 0 := by omega
 rw [hlf0];clear hlf0 q0;have P0 := Lib.hid p0;have M0 := Lib.hid (show xs0.length ≤ 1048576 from by have := bulkL_ge bulkC xs0; omega);clear p0;go_wp2_with fail;refine (szStepS_c a1 cap1 xs1 lf0 (by omega) (by omega) _ l1 (R1.out wz0 BX.out) HO1.out).mono ?_;rintro e wz1 ⟨rfl, hb⟩;have BX := Lib.hid (BX.out.trans (hb.mono BX.out.size));clear hb;by_cases q1 : (lf0 : Int) < (bulkL bulkP xs1 : Nat)
 ·rw [szSub_no q1];go_wp2;go_ret;exact ⟨rfl, BX.out⟩
 rw [szSub_yes (left := lf0) (n := bulkL bulkP xs1) (by omega)];have p1 : bulkL bulkP xs1 ≤ 1048576 := by omega
 obtain ⟨lf1, hlf1⟩ : ∃ lf : Int, lf0 - ((bulkL bulkP xs1 : Nat) : Int) = lf := ⟨_, rfl⟩;have k1 : 0 ≤ lf1 := by omega
 have j1 : lf1 ≤ 1048576 := by omega
 have n1 : ¬ lf1 < 0 := by omega
 rw [hlf1];clear hlf1 q1;have P1 := Lib.hid p1;have M1 := Lib.hid (show xs1.length ≤ 1048576 from by have := bulkL_ge bulkP xs1; omega);clear p1;clear k0 j0 k1 j1;have RO := Lib.hid (runOk_any P0.out M1.out SOK.out);clear P0 SOK;have T0 := Lib.hid (fun (W : World) (hW : Below w.heap.size w W) => toCellS_c a0 cap0 xs0 W M0.out (R0.out W hW));have T1 := Lib.hid (fun (W : World) (hW : Below w.heap.size w W) => toStepS_c a1 cap1 xs1 W M1.out (R1.out W hW));have Q0 := Lib.hid (fun (X : World) (a a' : Option Addr) (c c' : Nat) (h1 : Reads X a 2 encC xs0) (h2 : Reads X a' 2 encC xs0) => show Calls Tryz.prog 29 #[.slice a xs0.length c, .slice a' xs0.length c'] X (fun e w' => e = .returned (.bool true) ∧ Below X.heap.size X w') from by have h := eqCellS_c a a' c c' xs0 xs0 X (by have := M0.out; unfold maxLen; omega) h1 h2; rw [same_self] at h; exact h);have Q1 := Lib.hid (fun (X : World) (a a' : Option Addr) (c c' : Nat) (h1 : Reads X a 7 encStp xs1) (h2 : Reads X a' 7 encStp xs1) => show Calls Tryz.prog 54 #[.slice a xs1.length c, .slice a' xs1.length c'] X (fun e w' => e = .returned (.bool true) ∧ Below X.heap.size X w') from by have h := eqStepS_c a a' c c' xs1 xs1 X (by have := M1.out; unfold maxLen; omega) h1 h2; rw [same_self] at h; exact h);obtain ⟨mk, hmk⟩ : ∃ mk, (runT xs1 ⟨xs0, [], []⟩).1 = mk := ⟨_, rfl⟩;have MB := Lib.hid (show mk.rs.length ≤ 100000000000 ∧ mk.ws.length ≤ 100000000000 from by have h := RO.out.2.2.2 xs1.length (Nat.le_refl _); rw [List.take_length, run_same, hmk] at h; exact ⟨h.l2, h.l3⟩);have KS := Lib.hid (fun (W : World) (a a' : Option Addr) (c c' : Nat) (h : Reads W a 2 encC xs0) (h' : Reads W a' 7 encStp xs1) => show Calls Tryz.prog 40 #[.slice a xs0.length c, .slice a' xs1.length c'] W (JRet mk.rs mk.ws W) from by have q := touchS_c a a' c c' xs0 xs1 W h h' RO.out; rw [hmk] at q; exact q);have KI := Lib.hid (fun (W : World) (hW : Below w.heap.size w W) (a a' : Option Addr) (c c' : Nat) (h : Reads W a 2 encC xs0) (h' : Reads W a' 7 encStp xs1) => show Calls Tryz.prog 39 #[.slice a xs0.length c, .slice a' xs1.length c'] W (TRet mk W) from by have q := touchI_c a a' c c' xs0 xs1 W h h' RO.out (fun X hX => HT.out X (hW.trans (hX.mono hW.size))); rw [run_same, hmk] at q; exact q);have KET := Lib.hid (fun (X : World) (a b a' b' : Option Addr) (c d c' d' : Nat) (h1 : Reads X a 1 encS mk.rs) (h2 : Reads X b 1 encS mk.ws) (h3 : Reads X a' 1 encS mk.rs) (h4 : Reads X b' 1 encS mk.ws) => show Calls Tryz.prog 31 #[.agg #[.slice a mk.rs.length c, .slice b mk.ws.length d], .agg #[.slice a' mk.rs.length c', .slice b' mk.ws.length d']] X (fun e w' => e = .returned (.bool true) ∧ Below X.heap.size X w') from by have h := eqTouch_c a b a' b' c d c' d' mk.rs mk.ws mk.rs mk.ws X (by have := MB.out.1; unfold maxLen; omega) (by have := MB.out.2; unfold maxLen; omega) h1 h2 h3 h4; rw [same_self, same_self] at h; exact h);obtain ⟨mm, hmm⟩ : ∃ mm : Int, ((1 + mk.rs.length + mk.ws.length : Nat) : Int) = mm := ⟨_, rfl⟩;have pm : ¬ mm < 0 := by omega
 have HM := Lib.hid hmm;clear hmk hmm HO0 HO1 RO;go_wp2_with fail;refine (T0.out _ BX.out).mono ?_;rintro e w3 ⟨v, rfl, op, hb⟩;obtain ⟨ap, cp, hv, -⟩ := reads_of_owns encC_len op;subst hv;have Op := Lib.hid op;clear op;have BX := Lib.hid (BX.out.trans (hb.mono BX.out.size));clear hb;go_wp2_with fail;refine (T1.out _ BX.out).mono ?_;rintro e w4 ⟨v, rfl, oq, hb⟩;obtain ⟨aq, cq, hv, -⟩ := reads_of_owns encStp_len oq;subst hv;have Oq := Lib.hid oq;clear oq;have BX := Lib.hid (BX.out.trans (hb.mono BX.out.size));have Op := Lib.hid (ownsRow_below Op.out hb);clear hb;go_wp2_with fail;refine (KS.out _ _ _ _ _ (reads_owns2 encC_len Op.out) (reads_owns2 encStp_len Oq.out)).mono ?_;rintro e w5 ⟨f4, g4, f5, g5, rfl, hb, o4, o5⟩;clear Op Oq;have BX := Lib.hid (BX.out.trans (hb.mono BX.out.size));clear hb;have XA := Lib.hid (Box.new w5 [.slice f4 mk.rs.length g4, .slice f5 mk.ws.length g5] 31);have hb : Below w5.heap.size w5 (w5.alloc (.cells #[.slice f4 mk.rs.length g4, .slice f5 mk.ws.length g5] 31)) := (by repeat (first | exact Below.refl _ _ | refine Below.drew ?_ | refine below_drewN ?_ _ | refine Below.allocC ?_ _ | refine Below.setCell ?_ (by first | (simp; done) | (simp; omega)) _ | refine Below.chain ?_ (by assumption)));have L4 := Lib.hid o4.lt;have L5 := Lib.hid o5.lt;have O4 := Lib.hid o4;have O5 := Lib.hid o5;clear o4 o5;obtain ⟨bA, hbA⟩ : ∃ b, w5.heap.size = b := ⟨_, rfl⟩;go_wp2_with fail;generalize hWA : w5.alloc _ = WA at XA hb ⊢;have BX := Lib.hid (BX.out.trans (hb.mono BX.out.size));have O4 := Lib.hid (ownsRow_below O4.out hb);have O5 := Lib.hid (ownsRow_below O5.out hb);clear hb;rw [hbA] at XA L4 L5
 try rw [hbA]
 have zA := XA.out.1;clear hWA hbA;have zW := BX.out.size;refine (T0.out _ BX.out).mono ?_;rintro e w6 ⟨v, rfl, ox, hb⟩;obtain ⟨ax, cx, hv, -⟩ := reads_of_owns encC_len ox;subst hv;have LX := Lib.hid ox.lt;have Ox := Lib.hid ox;clear ox;have z6 := hb.size;have BX := Lib.hid (BX.out.trans (hb.mono BX.out.size));have O4 := Lib.hid (ownsRow_below O4.out hb);have O5 := Lib.hid (ownsRow_below O5.out hb);have XA := Lib.hid (XA.out.below hb);clear hb;go_wp2_with fail;refine (T1.out _ BX.out).mono ?_;rintro e w7 ⟨v, rfl, oy, hb⟩;obtain ⟨ay, cy, hv, -⟩ := reads_of_owns encStp_len oy;subst hv;have LY := Lib.hid oy.lt;have Oy := Lib.hid oy;clear oy;have z7 := hb.size;have BX := Lib.hid (BX.out.trans (hb.mono BX.out.size));have O4 := Lib.hid (ownsRow_below O4.out hb);have O5 := Lib.hid (ownsRow_below O5.out hb);have Ox := Lib.hid (ownsRow_below Ox.out hb);have XA := Lib.hid (XA.out.below hb);clear hb;go_wp2_with fail;refine (KI.out _ BX.out _ _ _ _ (reads_owns2 encC_len Ox.out) (reads_owns2 encStp_len Oy.out)).mono ?_;rintro e w8 ⟨u2, u3, rfl, hb, o2, o3, hd⟩;obtain ⟨f2, g2, hu2, -⟩ := reads_of_owns encS_len o2;obtain ⟨f3, g3, hu3, -⟩ := reads_of_owns encS_len o3;subst hu2;subst hu3;have z8 := hb.size;have BX := Lib.hid (BX.out.trans (hb.mono BX.out.size));have O4 := Lib.hid (ownsRow_below O4.out hb);have O5 := Lib.hid (ownsRow_below O5.out hb);have Ox := Lib.hid (ownsRow_below Ox.out hb);have Oy := Lib.hid (ownsRow_below Oy.out hb);have XA := Lib.hid (XA.out.below hb);clear hb;have HD := Lib.hid hd;have L2 := Lib.hid o2.lt;have L3 := Lib.hid o3.lt;have O2 := Lib.hid o2;have O3 := Lib.hid o3;clear hd o2 o3;have XG := Lib.hid (Box.new w8 [.slice f2 mk.rs.length g2, .slice f3 mk.ws.length g3] 31);have hb : Below w8.heap.size w8 (w8.alloc (.cells #[.slice f2 mk.rs.length g2, .slice f3 mk.ws.length g3] 31)) := (by repeat (first | exact Below.refl _ _ | refine Below.drew ?_ | refine below_drewN ?_ _ | refine Below.allocC ?_ _ | refine Below.setCell ?_ (by first | (simp; done) | (simp; omega)) _ | refine Below.chain ?_ (by assumption)));obtain ⟨bG, hbG⟩ : ∃ b, w8.heap.size = b := ⟨_, rfl⟩;go_upto_region 12 with fail;generalize hWG : w8.alloc _ = WG at XG hb ⊢;have BX := Lib.hid (BX.out.trans (hb.mono BX.out.size));have O4 := Lib.hid (ownsRow_below O4.out hb);have O5 := Lib.hid (ownsRow_below O5.out hb);have Ox := Lib.hid (ownsRow_below Ox.out hb);have Oy := Lib.hid (ownsRow_below Oy.out hb);have O2 := Lib.hid (ownsRow_below O2.out hb);have O3 := Lib.hid (ownsRow_below O3.out hb);have XA := Lib.hid (XA.out.below hb);clear hb;rw [hbG] at XG L2 L3 z8
 try rw [hbG]
 have zG := XG.out.1;clear hWG hbG;have xa0 := XA.out.cell 0 _ rfl;have xa1 := XA.out.cell 1 _ rfl;have xg0 := XG.out.cell 0 _ rfl;have xg1 := XG.out.cell 1 _ rfl;go_wp2_with fail;refine (KET.out _ _ _ _ _ _ _ _ _ (reads_owns2 encS_len O2.out) (reads_owns2 encS_len O3.out) (reads_owns2 encS_len O4.out) (reads_owns2 encS_len O5.out)).mono ?_;rintro e w9 ⟨rfl, hb⟩;clear xa0 xa1 xg0 xg1;have BX := Lib.hid (BX.out.trans (hb.mono BX.out.size));have O4 := Lib.hid (ownsRow_below O4.out hb);have O5 := Lib.hid (ownsRow_below O5.out hb);have Ox := Lib.hid (ownsRow_below Ox.out hb);have Oy := Lib.hid (ownsRow_below Oy.out hb);have O2 := Lib.hid (ownsRow_below O2.out hb);have O3 := Lib.hid (ownsRow_below O3.out hb);have XA := Lib.hid (XA.out.below hb);have XG := Lib.hid (XG.out.below hb);clear hb;go_wp2_with fail;refine (T0.out _ BX.out).mono ?_;rintro e wc0 ⟨v, rfl, ot0, hb⟩;obtain ⟨at0, ct0, hv, -⟩ := reads_of_owns encC_len ot0;subst hv;have Ot0 := Lib.hid ot0;clear ot0;have BX := Lib.hid (BX.out.trans (hb.mono BX.out.size));have O4 := Lib.hid (ownsRow_below O4.out hb);have O5 := Lib.hid (ownsRow_below O5.out hb);have Ox := Lib.hid (ownsRow_below Ox.out hb);have Oy := Lib.hid (ownsRow_below Oy.out hb);have O2 := Lib.hid (ownsRow_below O2.out hb);have O3 := Lib.hid (ownsRow_below O3.out hb);have XA := Lib.hid (XA.out.below hb);have XG := Lib.hid (XG.out.below hb);clear hb;go_wp2_with fail;refine (Q0.out _ _ _ _ _ (reads_owns2 encC_len Ox.out) (reads_owns2 encC_len Ot0.out)).mono ?_;rintro e we0 ⟨rfl, hb⟩;clear Ot0;have BX := Lib.hid (BX.out.trans (hb.mono BX.out.size));have O4 := Lib.hid (ownsRow_below O4.out hb);have O5 := Lib.hid (ownsRow_below O5.out hb);have Ox := Lib.hid (ownsRow_below Ox.out hb);have Oy := Lib.hid (ownsRow_below Oy.out hb);have O2 := Lib.hid (ownsRow_below O2.out hb);have O3 := Lib.hid (ownsRow_below O3.out hb);have XA := Lib.hid (XA.out.below hb);have XG := Lib.hid (XG.out.below hb);clear hb;go_wp2_with fail;refine (T1.out _ BX.out).mono ?_;rintro e wc1 ⟨v, rfl, ot1, hb⟩;obtain ⟨at1, ct1, hv, -⟩ := reads_of_owns encStp_len ot1;subst hv;have Ot1 := Lib.hid ot1;clear ot1;have BX := Lib.hid (BX.out.trans (hb.mono BX.out.size));have O4 := Lib.hid (ownsRow_below O4.out hb);have O5 := Lib.hid (ownsRow_below O5.out hb);have Ox := Lib.hid (ownsRow_below Ox.out hb);have Oy := Lib.hid (ownsRow_below Oy.out hb);have O2 := Lib.hid (ownsRow_below O2.out hb);have O3 := Lib.hid (ownsRow_below O3.out hb);have XA := Lib.hid (XA.out.below hb);have XG := Lib.hid (XG.out.below hb);clear hb;go_wp2_with fail;refine (Q1.out _ _ _ _ _ (reads_owns2 encStp_len Oy.out) (reads_owns2 encStp_len Ot1.out)).mono ?_;rintro e we1 ⟨rfl, hb⟩;clear Ot1;have BX := Lib.hid (BX.out.trans (hb.mono BX.out.size));have O4 := Lib.hid (ownsRow_below O4.out hb);have O5 := Lib.hid (ownsRow_below O5.out hb);have Ox := Lib.hid (ownsRow_below Ox.out hb);have Oy := Lib.hid (ownsRow_below Oy.out hb);have O2 := Lib.hid (ownsRow_below O2.out hb);have O3 := Lib.hid (ownsRow_below O3.out hb);have XA := Lib.hid (XA.out.below hb);have XG := Lib.hid (XG.out.below hb);clear hb;go_wp2_with fail;refine (markCellS_c _ _ _ 1 _ _ (by omega) (by have := M0.out; omega) Ox.out).mono ?_;rintro e wm ⟨rfl, -, gX⟩;obtain ⟨kc, hkc⟩ : ∃ kc : Nat, 1 + 2 * xs0.length = kc := ⟨_, rfl⟩;have KC := Lib.hid (show 0 < kc ∧ kc + 7 * xs1.length ≤ 1000000000000 from by have := M0.out; have := M1.out; omega);rw [hkc];clear hkc;have BX := Lib.hid (below_of_own BX.out (ownsRow_base Ox.out (by omega)) gX);have O4 := Lib.hid (own_keep O4.out gX (fun b h1 h2 => by have q1 := L4.out b h1; have q2 := LX.out b h2; omega));have O5 := Lib.hid (own_keep O5.out gX (fun b h1 h2 => by have q1 := L5.out b h1; have q2 := LX.out b h2; omega));have Oy := Lib.hid (own_keep Oy.out gX (fun b h1 h2 => by have q1 := LY.out b h1; have q2 := LX.out b h2; omega));have O2 := Lib.hid (own_keep O2.out gX (fun b h1 h2 => by have q1 := L2.out b h1; have q2 := LX.out b h2; omega))
 have O3 := Lib.hid (own_keep O3.out gX (fun b h1 h2 => by have q1 := L3.out b h1; have q2 := LX.out b h2; omega));have XA := Lib.hid (box_keepG XA.out gX (fun e => by have q := LX.out _ e; omega));have XG := Lib.hid (box_keepG XG.out gX (fun e => by have q := LX.out _ e; omega));clear gX Ox;go_wp2_with fail;refine (markStepS_c _ _ _ kc _ _ KC.out.1 KC.out.2 Oy.out).mono ?_;rintro e wn ⟨rfl, gY⟩;obtain ⟨kd, hkd⟩ : ∃ kd : Int, ((kc + 7 * xs1.length : Nat) : Int) = kd := ⟨_, rfl⟩;have pd : ¬ kd < 0 := by omega
 rw [hkd];clear hkd KC;have BX := Lib.hid (below_of_own BX.out (ownsRow_base Oy.out (by omega)) gY);have O4 := Lib.hid (own_keep O4.out gY (fun b h1 h2 => by have q1 := L4.out b h1; have q2 := LY.out b h2; omega));have O5 := Lib.hid (own_keep O5.out gY (fun b h1 h2 => by have q1 := L5.out b h1; have q2 := LY.out b h2; omega));have O2 := Lib.hid (own_keep O2.out gY (fun b h1 h2 => by have q1 := L2.out b h1; have q2 := LY.out b h2; omega));have O3 := Lib.hid (own_keep O3.out gY (fun b h1 h2 => by have q1 := L3.out b h1; have q2 := LY.out b h2; omega));have XA := Lib.hid (box_keepG XA.out gY (fun e => by have q := LY.out _ e; omega));have XG := Lib.hid (box_keepG XG.out gY (fun e => by have q := LY.out _ e; omega));clear gY Oy LX LY;have xa0 := XA.out.cell 0 _ rfl;have xa1 := XA.out.cell 1 _ rfl;have xg0 := XG.out.cell 0 _ rfl;have xg1 := XG.out.cell 1 _ rfl;go_wp2_with fail;refine (KET.out _ _ _ _ _ _ _ _ _ (reads_owns2 encS_len O2.out) (reads_owns2 encS_len O3.out) (reads_owns2 encS_len O4.out) (reads_owns2 encS_len O5.out)).mono ?_;rintro e w10 ⟨rfl, hb⟩;clear xa0 xa1 xg0 xg1;have BX := Lib.hid (BX.out.trans (hb.mono BX.out.size));have O4 := Lib.hid (ownsRow_below O4.out hb);have O5 := Lib.hid (ownsRow_below O5.out hb);have O2 := Lib.hid (ownsRow_below O2.out hb);have O3 := Lib.hid (ownsRow_below O3.out hb);have XA := Lib.hid (XA.out.below hb);have XG := Lib.hid (XG.out.below hb);clear hb;have KMT := Lib.hid (show ∀ W : World, W.ownsRow w7.heap.size 9 1 (.slice f2 mk.rs.length g2) mk.rs.length (mk.rs.flatMap encS) → W.ownsRow w7.heap.size 9 1 (.slice f3 mk.ws.length g3) mk.ws.length (mk.ws.flatMap encS) → Calls Tryz.prog 33 #[.agg #[.slice f2 mk.rs.length g2, .slice f3 mk.ws.length g3], .int .i64 1] W (fun e w' => e = .returned (.int .i64 mm) ∧ MarkedT w7.heap.size 1 mk.rs.length mk.ws.length (.slice f2 mk.rs.length g2) (.slice f3 mk.ws.length g3) W (.returned (.int .i64 ((1 + mk.rs.length + mk.ws.length : Nat) : Int))) w') from fun W q2 q3 => by
  refine (markTouch_c _ _ _ _ _ 1 _ _ _ (by omega) (by have h := MB.out; omega) q2 q3 HD.out).mono ?_;rintro e w' h;obtain rfl := h.1;exact ⟨by rw [← HM.out], h⟩)
 have xg0 := XG.out.cell 0 _ rfl;have xg1 := XG.out.cell 1 _ rfl;go_wp2_with fail;refine (KMT.out _ O2.out O3.out).mono ?_;rintro e w11 ⟨rfl, -, oQ, oR, wq, gm, gn⟩;clear xg0 xg1;have BX := Lib.hid (below_of_own (below_of_own BX.out (ownsRow_base O2.out (by omega)) gm) (ownsRow_base (own_keep O3.out gm (fun b h1 h2 => HD.out b h2 h1)) (by omega)) gn);have O4 := Lib.hid (own_keep (own_keep O4.out gm (fun b h1 h2 => by have q1 := L4.out b h1; have q2 := L2.out b h2; omega)) gn (fun b h1 h2 => by have q1 := L4.out b h1; have q2 := L3.out b h2; omega));have O5 := Lib.hid (own_keep (own_keep O5.out gm (fun b h1 h2 => by have q1 := L5.out b h1; have q2 := L2.out b h2; omega)) gn (fun b h1 h2 => by have q1 := L5.out b h1; have q2 := L3.out b h2; omega));have XA := Lib.hid (box_keepG (box_keepG XA.out gm (fun e => by have q := L2.out _ e; omega)) gn (fun e => by have q := L3.out _ e; omega));have XG := Lib.hid (box_keepG (box_keepG XG.out gm (fun e => by have q := L2.out _ e; omega)) gn (fun e => by have q := L3.out _ e; omega));have G2 := Lib.hid (reads_marks oQ);have G3 := Lib.hid (reads_marks oR);clear oQ oR gm gn O2 O3 KMT L2 L3 HD;have KH := Lib.hid (fun (X : World) (h1 : Reads X f2 1 encS (marks 1 mk.rs.length)) (h2 : Reads X f3 1 encS (marks (1 + mk.rs.length) mk.ws.length)) => show Calls Tryz.prog 35 #[.agg #[.slice f2 mk.rs.length g2, .slice f3 mk.ws.length g3], .int .i64 1] X (fun e w' => e = .returned (.int .i64 mm) ∧ Below X.heap.size X w') from by rw [← HM.out]; exact heldTouch_c f2 f3 g2 g3 mk.rs.length mk.ws.length 1 X (by omega) (by have h := MB.out; omega) h1 h2);have xg0 := XG.out.cell 0 _ rfl;have xg1 := XG.out.cell 1 _ rfl;go_wp2_with fail;refine (KH.out _ G2.out G3.out).mono ?_;rintro e w12 ⟨rfl, hb⟩;clear xg0 xg1;have BX := Lib.hid (BX.out.trans (hb.mono BX.out.size));have O4 := Lib.hid (ownsRow_below O4.out hb);have O5 := Lib.hid (ownsRow_below O5.out hb);have XA := Lib.hid (XA.out.below hb);have XG := Lib.hid (XG.out.below hb);have G2 := Lib.hid (G2.out.below hb);have G3 := Lib.hid (G3.out.below hb);clear hb;go_wp2_with fail;refine (T0.out _ BX.out).mono ?_;rintro e w13 ⟨v, rfl, or, hb⟩;obtain ⟨ar, cr, hv, -⟩ := reads_of_owns encC_len or;subst hv;have Or := Lib.hid or;clear or;have BX := Lib.hid (BX.out.trans (hb.mono BX.out.size));have O4 := Lib.hid (ownsRow_below O4.out hb);have O5 := Lib.hid (ownsRow_below O5.out hb);have XA := Lib.hid (XA.out.below hb);have XG := Lib.hid (XG.out.below hb);have G2 := Lib.hid (G2.out.below hb);have G3 := Lib.hid (G3.out.below hb);clear hb;go_wp2_with fail;refine (T1.out _ BX.out).mono ?_;rintro e w14 ⟨v, rfl, on, hb⟩;obtain ⟨an, cn, hv, -⟩ := reads_of_owns encStp_len on;subst hv;have On := Lib.hid on;clear on;have BX := Lib.hid (BX.out.trans (hb.mono BX.out.size));have O4 := Lib.hid (ownsRow_below O4.out hb);have O5 := Lib.hid (ownsRow_below O5.out hb);have Or := Lib.hid (ownsRow_below Or.out hb);have XA := Lib.hid (XA.out.below hb);have XG := Lib.hid (XG.out.below hb);have G2 := Lib.hid (G2.out.below hb);have G3 := Lib.hid (G3.out.below hb);clear hb;go_wp2_with fail;refine (KI.out _ BX.out _ _ _ _ (reads_owns2 encC_len Or.out) (reads_owns2 encStp_len On.out)).mono ?_;rintro e w15 ⟨u6, u7, rfl, hb, o6, o7, -⟩;obtain ⟨f6, g6, hu6, -⟩ := reads_of_owns encS_len o6;obtain ⟨f7, g7, hu7, -⟩ := reads_of_owns encS_len o7;subst hu6;subst hu7;clear Or On;have BX := Lib.hid (BX.out.trans (hb.mono BX.out.size));have O4 := Lib.hid (ownsRow_below O4.out hb);have O5 := Lib.hid (ownsRow_below O5.out hb);have XA := Lib.hid (XA.out.below hb);have XG := Lib.hid (XG.out.below hb);have G2 := Lib.hid (G2.out.below hb);have G3 := Lib.hid (G3.out.below hb);clear hb;have O6 := Lib.hid o6;have O7 := Lib.hid o7;clear o6 o7;have XH := Lib.hid (Box.new w15 [.slice f6 mk.rs.length g6, .slice f7 mk.ws.length g7] 31)
 have hb : Below w15.heap.size w15 (w15.alloc (.cells #[.slice f6 mk.rs.length g6, .slice f7 mk.ws.length g7] 31)) := (by repeat (first | exact Below.refl _ _ | refine Below.drew ?_ | refine below_drewN ?_ _ | refine Below.allocC ?_ _ | refine Below.setCell ?_ (by first | (simp; done) | (simp; omega)) _ | refine Below.chain ?_ (by assumption)));go_upto_region 32 with fail;generalize hWH : w15.alloc _ = WH at XH hb ⊢;have BX := Lib.hid (BX.out.trans (hb.mono BX.out.size));have O4 := Lib.hid (ownsRow_below O4.out hb);have O5 := Lib.hid (ownsRow_below O5.out hb);have O6 := Lib.hid (ownsRow_below O6.out hb);have O7 := Lib.hid (ownsRow_below O7.out hb);have XA := Lib.hid (XA.out.below hb);have XG := Lib.hid (XG.out.below hb);have G2 := Lib.hid (G2.out.below hb);have G3 := Lib.hid (G3.out.below hb);clear hb;clear hWH;have xa0 := XA.out.cell 0 _ rfl;have xa1 := XA.out.cell 1 _ rfl;have xh0 := XH.out.cell 0 _ rfl;have xh1 := XH.out.cell 1 _ rfl;go_wp2_with fail;refine (KET.out _ _ _ _ _ _ _ _ _ (reads_owns2 encS_len O6.out) (reads_owns2 encS_len O7.out) (reads_owns2 encS_len O4.out) (reads_owns2 encS_len O5.out)).mono ?_;rintro e w16 ⟨rfl, hb⟩;clear xa0 xa1 xh0 xh1;have BX := Lib.hid (BX.out.trans (hb.mono BX.out.size));have XG := Lib.hid (XG.out.below hb);have G2 := Lib.hid (G2.out.below hb);have G3 := Lib.hid (G3.out.below hb);clear hb;have xg0 := XG.out.cell 0 _ rfl;have xg1 := XG.out.cell 1 _ rfl;go_wp2_with fail;refine (KH.out _ G2.out G3.out).mono ?_;rintro e w17 ⟨rfl, hb⟩;clear xg0 xg1;have BX := Lib.hid (BX.out.trans (hb.mono BX.out.size));clear hb;go_wp2;go_ret;exact ⟨rfl, BX.out⟩
end Go.Proofs.YtihghflppegnmaaGreatDoor.fnExactSerialTouch
