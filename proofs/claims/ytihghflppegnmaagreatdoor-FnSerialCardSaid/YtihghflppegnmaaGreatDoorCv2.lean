/- Lemmas and contracts that the last text leans on, joined: InsertC, Delete, Within, KeyOk, PutKey, MachAt, KeyAt, Hex, OwnKeepS, Dec. Conditions: as each theorem says. -/
import Derived.Test.YtihghflppegnmaaGreatDoorCv0
import Derived.Test.YtihghflppegnmaaGreatDoorCv1
import Derived.Test.YtihghflppegnmaaGreatDoorShelf
set_option linter.unusedSimpArgs false
set_option linter.unusedVariables false
set_option maxHeartbeats 40000000
namespace Go.Proofs.YtihghflppegnmaaGreatDoor
open Go.Proofs.Tryz
section
open Go.RowKit
attribute [local go_sem ↓] Go.wp_at_zero Go.wp_at_succ
set_option maxRecDepth 100000 in
theorem overlapsC_no (w : World) (vb b ob lb cb : Nat) (x : (ByteArray × ByteArray)) (cur : Array Value) (t : TypeId) (hx : Box w vb (encC x)) (hb : w.heap[b]? = some (.cells cur t (0, 0))) (h0 : cur.size ≠ 0) (hne : vb ≠ b) :
 (callFunc 244 #[.slice (some ⟨vb, 0, none⟩) 1 1, .slice (some ⟨b, ob, none⟩) lb cb]).run prog w = .ok (.value (.bool false)) w := by
 obtain ⟨hlt, TT, hT⟩ := hx;rw [run_callFunc_extern func244 (by kernel_rfl) (by kernel_rfl) (by kernel_rfl) (e := Extern.SlicesOverlaps.overlaps #[26, 26] #[4]) (by kernel_rfl),
  Lib.run_overlaps_apart w 26 4 99 underlying26 2 (fun w => by rfl) ⟨vb, 0, none⟩ ⟨b, ob, none⟩ 1 1 lb cb hne TT t 2 cur.size (by simp [World.shape?, hT, encC]) (by simp [World.shape?, hb]) h0 (by simp [World.frozen?, hT]) (by simp [World.frozen?, hT])]
 rfl
set_option maxRecDepth 100000 in
theorem insertC_c (v : Value) (base i : Nat) (xs : List (ByteArray × ByteArray)) (x : (ByteArray × ByteArray)) (vb : Nat) (w : World) (hlen : xs.length ≤ 2199023255552) (ho : w.ownsRow base 99 2 v xs.length (xs.flatMap encC)) (hi : i ≤ xs.length)
 (hx : Box w vb (encC x)) (hne : ∀ k, v.ownBlock = some k → k ≠ vb) (hbase : base ≤ w.heap.size) :
 Calls prog 232 #[v, .int .i64 i, .slice (some ⟨vb, 0, none⟩) 1 1] w (OwnStep 99 2 base v (xs.length + 1) ((xs.take i ++ x :: xs.drop i).flatMap encC) w) := by
 obtain ⟨i0, hinf, hzz⟩ := Option.map_eq_some_iff.1 infoCell;simp only [Prod.mk.injEq] at hzz;have HI := hid9 hinf;have HZ := hid9 hzz;have hsz : (Tryz.prog.info? 99).map (·.size) = some 2 := by rw [hinf]; simp [hzz.2.1]
 clear hinf hzz;have HXN := hid9 (show ∀ (W : World), Below w.heap.size w W → ∀ j u, (encC x)[j]? = some u → W.cell? ((⟨vb, 0, none⟩ : Addr).add j) = some u from fun W hW j u hu => by
  rw [add_none, Nat.zero_add]; exact (hx.below hW).cell j u hu)
 have HX1 := hid9 (show ∀ u ∈ encC x, u.oneCell' = true from fun u hu => by simp [encC] at hu; first | (subst hu; rfl) | (rcases hu with rfl | rfl <;> rfl));have HC1 := hid9 (show ∀ u ∈ xs.flatMap encC, u.oneCell' = true from fun u hu => by
  obtain ⟨y, _, hy⟩ := List.mem_flatMap.1 hu;simp [encC] at hy; first | (subst hy; rfl) | (rcases hy with rfl | rfl <;> rfl))
 have HFL := hid9 (length_flatMap_const encC_len xs);have HXL := hid9 (show (encC x).length = 1 * 2 from rfl);have HTgt := hid9 (show (xs.take i ++ x :: xs.drop i).flatMap encC = (xs.flatMap encC).take (i * 2) ++ encC x ++ (xs.flatMap encC).drop (i * 2) by
  have e1 : (xs.flatMap encC).take (i * 2) = (xs.take i).flatMap encC := by
   conv => lhs; rw [← List.take_append_drop i xs, List.flatMap_append]
   rw [List.take_append_of_le_length (by rw [length_flatMap_const encC_len, List.length_take]; exact Nat.le_of_eq (by rw [Nat.min_eq_left hi]))];rw [List.take_of_length_le (by rw [length_flatMap_const encC_len, List.length_take]; exact Nat.le_of_eq (by rw [Nat.min_eq_left hi]))]
  have e2 : (xs.flatMap encC).drop (i * 2) = (xs.drop i).flatMap encC := by
   conv => lhs; rw [← List.take_append_drop i xs, List.flatMap_append]
   rw [List.drop_append_of_le_length (by rw [length_flatMap_const encC_len, List.length_take]; exact Nat.le_of_eq (by rw [Nat.min_eq_left hi]))];rw [List.drop_of_length_le (by rw [length_flatMap_const encC_len, List.length_take]; exact Nat.le_of_eq (by rw [Nat.min_eq_left hi])), List.nil_append]
  rw [e1, e2]; simp [List.flatMap_append, List.append_assoc])
 have HEnd := hid9 (show i = xs.length → (xs.take i ++ x :: xs.drop i).flatMap encC = xs.flatMap encC ++ encC x from fun e => by subst e; simp [List.flatMap_append]);obtain ⟨TT, hTT⟩ : ∃ TT, TT = (xs.take i ++ x :: xs.drop i).flatMap encC := ⟨_, rfl⟩;rw [← hTT] at HTgt HEnd ⊢;clear hTT;rcases ho.2 with ⟨hv, h0⟩ | ⟨g, cap, cur, hv, hbg, hg, hnc, hcm, hcs, htk⟩
 ·subst hv;have hi0 : i = xs.length := by omega
  have HO := hid9 ho;have HE := hid9 (HEnd.out hi0);rw [h0] at hi0;have HIz := hid9 hi0;have HL0 := hid9 h0;clear ho HEnd HTgt hi;rw [hi0];clear hi0 h0;go_enter func232, ntmps232;go_wp2_with (at_builtin; refine wpList_append_own2 _ rfl _ _ 26 rfl base 99 i0 (.agg #[.string ⟨#[]⟩, .string ⟨#[]⟩]) 2 32 underlying26 HI.out HZ.out.1 HZ.out.2.1 HZ.out.2.2 rfl (by decide) _ _ _ rfl HO.out ⟨vb, 0, none⟩ 1 1 (encC x) rfl HXL.out (HXN.out _ (Below.refl _ _)) HX1.out ?d1 ?d2 ?d3 ?_)
  case d1 => unfold maxLen; omega
  case d2 => omega
  case d3 => omega
  intro v' w' hown hgrow hor;have H2 := hid9 (show OwnStep 99 2 base (.slice none 0 0) (xs.length + 1) TT w (.returned v') w' from ⟨v', rfl, by rw [HE.out]; exact hown, hgrow, hor⟩);clear hown hgrow hor;go_wp2;go_ret;exact H2.out
 ·subst hv;have hgv : g ≠ vb := hne g rfl;have hc63 : cap ≤ 9223372036854775807 := by unfold maxLen at hcm; exact hcm
  have HO := hid9 ho;have HG := hid9 hg;have HB := hid9 hx;have HCS := hid9 hcs;have HTK := hid9 htk;rcases Nat.lt_or_ge i xs.length with hin | hge
  ·by_cases hroom : xs.length + 1 ≤ cap
   ·
    have hov : ∀ lb cb, (callFunc 244 #[.slice (some ⟨vb, 0, none⟩) 1 1, .slice (some ⟨g, (i + 1) * 2, none⟩) lb cb]).run prog w = .ok (.value (.bool false)) w := fun lb cb =>
     overlapsC_no w vb g ((i + 1) * 2) lb cb x cur _ HB.out HG.out (by rw [HCS.out]; omega) (Ne.symm hgv)
    have HL := hid9 (show cur.toList.length = cap * 2 by simpa using hcs);obtain ⟨X1, hX1⟩ : ∃ X1, X1 = (xs.flatMap encC).drop (i * 2) := ⟨_, rfl⟩;have hX1l : X1.length = (xs.length - i) * 2 := by rw [hX1, List.length_drop, HFL.out]; omega
    have HXX := hid9 hX1;have hcell : ∀ j u, X1[j]? = some u → w.drew.cell? ((⟨g, i * 2, none⟩ : Addr).add j) = some u := fun j u hu => by
     rw [HXX.out, List.getElem?_drop] at hu;have := HO.out.cells (g := g) rfl _ u hu;rw [add_none] at this ⊢;rw [show i * 2 + j = 0 + (i * 2 + j) by omega];exact this
    have hX1o : ∀ u ∈ X1, u.oneCell' = true := fun u hu => HC1.out u (by rw [HXX.out] at hu; exact List.mem_of_mem_drop hu);obtain ⟨L2, hL2⟩ : ∃ L2, L2 = (cur.toList.take ((i + 1) * 2) ++ X1 ++ cur.toList.drop ((i + 1) * 2 + X1.length)).toArray := ⟨_, rfl⟩;obtain ⟨W2, hW2⟩ : ∃ W2, W2 = w.drew.setRow g L2 := ⟨_, rfl⟩;have hcp1 : ∀ ty dc sc, (Builtin.copy_ #[26, 26] ty #[.slice (some ⟨g, (i + 1) * 2, none⟩) (xs.length - i) dc, .slice (some ⟨g, i * 2, none⟩) (xs.length + 1 - i) sc]).run prog w.drew = .ok (goInt (xs.length - i : Nat)) W2 := fun ty dc sc => by
     rw [hW2, hL2];exact run_copyK w.drew _ _ ty 99 g ((i + 1) * 2) _ dc _ _ sc 2 (xs.length - i) cur 99 X1 underlying26 hsz HG.out (by simp only [Nat.min_def]; split <;> omega) hX1l hcell (by rw [hX1l, HCS.out]; omega) hX1o
    have hG2 : W2.heap[g]? = some (.cells L2 99 (0, 0)) := by rw [hW2]; exact setRow_heap w.drew g cur L2 _ _ HG.out
    have hgb2 : w.grownBy W2 (some g) := by rw [hW2]; exact grownBy_trans (grownBy_drew w (some g)) (grownBy_setRow w.drew g L2)
    have hvb2 : W2.heap[vb]? = w.heap[vb]? := hgb2.block vb HB.out.1 (fun e => hgv (by cases e; rfl));have hxc2 : ∀ j u, (encC x)[j]? = some u → W2.cell? ((⟨vb, 0, none⟩ : Addr).add j) = some u := fun j u hu => by
     rw [add_none, Nat.zero_add];obtain ⟨hlt, TT, hT⟩ := HB.out;exact Box.cell (w := W2) ⟨by rw [hW2]; simpa [World.setRow] using hlt, TT, by rw [hvb2]; exact hT⟩ j u hu
    have hL2s : L2.size = cap * 2 := by rw [hL2]; simp [hX1l]; omega
    obtain ⟨L3, hL3⟩ : ∃ L3, L3 = (L2.toList.take (i * 2) ++ encC x ++ L2.toList.drop (i * 2 + (encC x).length)).toArray := ⟨_, rfl⟩;obtain ⟨W3, hW3⟩ : ∃ W3, W3 = W2.setRow g L3 := ⟨_, rfl⟩;have hcp2 : ∀ ty dc, (Builtin.copy_ #[26, 26] ty #[.slice (some ⟨g, i * 2, none⟩) (xs.length + 1 - i) dc, .slice (some ⟨vb, 0, none⟩) 1 1]).run prog W2 = .ok (goInt (1 : Nat)) W3 := fun ty dc => by
     rw [hW3, hL3];exact run_copyK W2 _ _ ty 99 g (i * 2) _ dc _ _ 1 2 1 L2 99 (encC x) underlying26 hsz hG2 (by simp only [Nat.min_def]; split <;> omega) HXL.out hxc2 (by rw [HXL.out, hL2s]; omega) HX1.out
    have HEND := hid9 (show OwnStep 99 2 base (.slice (some ⟨g, 0, none⟩) xs.length cap) (xs.length + 1) TT w (.returned (.slice (some ⟨g, 0, none⟩) (xs.length + 1) cap)) W3 from by
     refine ⟨_, rfl, ⟨?_, .inr ⟨g, cap, L3, rfl, hbg, by rw [hW3]; exact setRow_heap W2 g L2 L3 _ _ hG2, hroom, hcm, by rw [hL3]; simp [hL2s, HXL.out]; omega, ?_⟩⟩, by rw [hW3]; exact grownBy_trans hgb2 (grownBy_setRow W2 g L3), .inl rfl⟩
     ·rw [HTgt.out]; simp [HFL.out, HXL.out]; omega
     ·have e1 : L2.toList.take (i * 2) = (xs.flatMap encC).take (i * 2) := by
       rw [hL2, ← HTK.out];simp only [List.append_assoc];rw [List.take_append_of_le_length (by rw [List.length_take, HL.out]; omega), List.take_take, List.take_take];congr 1;omega
      have e2 : (L2.toList.drop (i * 2 + (encC x).length)).take (X1.length) = X1 := by
       rw [hL2, HXL.out];simp only [List.append_assoc];rw [List.drop_append_of_le_length (by rw [List.length_take, HL.out]; omega), List.drop_of_length_le (by rw [List.length_take]; omega), List.nil_append, List.take_left]
      rw [HTgt.out, ← HXX.out, hL3, e1];simp only [List.append_assoc];rw [List.take_append, List.take_of_length_le (by rw [List.length_take, HFL.out]; omega)];congr 1;have e3 : ((xs.flatMap encC).take (i * 2)).length = i * 2 := by rw [List.length_take, HFL.out]; omega
      rw [e3, List.take_append, List.take_of_length_le (by rw [HXL.out]; omega)];congr 1;rw [show (xs.length + 1) * 2 - i * 2 - (encC x).length = X1.length by rw [HXL.out, hX1l]; omega];exact e2)
    clear hX1 hX1l hcell hX1o hL2 hW2 hG2 hgb2 hvb2 hxc2 hL2s hL3 hW3 HL hx hg hcs htk ho HEnd HTgt hne HXX hsz;have hw1 : IntKind.i64.wrap ((i : Int) + 1) = (i : Int) + 1 := by rw [IntKind.wrap_i64]; omega
    have hb1 : (0 : Int) ≤ (i : Int) + 1 := by omega
    have htn : ((i : Int) + 1).toNat = i + 1 := by omega
    have hb2 : ¬ (cap = i + 1) := by omega
    have hb3 : (i : Int) ≤ (xs.length : Int) + 1 := by omega
    have hb4 : ¬ (cap = i) := by omega
    have hz2 : ¬ ((i : Int) = (xs.length : Int)) := by omega
    go_enter func232, ntmps232;go_wp2_with (simp only [hov]);go_region_law (refine step_copy_at rfl _ _ 26 26 rfl _ _ (by simp [Act.eval, Act.put]) (by simp [Act.eval, Act.put]) (hcp1 _ _ _) ?_);go_wp2_with (at_builtin; refine wpList_copy_at rfl _ _ 26 26 rfl _ _ rfl rfl (hcp2 _ _) ?_);go_ret;exact HEND.out
   ·
    have hzr : Builtin.zeroCells (.agg #[.string ⟨#[]⟩, .string ⟨#[]⟩] : Value).cells = Builtin.zeroCells (.agg #[.string ⟨#[]⟩, .string ⟨#[]⟩] : Value).cells := rfl;have hold : (Builtin.firstCells i0.size i (.slice (some ⟨g, 0, none⟩) i cap)).run prog w.drew = .ok ((xs.flatMap encC).take (i * 2)).toArray w.drew := by
     rw [HZ.out.2.1];exact run_firstCells_some w.drew 2 i ⟨g, 0, none⟩ i cap ((xs.flatMap encC).take (i * 2)) (by rw [List.length_take, HFL.out]; omega) (fun j u hj => by
      rw [List.getElem?_take] at hj;split at hj
      ·exact HO.out.cells (g := g) rfl j u hj
      ·cases hj)
    obtain ⟨G, hG⟩ : ∃ G, G = grownCap w (xs.length + 1) cap 99 := ⟨_, rfl⟩;obtain ⟨ROW, hROW⟩ : ∃ ROW : Array Value, ROW = ((xs.flatMap encC).take (i * 2)).toArray ++ Builtin.zeroCells (.agg #[.string ⟨#[]⟩, .string ⟨#[]⟩] : Value).cells (xs.length + 1 - i) ++ Builtin.zeroCells (.agg #[.string ⟨#[]⟩, .string ⟨#[]⟩] : Value).cells (G - (xs.length + 1)) := ⟨_, rfl⟩;obtain ⟨W1, hW1⟩ : ∃ W1, W1 = w.drew.alloc (.cells ROW 99) := ⟨_, rfl⟩;have hgge : xs.length + 1 ≤ G := by rw [hG]; exact grownCap_ge w _ _ _
    have hgle : G ≤ maxLen := by rw [hG]; exact grownCap_le_maxLen w _ _ _ (by unfold maxLen; omega)
    have hrz : ∀ ty, (Builtin.append_ #[26, 3] ty #[.slice (some ⟨g, 0, none⟩) i cap, .int .i64 ((xs.length : Int) + 1 - (i : Int))]).run prog w =
     .ok (.slice (some ⟨w.heap.size, 0, none⟩) (xs.length + 1) G) W1 := fun ty => by
     have h := Lib.run_append_grow_zeros w 26 3 ty 99 i0 _ .i64 .i64 underlying26 underlying3 HI.out HZ.out.1 (some ⟨g, 0, none⟩) i cap _ hold (xs.length + 1 - i) (by omega) (by rw [HZ.out.2.1]; decide) (by omega) (by omega) (by rw [HZ.out.2.2]; omega) (by rw [HZ.out.2.2, show i + (xs.length + 1 - i) = xs.length + 1 by omega]; exact growslice_fits (by omega) (by omega));rw [show i + (xs.length + 1 - i) = xs.length + 1 by omega] at h;rw [show (xs.length : Int) + 1 - (i : Int) = ((xs.length + 1 - i : Nat) : Int) by omega, hW1, hROW, hG];exact h
    have hRs : ROW.size = G * 2 := by
     rw [hROW]; simp [zeroCells_toList, HFL.out, Value.cells]; omega
    have hRt : ROW.toList.take (i * 2) = (xs.flatMap encC).take (i * 2) := by
     rw [hROW];simp only [Array.toList_append, List.append_assoc];rw [List.take_append_of_le_length (by rw [List.length_take, HFL.out]; omega), List.take_take];congr 1;omega
    have hW1g : W1.heap[w.heap.size]? = some (.cells ROW 99 (0, 0)) := by rw [hW1]; exact heap_alloc_new w.drew _
    have hW1o : ∀ k, k < w.heap.size → W1.heap[k]? = w.heap[k]? := fun k hk => by rw [hW1]; exact heap_alloc_old _ _ hk
    have hB1 : Below w.heap.size w W1 := by rw [hW1]; exact ((Below.refl _ _).drew).alloc (Nat.le_refl _) _
    have hglt : g < w.heap.size := (Array.getElem?_eq_some_iff.1 HG.out).1;have hns : w.heap.size ≠ g := by omega
    obtain ⟨L2, hL2⟩ : ∃ L2, L2 = (ROW.toList.take (i * 2) ++ encC x ++ ROW.toList.drop (i * 2 + (encC x).length)).toArray := ⟨_, rfl⟩;obtain ⟨W2, hW2⟩ : ∃ W2, W2 = W1.setRow w.heap.size L2 := ⟨_, rfl⟩;have hcp1 : ∀ ty dc, (Builtin.copy_ #[26, 26] ty #[.slice (some ⟨w.heap.size, i * 2, none⟩) (xs.length + 1 - i) dc, .slice (some ⟨vb, 0, none⟩) 1 1]).run prog W1 = .ok (goInt (1 : Nat)) W2 := fun ty dc => by
     rw [hW2, hL2];exact run_copyK W1 _ _ ty 99 w.heap.size (i * 2) _ dc _ _ 1 2 1 ROW 99 (encC x) underlying26 hsz hW1g (by simp only [Nat.min_def]; split <;> omega) HXL.out (HXN.out W1 hB1) (by rw [HXL.out, hRs]; omega) HX1.out
    have hL2s : L2.size = G * 2 := by rw [hL2]; simp [hRs, HXL.out]; omega
    have hG2 : W2.heap[w.heap.size]? = some (.cells L2 99 (0, 0)) := by rw [hW2]; exact setRow_heap W1 _ ROW L2 _ _ hW1g
    have hW2o : ∀ k, k < w.heap.size → W2.heap[k]? = w.heap[k]? := fun k hk => by rw [hW2, setRow_other W1 _ k L2 (by omega), hW1o k hk]
    obtain ⟨X1, hX1⟩ : ∃ X1, X1 = (xs.flatMap encC).drop (i * 2) := ⟨_, rfl⟩;have HXX := hid9 hX1;have hX1l : X1.length = (xs.length - i) * 2 := by rw [hX1, List.length_drop, HFL.out]; omega
    have hX1o : ∀ u ∈ X1, u.oneCell' = true := fun u hu => HC1.out u (by rw [HXX.out] at hu; exact List.mem_of_mem_drop hu);have hcell : ∀ j u, X1[j]? = some u → W2.drew.cell? ((⟨g, i * 2, none⟩ : Addr).add j) = some u := fun j u hu => by
     rw [HXX.out, List.getElem?_drop] at hu;have := HO.out.cells (g := g) rfl _ u hu;rw [add_none] at this ⊢;rw [show i * 2 + j = 0 + (i * 2 + j) by omega];rw [cell_of_row w g _ cur _ _ HG.out] at this;rw [show W2.drew.cell? ⟨g, 0 + (i * 2 + j), none⟩ = W2.cell? ⟨g, 0 + (i * 2 + j), none⟩ from rfl, cell_of_row W2 g _ cur _ _ (by rw [hW2o g hglt]; exact HG.out)];exact this
    obtain ⟨L3, hL3⟩ : ∃ L3, L3 = (L2.toList.take ((i + 1) * 2) ++ X1 ++ L2.toList.drop ((i + 1) * 2 + X1.length)).toArray := ⟨_, rfl⟩;obtain ⟨W3, hW3⟩ : ∃ W3, W3 = W2.drew.setRow w.heap.size L3 := ⟨_, rfl⟩;have hcp2 : ∀ ty dc sc, (Builtin.copy_ #[26, 26] ty #[.slice (some ⟨w.heap.size, (i + 1) * 2, none⟩) (xs.length - i) dc, .slice (some ⟨g, i * 2, none⟩) (xs.length - i) sc]).run prog W2.drew = .ok (goInt (xs.length - i : Nat)) W3 := fun ty dc sc => by
     rw [hW3, hL3];exact run_copyK W2.drew _ _ ty 99 w.heap.size ((i + 1) * 2) _ dc _ _ sc 2 (xs.length - i) L2 99 X1 underlying26 hsz hG2 (by simp only [Nat.min_def]; split <;> omega) hX1l hcell (by rw [hX1l, hL2s]; omega) hX1o
    have HEND := hid9 (show OwnStep 99 2 base (.slice (some ⟨g, 0, none⟩) xs.length cap) (xs.length + 1) TT w (.returned (.slice (some ⟨w.heap.size, 0, none⟩) (xs.length + 1) G)) W3 from by
     refine ⟨_, rfl, ⟨?_, .inr ⟨w.heap.size, G, L3, rfl, hbase, by rw [hW3]; exact setRow_heap W2.drew _ L2 L3 _ _ hG2, hgge, hgle, by rw [hL3]; simp [hL2s, hX1l]; omega, ?_⟩⟩, ⟨by rw [hW3, hW2, hW1]; rfl, by rw [hW3, hW2, hW1]; rfl, by rw [hW3, hW2, hW1]; rfl, by rw [hW3, hW2, hW1]; simp [World.setRow], fun k hk _ => by rw [hW3, setRow_other W2.drew _ k L3 (by omega)]; exact hW2o k hk⟩, .inr fun k hk => by simp [Value.ownBlock] at hk; omega⟩
     ·rw [HTgt.out]; simp [HFL.out, HXL.out]; omega
     ·have e1 : L2.toList.take ((i + 1) * 2) = (xs.flatMap encC).take (i * 2) ++ encC x := by
       rw [hL2, hRt];have e3 : ((xs.flatMap encC).take (i * 2)).length = i * 2 := by rw [List.length_take, HFL.out]; omega
       rw [List.take_append_of_le_length (by rw [List.length_append, e3, HXL.out]; omega), List.take_of_length_le (by rw [List.length_append, e3, HXL.out]; omega)]
      rw [HTgt.out, ← HXX.out, hL3, e1];have e3 : ((xs.flatMap encC).take (i * 2)).length = i * 2 := by rw [List.length_take, HFL.out]; omega
      rw [List.take_append_of_le_length (by rw [List.length_append, List.length_append, e3, HXL.out, hX1l]; omega), List.take_of_length_le (by rw [List.length_append, List.length_append, e3, HXL.out, hX1l]; omega)])
    have hGi : ¬ (G = i) := by omega
    have hGim : ¬ (G = i + 1) := by omega
    have hci : ¬ (cap = i) := by omega
    have hw1 : IntKind.i64.wrap ((i : Int) + 1) = (i : Int) + 1 := by rw [IntKind.wrap_i64]; omega
    have hb1 : (0 : Int) ≤ (i : Int) + 1 := by omega
    have htn : ((i : Int) + 1).toNat = i + 1 := by omega
    have hb3 : (i : Int) ≤ (xs.length : Int) := by omega
    have hG63 : G ≤ 9223372036854775807 := by unfold maxLen at hgle; exact hgle
    have hz3 : (cap : Int) < (xs.length : Int) + 1 := by omega
    have hz2 : ¬ ((i : Int) = (xs.length : Int)) := by omega
    clear hold hG hROW hW1 hRs hRt hW1g hW1o hB1 hL2 hW2 hL2s hG2 hW2o hX1 hX1l hX1o hcell hL3 hW3 hzr hgle hx hg hcs htk ho HEnd HTgt hne HXX hsz hcm;go_enter func232, ntmps232;go_wp2_with (first
     | (at_builtin; refine Lib.wpList_append_run _ rfl _ _ _ _ rfl _ _ rfl rfl _ _ (hrz _) ?_)
     | (at_builtin; refine wpList_copy_at rfl _ _ 26 26 rfl _ _ rfl rfl (hcp1 _ _) ?_))
    go_region_law (refine step_copy_at rfl _ _ 26 26 rfl _ _ (by simp [Act.eval, Act.put]) (by simp [Act.eval, Act.put]) (hcp2 _ _ _) ?_);go_wp2;go_ret;exact HEND.out
  ·
   obtain rfl : xs.length = i := by omega
   have HE := hid9 (HEnd.out rfl);clear ho hg hcs htk hx HEnd HTgt hne hcm;go_enter func232, ntmps232;go_wp2_with (at_builtin; refine wpList_append_own2 _ rfl _ _ 26 rfl base 99 i0 (.agg #[.string ⟨#[]⟩, .string ⟨#[]⟩]) 2 32 underlying26 HI.out HZ.out.1 HZ.out.2.1 HZ.out.2.2 rfl (by decide) _ _ _ rfl HO.out ⟨vb, 0, none⟩ 1 1 (encC x) rfl HXL.out (HXN.out _ (Below.refl _ _)) HX1.out (by unfold maxLen; omega) (by omega) (by omega) ?_)
   all_goals
    intro v' w' hown hgrow hor;have H2 := hid9 (show OwnStep 99 2 base (.slice (some ⟨g, 0, none⟩) xs.length cap) (xs.length + 1) TT w (.returned v') w' from ⟨v', rfl, by rw [HE.out]; exact hown, hgrow, hor⟩);clear hown hgrow hor;go_wp2;go_ret;exact H2.out
def delP (key : ByteArray) (c : ByteArray × ByteArray) : Bool := eqB c.1 key
theorem delFn_c (key : ByteArray) (B : Nat) (W : World) (hc : W.cell? ⟨B, 0, none⟩ = some (.string key)) (x : ByteArray × ByteArray) :
 Calls prog 229 #[.agg #[.string x.1, .string x.2], .pointer (some ⟨B, 0, none⟩)] W fun e w' => e = .returned (.bool (delP key x)) ∧ Below W.heap.size W w' := by
 have hBW : B < W.heap.size := World.block_lt_of_cell? W _ hc;have hne : B ≠ W.heap.size := by omega
 have HG := hid9 (show delP key x = (x.1.toList == key.toList) from rfl);cases hq : (x.1.toList == key.toList)
 all_goals
  go_enter func229, ntmps229;go_wp2;go_ret;exact ⟨by rw [HG.out, hq]; rfl, bel9⟩
theorem gtFn_c (key : ByteArray) (B : Nat) (W : World) (hc : W.cell? ⟨B, 0, none⟩ = some (.string key)) (x : ByteArray × ByteArray) :
 Calls prog 231 #[.agg #[.string x.1, .string x.2], .pointer (some ⟨B, 0, none⟩)] W fun e w' => e = .returned (.bool (gtP key x)) ∧ Below W.heap.size W w' := by
 have hBW : B < W.heap.size := World.block_lt_of_cell? W _ hc;have hne : B ≠ W.heap.size := by omega
 have HG := hid9 (show gtP key x = !(Op.bytesLess x.1.toList key.toList || x.1.toList == key.toList) from (gt_is _ _).symm);cases hq : (x.1.toList == key.toList) <;> cases hp : Op.bytesLess x.1.toList key.toList
 all_goals
  go_enter func231, ntmps231;go_wp2;go_ret;exact ⟨by rw [HG.out, hq, hp]; rfl, bel9⟩
theorem delK_none {xs : List (ByteArray × ByteArray)} {key : ByteArray} (h : noneUp (delP key) xs xs.length) : delK xs key = xs := by
 unfold delK;rw [List.filter_eq_self];intro x hx;obtain ⟨j, hj⟩ := List.mem_iff_getElem?.1 hx;have := h j x (lt_of_some hj) hj;unfold delP at this;simp [this]
theorem delK_keep {xs : List (ByteArray × ByteArray)} {key : ByteArray} {k : Nat} {x : ByteArray × ByteArray} (hx : xs[k]? = some x) (h : delP key x = false) : delK (xs.take (k + 1)) key = delK (xs.take k) key ++ [x] := by
 unfold delK; rw [take_snoc_of hx, List.filter_append]; unfold delP at h; simp [h]
theorem delK_drop {xs : List (ByteArray × ByteArray)} {key : ByteArray} {k : Nat} {x : ByteArray × ByteArray} (hx : xs[k]? = some x) (h : delP key x = true) : delK (xs.take (k + 1)) key = delK (xs.take k) key := by
 unfold delK; rw [take_snoc_of hx, List.filter_append]; unfold delP at h; simp [h]
theorem delK_first {xs : List (ByteArray × ByteArray)} {key : ByteArray} {k : Nat} {x : ByteArray × ByteArray} (hu : noneUp (delP key) xs k) (hx : xs[k]? = some x) (h : delP key x = true) : delK (xs.take (k + 1)) key = xs.take k := by
 rw [delK_drop hx h];unfold delK;rw [List.filter_eq_self];intro y hy;obtain ⟨j, hj⟩ := List.mem_iff_getElem?.1 hy;rw [List.getElem?_take] at hj;split at hj
 ·have := hu j y (by assumption) hj;unfold delP at this;simp [this]
 ·cases hj
theorem delK_lt {xs : List (ByteArray × ByteArray)} {key : ByteArray} {k j : Nat} {x : ByteArray × ByteArray} (hx : xs[k]? = some x) (h : delP key x = true) (hj : k < j) (hl : j ≤ xs.length) : (delK (xs.take j) key).length < j := by
 have hk := lt_of_some hx;have hlen : (xs.take j).length = j := by rw [List.length_take]; omega
 rcases Nat.lt_or_ge (delK (xs.take j) key).length j with h1 | h1
 ·exact h1
 ·exfalso;have e : (delK (xs.take j) key).length = (xs.take j).length := by
   have := delK_len (xs.take j) key;omega
  have e2 := List.length_filter_eq_length_iff.1 e x (by
   rw [List.mem_iff_getElem?];exact ⟨k, by rw [List.getElem?_take, if_pos hj]; exact hx⟩)
  unfold delP at h;simp [h] at e2
theorem cell_keepG {w w' : World} {g B : Nat} {v : Value} (hg : w.grownBy w' (some g)) (hne : g ≠ B) (hc : w.cell? ⟨B, 0, none⟩ = some v) : w'.cell? ⟨B, 0, none⟩ = some v :=
 (World.cell?_of_block (hg.block B (World.block_lt_of_cell? w _ hc) (by intro e; cases e; exact hne rfl))).trans hc
set_option maxRecDepth 100000 in
set_option maxRecDepth 100000 in
theorem deleteC_c (v : Value) (base B : Nat) (xs : List (ByteArray × ByteArray)) (key : ByteArray) (w : World) (hlen : xs.length ≤ 2199023255552) (ho : w.ownsRow base 99 2 v xs.length (xs.flatMap encC))
 (hB : w.cell? ⟨B, 0, none⟩ = some (.string key)) (hne : ∀ k, v.ownBlock = some k → k ≠ B) (_hbase : base ≤ w.heap.size) :
 Calls prog 228 #[v, .func (.func 229) #[] #[.pointer (some ⟨B, 0, none⟩)]] w
  (OwnStep 99 2 base v (delK xs key).length ((delK xs key).flatMap encC) w) := by
 have eg : ∀ args w, (callFunc 229 args).run prog w = .ok (.enter 229 args) w := fun args w => enters_of func229 (by kernel_rfl) rfl args w;have HEG := hid9 eg;obtain ⟨a, cap, rfl, hr⟩ := reads_of_owns encC_len ho;have HR := hid9 hr;have HO := hid9 ho;have HBc := hid9 hB;have hBlt : B < w.heap.size := World.block_lt_of_cell? w _ hB;have K := hid9 (indexFuncC_c a cap xs (delP key) 229 #[.pointer (some ⟨B, 0, none⟩)] eg w (fun W x _ hb => delFn_c key B W (keepS hb hB) x) (by unfold maxLen; omega) hr);obtain ⟨TT, hTT⟩ : ∃ TT, TT = delK xs key := ⟨_, rfl⟩;have HT := hid9 hTT;rw [← hTT];clear hTT hr hB eg;rcases Nat.lt_or_ge (xs.findIdx (delP key)) xs.length with hlt | hge
 ·obtain ⟨x0, hx0⟩ := some_of_lt hlt;obtain ⟨k0, hk0⟩ : ∃ k, xs.findIdx (delP key) = k := ⟨_, rfl⟩;have HI2 := hid9 (idxI_lt hlt);have hup : noneUp (delP key) xs k0 := fun j y hj hy => by
   rw [← hk0] at hj;have := List.not_of_lt_findIdx hj;obtain ⟨hl, rfl⟩ := List.getElem?_eq_some_iff.1 hy;simpa using this
  have hp0 : delP key x0 = true := by
   have := List.findIdx_getElem (w := hlt);obtain ⟨hl, e⟩ := List.getElem?_eq_some_iff.1 hx0;rw [← e]; exact this
  have HKK := hid9 hk0;rw [hk0] at hlt hx0 HI2;have HX0 := hid9 hx0;have HP0 := hid9 hp0;have HST := hid9 (delK_first hup hx0 hp0);clear hk0 hup hp0 hx0;rcases ho.2 with ⟨hv, h0⟩ | ⟨g, cap', cur, hv, hbg, hg, hnc, hcm, hcs, htk⟩
  ·omega
  ·simp only [Value.slice.injEq] at hv;obtain ⟨rfl, _, rfl⟩ := hv;have hgB : g ≠ B := hne g rfl;have HCM := hid9 hcm;unfold maxLen at hcm;have HF0 := hid9 (show Filling w g 99 2 cap ((xs.take k0).flatMap encC) from ⟨cur, hg, hcs, by
    have e := (take_flatMap_const encC_len xs k0 (by omega)).symm;rw [length_flatMap_const encC_len, e, ← htk, List.take_take, List.length_take];congr 1; omega⟩)
   have HRow := hid9 (show ∀ j y, xs[j]? = some y → w.cell? ⟨g, j * 2, none⟩ = some (.string y.1) ∧ w.cell? ⟨g, j * 2 + 1, none⟩ = some (.string y.2) from fun j y hy => by
    rcases HR.out with rfl | ⟨b, off, e, _, h3⟩
    ·simp at hy
    ·cases e;have a0 := h3 j y hy 0 _ rfl;have a1 := h3 j y hy 1 _ rfl;simp only [Nat.zero_add, Nat.add_zero] at a0 a1;exact ⟨a0, a1⟩)
   have hne1 : ((k0 : Int) == -1) = false := beq_eq_false_iff_ne.2 (by omega);clear hg hcs htk ho hne;go_enter func228, ntmps228;go_wp2_with fail;refine K.out.mono ?_;rintro e w1 ⟨rfl, hb1⟩;rw [HKK.out, HI2.out];have B1 := hid9 hb1;clear hb1;go_wp2;go_loopw [5, 6, 7] (fun i j _ wr => ∃ m : Nat, k0 < m ∧ m ≤ xs.length ∧ j = .int .i64 m ∧ i = .int .i64 (delK (xs.take m) key).length ∧ Hid (Filling wr g 99 2 cap ((delK (xs.take m) key).flatMap encC)) ∧ Hid (∀ t, m * 2 ≤ t → wr.cell? ⟨g, t, none⟩ = w.cell? ⟨g, t, none⟩) ∧ Hid (w.grownBy wr (some g))) (fun _ j _ _ => xs.length - (intOf j).toNat)
   case atStart =>
    refine ⟨k0 + 1, by omega, by omega, by go_num, ?_, ?_, ?_, ?_⟩
    ·rw [HST.out, List.length_take]; congr 2; omega
    ·rw [HST.out]; exact hid9 (HF0.out.below B1.out)
    ·exact hid9 (fun t _ => B1.out.cell (p := ⟨g, t, none⟩) (HF0.out.lt))
    ·exact hid9 (grownBy_of_below B1.out _)
   case round =>
    obtain ⟨m, hkm, hm, rfl, rfl, HF, HC, HG⟩ := hrel;have p1 : (0 : Int) ≤ (m : Int) := by omega
    have hdl := delK_lt HX0.out HP0.out hkm hm;by_cases hlt2 : m < xs.length
    ·obtain ⟨y, hy⟩ := some_of_lt hlt2;have p2 : (m : Int) < (xs.length : Int) := by omega
     have HY := hid9 hy;have c0 := (HC.out (m * 2) (by omega)).trans (HRow.out m y hy).1;have c1 := (HC.out (m * 2 + 1) (by omega)).trans (HRow.out m y hy).2;have cB : wr.cell? ⟨B, 0, none⟩ = some (.string key) := cell_keepG HG.out hgB HBc.out;have HcB := hid9 cB;have hglt : g < wr.heap.size := HF.out.lt;have hgne : g ≠ wr.heap.size := by omega
     have hBlt2 : B < wr.heap.size := World.block_lt_of_cell? wr _ cB;have HCall := hid9 (fun (W : World) (hW : Below wr.heap.size wr W) => delFn_c key B W (keepS hW HcB.out) y);have hl2 : (delK (xs.take m) key).length ≤ 2199023255552 := by omega
     obtain ⟨y0, y1⟩ := y;dsimp only at c0 c1;clear hy cB;have eg := HEG.out;cases hq : delP key (y0, y1) with
     | false =>
      have HS := hid9 (delK_keep HY.out hq);rw [hq] at HCall;obtain ⟨n, hn⟩ : ∃ n, (delK (xs.take m) key).length = n := ⟨_, rfl⟩;have HN := hid9 hn;rw [hn] at hdl hl2 ⊢;clear hn hq;have pn0 : (0 : Int) ≤ (n : Int) := by omega
      have pn1 : (n : Int) < (xs.length : Int) := by omega
      go_wp2_with (go_at_fn 229; refine (HCall.out _ (by repeat (first | exact Below.refl _ _ | refine Below.allocC ?_ _ | refine Below.setCell ?_ (by simp) _))).mono ?_; rintro e w2 ⟨rfl, hb2⟩; have d0 : w2.cell? ⟨wr.heap.size, 0, none⟩ = some (.string y0) := keepS hb2 (by simp); have d1 : w2.cell? ⟨wr.heap.size, 1, none⟩ = some (.string y1) := keepS hb2 (by simp); have B2 := hid9 (show Below wr.heap.size wr w2 from bel9); have F2 := HF.out.below B2.out; have f0 := F2.free (n * 2); have f1 := F2.free (n * 2 + 1); obtain ⟨o0, z0⟩ := F2.cell (n * 2) (by omega); obtain ⟨o1, z1⟩ := F2.cell (n * 2 + 1) (by omega); clear F2);have hfl : ((delK (xs.take m) key).flatMap encC).length = n * 2 := by rw [length_flatMap_const encC_len, HN.out]
      have F3 := hid9 (show Filling ((w2.setCell ⟨g, n * 2, none⟩ (.string y0)).setCell ⟨g, n * 2 + 1, none⟩ (.string y1)) g 99 2 cap ((delK (xs.take (m + 1)) key).flatMap encC) from by
       have h := (HF.out.below B2.out).stores [.string y0, .string y1] (n * 2) hfl.symm (by rw [hfl]; simp; omega);rw [HS.out, List.flatMap_append]; exact h)
      have HC3 := hid9 (show ∀ t, (m + 1) * 2 ≤ t → ((w2.setCell ⟨g, n * 2, none⟩ (.string y0)).setCell ⟨g, n * 2 + 1, none⟩ (.string y1)).cell? ⟨g, t, none⟩ = w.cell? ⟨g, t, none⟩ from fun t ht => by
       rw [World.cell?_setCell_other _ _ _ _ (by first | (simp; done) | (simp; omega)), World.cell?_setCell_other _ _ _ _ (by first | (simp; done) | (simp; omega)), B2.out.cell (p := ⟨g, t, none⟩) hglt];exact HC.out t (by omega))
      have HG3 := hid9 (show w.grownBy ((w2.setCell ⟨g, n * 2, none⟩ (.string y0)).setCell ⟨g, n * 2 + 1, none⟩ (.string y1)) (some g) from grownBy_trans (grownBy_trans HG.out (grownBy_of_below B2.out _)) (sets_grown [.string y0, .string y1] w2 g (n * 2)));have HL3 := hid9 (show (delK (xs.take (m + 1)) key).length = n + 1 from by rw [HS.out, List.length_append, HN.out]; rfl);clear hfl d0 d1 f0 f1 z0 z1;go_wp2;go_roundw
      case rel => exact ⟨m + 1, by omega, by omega, by go_num, by rw [HL3.out]; go_num, F3, HC3, HG3⟩
      case measure => simp [intOf]; omega
     | true =>
      have HS := hid9 (delK_drop HY.out hq);rw [hq] at HCall;clear hq;go_wp2_with (go_at_fn 229; refine (HCall.out _ (by repeat (first | exact Below.refl _ _ | refine Below.allocC ?_ _ | refine Below.setCell ?_ (by simp) _))).mono ?_; rintro e w2 ⟨rfl, hb2⟩; have B2 := hid9 (show Below wr.heap.size wr w2 from bel9));have F3 := hid9 (show Filling w2 g 99 2 cap ((delK (xs.take (m + 1)) key).flatMap encC) from by
       rw [HS.out]; exact HF.out.below B2.out)
      have HC3 := hid9 (show ∀ t, (m + 1) * 2 ≤ t → w2.cell? ⟨g, t, none⟩ = w.cell? ⟨g, t, none⟩ from fun t ht => by
       rw [B2.out.cell (p := ⟨g, t, none⟩) hglt];exact HC.out t (by omega))
      have HG3 := hid9 (show w.grownBy w2 (some g) from grownBy_trans HG.out (grownBy_of_below B2.out _));go_wp2;go_roundw
      case rel => exact ⟨m + 1, by omega, by omega, by go_num, by rw [HS.out], F3, HC3, HG3⟩
      case measure => simp [intOf]; omega
    ·obtain rfl : m = xs.length := by omega
     rw [List.take_of_length_le (Nat.le_refl _), ← HT.out] at HF;rw [List.take_of_length_le (Nat.le_refl _), ← HT.out] at hdl ⊢;obtain ⟨n, hn⟩ : ∃ n, TT.length = n := ⟨_, rfl⟩;have HN := hid9 hn;have p2 : ¬ (xs.length : Int) < (xs.length : Int) := by omega
     have hfl : (TT.flatMap encC).length = n * 2 := by rw [length_flatMap_const encC_len, hn]
     rw [hn] at hdl ⊢;clear hn;obtain ⟨L, hL, hLs, hLt⟩ := HF.out;rw [hfl] at hLt;obtain ⟨L2, hL2⟩ : ∃ L2, L2 = (L.toList.take (n * 2) ++ (Builtin.zeroCells (.agg #[.string ⟨#[]⟩, .string ⟨#[]⟩] : Value).cells (xs.length - n)).toList ++ L.toList.drop (n * 2 + (xs.length - n) * 2)).toArray := ⟨_, rfl⟩;obtain ⟨W2, hW2⟩ : ∃ W2, W2 = wr.setRow g L2 := ⟨_, rfl⟩;have hcl : ∀ ty, (Builtin.clear_ #[26] ty #[.slice (some ⟨g, n * 2, none⟩) (xs.length - n) (cap - n)]).run prog wr = .ok (.tuple #[]) W2 := fun ty => by
      rw [hW2, hL2];exact run_clearK wr _ 99 ty _ underlying26 (fun _ => by rfl) g (n * 2) (xs.length - n) _ 2 rfl (fun u hu => by
       have := Array.mem_toList_iff.1 hu;simp only [Builtin.zeroCells] at this;obtain ⟨i, _, rfl⟩ := Array.mem_map.1 this;simp only [Value.cells];rcases Nat.mod_two_eq_zero_or_one i with h | h <;> simp [h, Value.oneCell']) L 99 hL (by rw [hLs]; omega)
     have hz : (Builtin.zeroCells (.agg #[.string ⟨#[]⟩, .string ⟨#[]⟩] : Value).cells (xs.length - n)).toList.length = (xs.length - n) * 2 := by rw [Array.length_toList, zeroCells_toList]; rfl
     have H2 := hid9 (show OwnStep 99 2 base (.slice (some ⟨g, 0, none⟩) xs.length cap) n (TT.flatMap encC) w (.returned (.slice (some ⟨g, 0, none⟩) n cap)) W2 from by
      refine ⟨_, rfl, ⟨hfl, .inr ⟨g, cap, L2, rfl, hbg, by rw [hW2]; exact setRow_heap wr g L L2 _ _ hL, by omega, HCM.out, by rw [hL2, List.size_toArray, List.length_append, List.length_append, hz, List.length_take, List.length_drop, Array.length_toList, hLs]; omega, ?_⟩⟩, by rw [hW2]; exact grownBy_trans HG.out (grownBy_setRow wr g L2), .inl rfl⟩;rw [hL2];simp only [List.append_assoc];rw [List.take_append_of_le_length (by rw [List.length_take, Array.length_toList, hLs]; omega), List.take_take, Nat.min_self, hLt])
     clear hL hLs hLt hL2 hW2 hz hfl HC HG HF;go_wp2;go_ret;rw [HN.out];exact H2.out
 ·have HI2 := hid9 (idxI_ge hge);have HE : Hid (TT = xs) := hid9 (by
   rw [HT.out];apply delK_none;intro j y hj hy;have := List.not_of_lt_findIdx (show j < xs.findIdx (delP key) by omega);obtain ⟨hl, rfl⟩ := List.getElem?_eq_some_iff.1 hy;simpa using this)
  clear hge ho hne;go_enter func228, ntmps228;go_wp2_with fail;refine K.out.mono ?_;rintro e w1 ⟨rfl, hb1⟩;rw [HI2.out];go_wp2;go_ret;rw [HE.out];exact OwnStep.stay HO.out hb1
end
section
open Go.RowKit
def inB (n lo hi : Int) : Bool := decide (lo ≤ n) && decide (n ≤ hi)
theorem inB_yes {n lo hi : Int} (h1 : lo ≤ n) (h2 : n ≤ hi) : inB n lo hi = true := by simp [inB, h1, h2]
theorem inB_lo {n lo hi : Int} (h1 : n < lo) : inB n lo hi = false := by simp [inB]; omega
theorem inB_hi {n lo hi : Int} (h1 : hi < n) : inB n lo hi = false := by simp [inB]; omega
theorem inB_iff {n lo hi : Int} : inB n lo hi = true ↔ lo ≤ n ∧ n ≤ hi := by simp [inB]
theorem inB_false {n lo hi : Int} (h : inB n lo hi = false) : n < lo ∨ hi < n := by
 simp [inB] at h; omega
theorem l01In_c (n lo hi : Int) (w : World) :
 Calls prog 70 #[.int .i64 n, .int .i64 lo, .int .i64 hi] w fun e w' => e = .returned (.bool (inB n lo hi)) ∧ w = w' := by
 by_cases h1 : lo ≤ n
 ·by_cases h2 : n ≤ hi
  ·go_enter func70, ntmps70;go_wp2;go_ret;exact ⟨by rw [inB_yes h1 h2]; rfl, rfl⟩
  ·go_enter func70, ntmps70;go_wp2;go_ret;exact ⟨by rw [inB_hi (by omega)]; rfl, rfl⟩
 ·go_enter func70, ntmps70;go_wp2;go_ret;exact ⟨by rw [inB_lo (by omega)]; rfl, rfl⟩
theorem within_c (n lo hi : Int) (w : World) :
 Calls prog 152 #[.int .i64 n, .int .i64 lo, .int .i64 hi] w fun e w' => e = .returned (.bool (inB n lo hi)) ∧ w = w' := by
 by_cases h1 : lo ≤ n
 ·by_cases h2 : n ≤ hi
  ·go_enter func152, ntmps152;go_wp2;go_ret;exact ⟨by rw [inB_yes h1 h2]; rfl, rfl⟩
  ·go_enter func152, ntmps152;go_wp2;go_ret;exact ⟨by rw [inB_hi (by omega)]; rfl, rfl⟩
 ·go_enter func152, ntmps152;go_wp2;go_ret;exact ⟨by rw [inB_lo (by omega)]; rfl, rfl⟩
def keyByte (c : UInt8) : Bool := decide (33 ≤ (c.toNat : Int)) && decide ((c.toNat : Int) ≤ 126) && !((c.toNat : Int) == 42)
def keyOkB (s : ByteArray) : Bool := s.data.toList.all keyByte && inB s.size 1 40
def keysUpTo (s : ByteArray) (k : Nat) : Prop := (s.data.toList.take k).all keyByte = true
theorem keysUpTo_zero (s : ByteArray) : keysUpTo s 0 := by simp [keysUpTo]
theorem take_snoc (s : ByteArray) (k : Nat) (h : k < s.size) : s.data.toList.take (k + 1) = s.data.toList.take k ++ [s[k]] := by
 rw [List.take_succ_eq_append_getElem (by simpa using h)]; rfl
theorem keysUpTo_succ (s : ByteArray) (k : Nat) (h : k < s.size) (hk : keysUpTo s k) (hb : keyByte s[k] = true) : keysUpTo s (k + 1) := by
 unfold keysUpTo at *;rw [take_snoc s k h, List.all_append, hk];simp [hb]
theorem keyOk_no (s : ByteArray) (k : Nat) (h : k < s.size) (hb : keyByte s[k] = false) : keyOkB s = false := by
 have : s.data.toList.all keyByte = false := by
  rw [List.all_eq_false];exact ⟨s[k], by rw [show s[k] = s.data.toList[k]'(by simpa using h) from rfl]; exact List.getElem_mem _, by simp [hb]⟩
 simp [keyOkB, this]
theorem keyOk_end (s : ByteArray) (k : Nat) (hk : keysUpTo s k) (h : s.size ≤ k) : keyOkB s = inB s.size 1 40 := by
 unfold keysUpTo at hk;rw [List.take_of_length_le (by simpa using h)] at hk;simp [keyOkB, hk]
theorem byte_le (c : UInt8) : (c.toNat : Int) ≤ 255 := by have := c.toNat_lt; omega
theorem keyByte_of {c : UInt8} (h1 : (33 : Int) ≤ c.toNat) (h2 : (c.toNat : Int) ≤ 126) (h3 : ((c.toNat : Int) == 42) = false) : keyByte c = true := by simp [keyByte, h1, h2, h3]
theorem keyByte_in {c : UInt8} (h1 : inB (c.toNat : Int) 33 126 = true) (h3 : ((c.toNat : Int) == 42) = false) : keyByte c = true := keyByte_of (inB_iff.1 h1).1 (inB_iff.1 h1).2 h3
theorem keyByte_out {c : UInt8} (h1 : inB (c.toNat : Int) 33 126 = false) : keyByte c = false := by
 rcases inB_false h1 with h | h <;> simp [keyByte] <;> omega
theorem keyByte_lo {c : UInt8} (h1 : (c.toNat : Int) < 33) : keyByte c = false := by simp [keyByte]; omega
theorem keyByte_hi {c : UInt8} (h1 : 126 < (c.toNat : Int)) : keyByte c = false := by simp [keyByte]; omega
theorem keyByte_star {c : UInt8} (h1 : ((c.toNat : Int) == 42) = true) : keyByte c = false := by simp [keyByte, h1]
theorem specKeyOk_c (s : ByteArray) (w : World) (hs : s.size ≤ maxLen) :
 Calls prog 69 #[.string s] w fun e w' => e = .returned (.bool (keyOkB s)) ∧ w = w' := by
 unfold maxLen at hs;go_enter func69, ntmps69;go_wp2;go_loop [3] (fun i => ∃ k : Nat, k ≤ s.size ∧ i = .int .i64 k ∧ keysUpTo s k) (fun i => s.size - (intOf i).toNat)
 case atStart => exact ⟨0, Nat.zero_le _, rfl, keysUpTo_zero s⟩
 case round =>
  obtain ⟨k, hk, rfl, hup⟩ := hrel;by_cases hlt : k < s.size
  ·have hb255 := byte_le s[k];by_cases hin : inB (s[k].toNat : Int) 33 126 = true
   ·by_cases h3 : ((s[k].toNat : Int) == 42) = true
    ·have hno := hid9 (keyOk_no s k hlt (keyByte_star h3));go_wp2_with (first | (go_at_call 70; refine (l01In_c _ _ _ _).mono ?_; rintro e w' ⟨rfl, rfl⟩) | go_in);go_ret;exact ⟨by rw [hno.out]; rfl, rfl⟩
    ·have h3' : ((s[k].toNat : Int) == 42) = false := by simpa using h3
     have hsucc := keysUpTo_succ s k hlt hup (keyByte_in hin h3');clear h3;go_wp2_with (first | (go_at_call 70; refine (l01In_c _ _ _ _).mono ?_; rintro e w' ⟨rfl, rfl⟩) | go_in);go_round
     case rel => exact ⟨k + 1, by omega, by go_num, hsucc⟩
     case measure => simp [intOf]; omega
   ·have hin' : inB (s[k].toNat : Int) 33 126 = false := by simpa using hin
    clear hin;have hno := hid9 (keyOk_no s k hlt (keyByte_out hin'));go_wp2_with (first | (go_at_call 70; refine (l01In_c _ _ _ _).mono ?_; rintro e w' ⟨rfl, rfl⟩) | go_in);go_ret;exact ⟨by rw [hno.out]; rfl, rfl⟩
  ·have hend := hid9 (keyOk_end s k hup (by omega));go_wp2_with (first | (go_at_call 70; refine (l01In_c _ _ _ _).mono ?_; rintro e w' ⟨rfl, rfl⟩) | go_in);go_ret;exact ⟨by rw [hend.out]; rfl, rfl⟩
theorem implKeyOk_c (s : ByteArray) (w : World) (hs : s.size ≤ maxLen) :
 Calls prog 227 #[.string s] w fun e w' => e = .returned (.bool (keyOkB s)) ∧ w = w' := by
 unfold maxLen at hs;go_enter func227, ntmps227;go_wp2;go_loop [6] (fun i => ∃ k : Nat, k ≤ s.size ∧ i = .int .i64 k ∧ keysUpTo s k) (fun i => s.size - (intOf i).toNat)
 case atStart => exact ⟨0, Nat.zero_le _, rfl, keysUpTo_zero s⟩
 case round =>
  obtain ⟨k, hk, rfl, hup⟩ := hrel;by_cases hlt : k < s.size
  ·by_cases h1 : (s[k].toNat : Int) < 33
   ·have hno := hid9 (keyOk_no s k hlt (keyByte_lo h1));go_wp2_with (first | (go_at_call 152; refine (within_c _ _ _ _).mono ?_; rintro e w' ⟨rfl, rfl⟩) | go_in);go_ret;exact ⟨by rw [hno.out]; rfl, rfl⟩
   ·by_cases h2 : 126 < (s[k].toNat : Int)
    ·have hno := hid9 (keyOk_no s k hlt (keyByte_hi h2));go_wp2_with (first | (go_at_call 152; refine (within_c _ _ _ _).mono ?_; rintro e w' ⟨rfl, rfl⟩) | go_in);go_ret;exact ⟨by rw [hno.out]; rfl, rfl⟩
    ·by_cases h3 : ((s[k].toNat : Int) == 42) = true
     ·have hno := hid9 (keyOk_no s k hlt (keyByte_star h3));go_wp2_with (first | (go_at_call 152; refine (within_c _ _ _ _).mono ?_; rintro e w' ⟨rfl, rfl⟩) | go_in);go_ret;exact ⟨by rw [hno.out]; rfl, rfl⟩
     ·have h3' : ((s[k].toNat : Int) == 42) = false := by simpa using h3
      have hsucc := keysUpTo_succ s k hlt hup (keyByte_of (by omega) (by omega) h3');clear h3;go_wp2_with (first | (go_at_call 152; refine (within_c _ _ _ _).mono ?_; rintro e w' ⟨rfl, rfl⟩) | go_in);go_round
      case rel => exact ⟨k + 1, by omega, by go_num, hsucc⟩
      case measure => simp [intOf]; omega
  ·have hend := hid9 (keyOk_end s k hup (by omega));go_wp2_with (first | (go_at_call 152; refine (within_c _ _ _ _).mono ?_; rintro e w' ⟨rfl, rfl⟩) | go_in);go_ret;exact ⟨by rw [hend.out]; rfl, rfl⟩
end
section
open Go.RowKit
attribute [local go_sem ↓] Go.wp_at_zero Go.wp_at_succ
def putKeyS (xs : List (ByteArray × ByteArray)) (key val : ByteArray) : List (ByteArray × ByteArray) := if keyOkB key = false ∨ 60 < val.size then xs else putV xs key val
theorem putKey_bad {xs : List (ByteArray × ByteArray)} {key val : ByteArray} (h : keyOkB key = false ∨ 60 < val.size) : putKeyS xs key val = xs := by unfold putKeyS; rw [if_pos h]
theorem putKey_good {xs : List (ByteArray × ByteArray)} {key val : ByteArray} (h : keyOkB key = true) (h2 : val.size ≤ 60) : putKeyS xs key val = putV xs key val := by unfold putKeyS; rw [if_neg]; simp [h]; exact h2
theorem putV_del {xs : List (ByteArray × ByteArray)} {key val : ByteArray} (h : val.size = 0) : putV xs key val = delK xs key := by unfold putV; rw [if_pos h]
theorem putV_ins {xs : List (ByteArray × ByteArray)} {key val : ByteArray} (h : val.size ≠ 0) : putV xs key val = insK (key, val) (delK xs key) := by unfold putV; rw [if_neg h]
theorem putKeyS_len (xs : List (ByteArray × ByteArray)) (key val : ByteArray) : (putKeyS xs key val).length ≤ xs.length + 1 := by
 unfold putKeyS; split
 ·omega
 ·exact putV_len _ _ _
theorem insK_at {c : ByteArray × ByteArray} {xs : List (ByteArray × ByteArray)} {k : Nat} (h : xs.findIdx (gtP c.1) = k) : insK c xs = xs.take k ++ c :: xs.drop k := by rw [insK_is, h]
theorem empty_iff {s : ByteArray} : s.toList = [] ↔ s.size = 0 := by
 rw [Lib.toList_data];exact ⟨fun h => by have := congrArg List.length h; simpa using this, fun h => List.eq_nil_of_length_eq_zero (by simpa using h)⟩
set_option maxRecDepth 100000 in
theorem put_c (v : Value) (base : Nat) (xs : List (ByteArray × ByteArray)) (key val : ByteArray) (w : World) (hlen : xs.length ≤ 2150000000000) (ho : w.ownsRow base 99 2 v xs.length (xs.flatMap encC)) (hbase : base ≤ w.heap.size) (hk : key.size ≤ maxLen) (hv : val.size ≤ maxLen) :
 Calls prog 202 #[v, .string key, .string val] w (OwnStep 99 2 base v (putKeyS xs key val).length ((putKeyS xs key val).flatMap encC) w) := by
 have HO := hid9 ho;have HLT := hid9 ho.lt;have HK := hid9 (fun W => implKeyOk_c key W hk);unfold maxLen at hv;clear ho;obtain ⟨TT, hTT⟩ : ∃ TT, TT = putKeyS xs key val := ⟨_, rfl⟩;have HT := hid9 hTT;rw [← hTT];clear hTT;cases hq : keyOkB key with
 | false =>
  have HE := hid9 (HT.out.trans (putKey_bad (.inl hq)));rw [hq] at HK;clear hq;go_enter func202, ntmps202;go_wp2_with fail;refine (HK.out _).mono ?_;rintro e w1 ⟨rfl, rfl⟩;go_wp2;go_ret;rw [HE.out];exact OwnStep.stay HO.out bel9
 | true =>
  rw [hq] at HK;by_cases h60 : 60 < val.size
  ·have HE := hid9 (HT.out.trans (putKey_bad (.inr h60)));have p60 : (60 : Int) < (val.size : Int) := by omega
   clear hq h60;go_enter func202, ntmps202;go_wp2_with fail;refine (HK.out _).mono ?_;rintro e w1 ⟨rfl, rfl⟩;go_wp2;go_ret;rw [HE.out];exact OwnStep.stay HO.out bel9
  ·have p60 : ¬ (60 : Int) < (val.size : Int) := by omega
   have HE0 := hid9 (HT.out.trans (putKey_good hq (by omega)));have HD := hid9 (fun (W : World) (hW : Below w.heap.size w W) (hc : W.cell? ⟨w.heap.size, 0, none⟩ = some (.string key)) => deleteC_c v base w.heap.size xs key W (by omega) (ownsRow_below HO.out hW) hc (fun k hk => by have := (HLT.out k hk).2; omega) (Nat.le_trans hbase hW.size));have hdl := delK_len xs key;obtain ⟨D, hDD⟩ : ∃ D, D = delK xs key := ⟨_, rfl⟩;rw [← hDD] at hdl HD;have HDD := hid9 hDD;clear hq h60 hDD;by_cases hz : val.size = 0
   ·have HE := hid9 (HE0.out.trans (putV_del hz));have q : (val.toList == []) = true := by simp [empty_iff, hz]
    have q2 : val.toList = [] := empty_iff.2 hz;clear hz;go_enter func202, ntmps202;go_wp2_with fail;refine (HK.out _).mono ?_;rintro e w1 ⟨rfl, rfl⟩;go_wp2_with fail;refine (HD.out _ bel9 (by simp)).mono ?_;intro e w2 hs;obtain ⟨v2, rfl, h1, h2, h3⟩ := hs.after (w := w) bel9;have H2 := hid9 (show OwnStep 99 2 base v TT.length (TT.flatMap encC) w (.returned v2) w2 from ⟨v2, rfl, by rw [HE.out, ← HDD.out]; exact h1, h2, h3⟩);clear h1 h2 h3 hs;go_wp2;go_ret;exact H2.out
   ·have HE := hid9 (HE0.out.trans (putV_ins hz));have q : (val.toList == []) = false := by simp [empty_iff, hz]
    have q2 : ¬ val.toList = [] := fun e => hz (empty_iff.1 e);clear hz;go_enter func202, ntmps202;go_wp2_with fail;refine (HK.out _).mono ?_;rintro e w1 ⟨rfl, rfl⟩;go_wp2_with fail;refine (HD.out _ bel9 (by simp)).mono ?_;intro e w2 hs;obtain ⟨v2, rfl, h1, h2, h3⟩ := hs;have hsz2 : w.heap.size < w2.heap.size := by have := h2.size; simp at this; omega
    have hcB : w2.cell? ⟨w.heap.size, 0, none⟩ = some (.string key) := by
     refine (World.cell?_of_block (h2.block w.heap.size (by simp) (fun e => ?_))).trans (by simp);have := (HLT.out _ e.symm).2;omega
    have HcB := hid9 hcB;obtain ⟨a2, cap2, rfl, r2⟩ := reads_of_owns encC_len h1;have HO2 := hid9 h1;have HR2 := hid9 r2;have HG2 := hid9 (grownBy_trans (grownBy_of_below (show Below w.heap.size w (w.alloc (.cells #[.string key] 9)) from bel9) v.ownBlock) h2);have HOr := hid9 h3;have K2 := hid9 (indexFuncC_c a2 cap2 D (gtP key) 231 #[.pointer (some ⟨w.heap.size, 0, none⟩)] (fun args w => enters_of func231 (by kernel_rfl) rfl args w) w2
     (fun W' x _ hb => gtFn_c key w.heap.size W' (keepS hb HcB.out) x) (by unfold maxLen; omega) r2)
    have HW2 := hid9 (h2.size);clear h1 h2 h3 r2 hcB;go_wp2_with fail;refine K2.out.mono ?_;rintro e w3 ⟨rfl, hb3⟩;have B3 := hid9 hb3;have hcB3 : w3.cell? ⟨w.heap.size, 0, none⟩ = some (.string key) := keepS hb3 HcB.out;have hsz3 : w.heap.size < w3.heap.size := by have := hb3.size; omega
    clear hb3;obtain ⟨k, hkk⟩ : ∃ k, D.findIdx (gtP key) = k := ⟨_, rfl⟩;have HKK := hid9 hkk;have hkl : k ≤ D.length := by rw [← hkk]; exact List.findIdx_le_length
    have HE2 := hid9 (show TT = D.take k ++ (key, val) :: D.drop k from HE.out.trans (by rw [← HDD.out]; exact insK_at (c := (key, val)) hkk));rw [hkk];clear hkk;have HINS := hid9 (fun (W : World) (hW : Below w3.heap.size w3 W) (hx : Box W w3.heap.size [.string key, .string val]) => (insertC_c (.slice a2 D.length cap2) base k D (key, val) w3.heap.size W (by omega) (ownsRow_below (ownsRow_below HO2.out B3.out) hW) hkl hx (fun j hj => by
     have h := (HO2.out.lt j hj).2;have h' := B3.out.size;omega) (by have := B3.out.size; have := hW.size; omega)))
    by_cases hlt : k < D.length
    ·have HI := hid9 (idxI_lt hlt);rw [HI.out];have p1 : (0 : Int) ≤ (k : Int) := by omega
     go_wp2_with fail;refine (HINS.out _ bel9 (Box.new _ [.string key, .string val] _)).mono ?_;intro e w4 hs;obtain ⟨v4, rfl, h1, h2, h3⟩ := OwnStep.next (w := w) (v := v) HG2.out (HOr.out.from (by simp)) (B3.out.trans (show Below w2.heap.size w3 (w3.alloc (.cells #[.string key, .string val] 99)) from Below.mono bel9 B3.out.size)) hs;have H2 := hid9 (show OwnStep 99 2 base v TT.length (TT.flatMap encC) w (.returned v4) w4 from ⟨v4, rfl, by
      have hl : TT.length = D.length + 1 := by rw [HE2.out, List.length_append, List.length_cons, List.length_take, List.length_drop]; omega
      rw [hl, HE2.out]; exact h1, h2, h3⟩)
     clear h1 h2 h3 hs;go_wp2;go_ret;exact H2.out
    ·have HI := hid9 (idxI_ge (Nat.not_lt.1 hlt));rw [HI.out];obtain rfl : D.length = k := by omega
     go_wp2_with fail;refine (HINS.out _ bel9 (Box.new _ [.string key, .string val] _)).mono ?_;intro e w4 hs;obtain ⟨v4, rfl, h1, h2, h3⟩ := OwnStep.next (w := w) (v := v) HG2.out (HOr.out.from (by simp)) (B3.out.trans (show Below w2.heap.size w3 (w3.alloc (.cells #[.string key, .string val] 99)) from Below.mono bel9 B3.out.size)) hs;have H2 := hid9 (show OwnStep 99 2 base v TT.length (TT.flatMap encC) w (.returned v4) w4 from ⟨v4, rfl, by
      have hl : TT.length = D.length + 1 := by rw [HE2.out, List.length_append, List.length_cons, List.length_take, List.length_drop]; omega
      rw [hl, HE2.out]; exact h1, h2, h3⟩)
     clear h1 h2 h3 hs;go_wp2;go_ret;exact H2.out
def outK (xs : List (ByteArray × ByteArray)) (key val : ByteArray) (d : Bool) : List (ByteArray × ByteArray) := if d then putV xs key val else delK xs key
theorem insK_none {c : ByteArray × ByteArray} : ∀ {L : List (ByteArray × ByteArray)}, L.any (gtP c.1) = false → insK c L = L ++ [c]
 | [], _ => rfl
 | y :: L, h => by
  simp only [List.any_cons, Bool.or_eq_false_iff] at h;unfold insK;have h1 : ltB c.1 y.1 = false := h.1;rw [h1, insK_none h.2]; rfl
theorem insK_snoc_hit {c : ByteArray × ByteArray} (y : ByteArray × ByteArray) : ∀ {L : List (ByteArray × ByteArray)}, L.any (gtP c.1) = true → insK c (L ++ [y]) = insK c L ++ [y]
 | [], h => by simp at h
 | z :: L, h => by
  rw [List.cons_append];unfold insK;cases hz : ltB c.1 z.1 with
  | true => rfl
  | false =>
   have h2 : L.any (gtP c.1) = true := by
    simp only [List.any_cons, Bool.or_eq_true] at h;rcases h with h | h
    ·unfold gtP at h; rw [hz] at h; cases h
    ·exact h
   simp [insK_snoc_hit y h2]
theorem insK_snoc_new {c y : ByteArray × ByteArray} (hy : gtP c.1 y = true) : ∀ {L : List (ByteArray × ByteArray)}, L.any (gtP c.1) = false → insK c (L ++ [y]) = L ++ [c, y]
 | [], _ => by
  have h : ltB c.1 y.1 = true := hy;simp [insK, h]
 | z :: L, h => by
  simp only [List.any_cons, Bool.or_eq_false_iff] at h;rw [List.cons_append];unfold insK;have h1 : ltB c.1 z.1 = false := h.1;rw [h1, insK_snoc_new hy h.2]; rfl
theorem gt_ne {key : ByteArray} {y : ByteArray × ByteArray} (h : gtP key y = true) : delP key y = false := by
 unfold delP; rw [eqB_false]; exact fun e => ltB_ne (show ltB key y.1 = true from h) e.symm
theorem any_delK (xs : List (ByteArray × ByteArray)) (key : ByteArray) : (delK xs key).any (gtP key) = xs.any (gtP key) := by
 induction xs with
 | nil => rfl
 | cons y xs ih =>
  unfold delK at ih ⊢;rw [List.filter_cons];cases h : eqB y.1 key with
  | true =>
   have : gtP key y = false := by
    cases g : gtP key y with
    | false => rfl
    | true => have := gt_ne g; unfold delP at this; rw [h] at this; cases this
   simp [ih, this]
  | false => simp [ih]
def doneK (xs : List (ByteArray × ByteArray)) (key val : ByteArray) : Bool := decide (val.size = 0) || xs.any (gtP key)
theorem doneK_snoc {xs : List (ByteArray × ByteArray)} {key val : ByteArray} {k : Nat} {y : ByteArray × ByteArray} (hy : xs[k]? = some y) : doneK (xs.take (k + 1)) key val = (doneK (xs.take k) key val || gtP key y) := by
 unfold doneK; rw [take_snoc_of hy, List.any_append]; simp [Bool.or_assoc]
theorem outK_same {xs : List (ByteArray × ByteArray)} {key val : ByteArray} {k : Nat} {y : ByteArray × ByteArray} {d : Bool} (hy : xs[k]? = some y) (h : delP key y = true) : outK (xs.take (k + 1)) key val d = outK (xs.take k) key val d := by
 unfold outK putV; rw [delK_drop hy h]
theorem outK_off {xs : List (ByteArray × ByteArray)} {key val : ByteArray} {k : Nat} {y : ByteArray × ByteArray} (hy : xs[k]? = some y) (h : delP key y = false) : outK (xs.take (k + 1)) key val false = outK (xs.take k) key val false ++ [y] := by
 unfold outK; simp [delK_keep hy h]
theorem outK_on {xs : List (ByteArray × ByteArray)} {key val : ByteArray} {k : Nat} {y : ByteArray × ByteArray} (hy : xs[k]? = some y) (h : delP key y = false) (hd : doneK (xs.take k) key val = true) : outK (xs.take (k + 1)) key val true = outK (xs.take k) key val true ++ [y] := by
 unfold outK putV;simp only [if_true];rw [delK_keep hy h];by_cases hz : val.size = 0
 ·simp [hz]
 ·have ha : (delK (xs.take k) key).any (gtP key) = true := by
   rw [any_delK]; unfold doneK at hd; simpa [hz] using hd
  simp only [hz, if_false];exact insK_snoc_hit y ha
theorem outK_new {xs : List (ByteArray × ByteArray)} {key val : ByteArray} {k : Nat} {y : ByteArray × ByteArray} (hy : xs[k]? = some y) (h : gtP key y = true) (hd : doneK (xs.take k) key val = false) : outK (xs.take (k + 1)) key val true = outK (xs.take k) key val false ++ [(key, val)] ++ [y] := by
 unfold doneK at hd;simp only [Bool.or_eq_false_iff, decide_eq_false_iff_not] at hd;unfold outK putV;simp only [if_true, hd.1, if_false];rw [delK_keep hy (gt_ne h), insK_snoc_new h (by rw [any_delK]; exact hd.2)];simp
theorem outK_end {xs : List (ByteArray × ByteArray)} {key val : ByteArray} (hd : doneK xs key val = false) : putV xs key val = outK xs key val false ++ [(key, val)] := by
 unfold doneK at hd;simp only [Bool.or_eq_false_iff, decide_eq_false_iff_not] at hd;unfold outK putV;simp only [hd.1, if_false];rw [insK_none (by rw [any_delK]; exact hd.2)];simp
theorem outK_len (xs : List (ByteArray × ByteArray)) (key val : ByteArray) (d : Bool) : (outK xs key val d).length ≤ xs.length + 1 := by
 unfold outK; split
 ·exact putV_len _ _ _
 ·have := delK_len xs key; omega
set_option maxRecDepth 100000 in
theorem specPutKey_c (a : Option Addr) (cap : Nat) (xs : List (ByteArray × ByteArray)) (key val : ByteArray) (w : World) (hlen : xs.length ≤ 2100000000000) (hr : Reads w a 2 encC xs) (_ho : ∀ x ∈ xs, x.1.size ≤ maxLen ∧ x.2.size ≤ maxLen) (hk : key.size ≤ maxLen) (hv : val.size ≤ maxLen) :
 Calls prog 64 #[.slice a xs.length cap, .string key, .string val] w (Fresh 99 2 ((putKeyS xs key val).flatMap encC) (putKeyS xs key val).length w) := by
 obtain ⟨i0, hinf, hzz⟩ := Option.map_eq_some_iff.1 infoCell;simp only [Prod.mk.injEq] at hzz;have HI := hid9 hinf;have HZ := hid9 hzz;have HR := hid9 hr;have HK := hid9 (fun W => specKeyOk_c key W hk);have HRN := hid9 (fun (W : World) => (show (W.alloc (.cells #[] 99)).ownsRow W.heap.size 99 2 (.slice (some ⟨W.heap.size, 0, none⟩) 0 0) 0 [] from ⟨rfl, .inr ⟨W.heap.size, 0, #[], rfl, Nat.le_refl _, heap_alloc_new W _, Nat.le_refl _, Nat.zero_le _, rfl, rfl⟩⟩));unfold maxLen at hv;clear hr hinf hzz;obtain ⟨TT, hTT⟩ : ∃ TT, TT = putKeyS xs key val := ⟨_, rfl⟩;have HT := hid9 hTT;rw [← hTT];clear hTT;by_cases hbad : keyOkB key = false ∨ 60 < val.size
 ·have HE := hid9 (HT.out.trans (putKey_bad hbad));have hfin : ∀ (v2 : Value) (w2 : World), w2.ownsRow w.heap.size 99 2 v2 xs.length (xs.flatMap encC) → (w.alloc (.cells #[] 99)).grownBy w2 (some w.heap.size) → Fresh 99 2 (TT.flatMap encC) TT.length w (.returned v2) w2 := fun v2 w2 o g => by
   rw [HE.out];exact ⟨v2, rfl, o, (show Below w.heap.size w (w.alloc (.cells #[] 99)) from bel9).trans (below_of_grown g (Nat.le_refl _) (by simp))⟩
  have HFIN := hid9 hfin;clear hfin;cases hq : keyOkB key with
  | false =>
   rw [hq] at HK;clear hbad hq;go_enter func64, ntmps64;go_wp2_with fail;refine (HK.out _).mono ?_;rintro e w1 ⟨rfl, rfl⟩;go_wp2_with (at_builtin; refine wpList_append_reads _ rfl _ _ 26 rfl w.heap.size 99 i0 (.agg #[.string ⟨#[]⟩, .string ⟨#[]⟩]) 2 32 underlying26 HI.out HZ.out.1 HZ.out.2.1 HZ.out.2.2 rfl (by decide) encC_len encC_one _ 0 [] rfl (HRN.out w) _ _ _ xs rfl rfl (HR.out.below bel9) (by unfold maxLen; omega) (by omega) (by simp) ?_);intro v2 w2 o2 g2 or2;have H2 := hid9 (HFIN.out v2 w2 (by first | exact o2 | simpa using o2) g2);clear o2 g2 or2;go_wp2;go_ret;exact H2.out
  | true =>
   have h60 : 60 < val.size := by
    rcases hbad with h | h; · rw [hq] at h; cases h
    ·exact h
   have p60 : (60 : Int) < (val.size : Int) := by omega
   rw [hq] at HK;clear hbad hq h60;go_enter func64, ntmps64;go_wp2_with fail;refine (HK.out _).mono ?_;rintro e w1 ⟨rfl, rfl⟩;go_wp2_with (at_builtin; refine wpList_append_reads _ rfl _ _ 26 rfl w.heap.size 99 i0 (.agg #[.string ⟨#[]⟩, .string ⟨#[]⟩]) 2 32 underlying26 HI.out HZ.out.1 HZ.out.2.1 HZ.out.2.2 rfl (by decide) encC_len encC_one _ 0 [] rfl (HRN.out w) _ _ _ xs rfl rfl (HR.out.below bel9) (by unfold maxLen; omega) (by omega) (by simp) ?_);intro v2 w2 o2 g2 or2;have H2 := hid9 (HFIN.out v2 w2 (by first | exact o2 | simpa using o2) g2);clear o2 g2 or2;go_wp2;go_ret;exact H2.out
 ·have hq : keyOkB key = true := by cases h : keyOkB key <;> simp_all
  have p60 : ¬ (60 : Int) < (val.size : Int) := by simp [hq] at hbad; omega
  have HE := hid9 (HT.out.trans (putKey_good hq (by omega)));rw [hq] at HK;obtain ⟨z, hz⟩ : ∃ z : Bool, (val.toList == []) = z := ⟨_, rfl⟩;have HZ0 := hid9 (show doneK (xs.take 0) key val = z from by
   rw [← hz]; unfold doneK;simp only [List.take_zero, List.any_nil, Bool.or_false];by_cases h : val.size = 0
   ·simp [h, empty_iff.2 h]
   ·have : val.toList ≠ [] := fun e => h (empty_iff.1 e);simp [h, this])
  have HO0 := hid9 (show outK (xs.take 0) key val z = [] from by
   have h0 := HZ0.out;unfold doneK at h0;simp only [List.take_zero, List.any_nil, Bool.or_false] at h0;unfold outK putV;cases z with
   | false => rfl
   | true => simp only [decide_eq_true_eq] at h0; simp [h0, delK])
  clear hbad hq;cases z
  all_goals
   go_enter func64, ntmps64;go_wp2_with fail;refine (HK.out _).mono ?_;rintro e w1 ⟨rfl, rfl⟩;go_wp2;go_loopw [7, 8, 9] (fun v d i wr => ∃ (k : Nat) (b : Bool), k ≤ xs.length ∧ i = .int .i64 k ∧ d = .bool b ∧ Hid (doneK (xs.take k) key val = b) ∧ Hid (wr.ownsRow w.heap.size 99 2 v (outK (xs.take k) key val b).length ((outK (xs.take k) key val b).flatMap encC)) ∧ Below w.heap.size w wr) (fun _ _ i _ => xs.length - (intOf i).toNat)
   case atStart => exact ⟨0, _, Nat.zero_le _, rfl, rfl, HZ0, by rw [HO0.out]; exact HRN.out w, bel9⟩
   case round =>
    obtain ⟨k, b, hk, rfl, rfl, HD, HW, hb⟩ := hrel;have hol := outK_len (xs.take k) key val b;have htl : (xs.take k).length ≤ k := List.length_take_le _ _;have HOL := hid9 (show (outK (xs.take k) key val b).length ≤ 2100000000001 by omega);clear hol htl;have hol := HOL.out;by_cases hlt : k < xs.length
    ·obtain ⟨y, hy⟩ := some_of_lt hlt;obtain ⟨bb, off, hab, c0, c1⟩ := readFC HR.out hb hy;have HY := hid9 hy;have p1 : (0 : Int) ≤ (k : Int) := by omega
     have p2 : (k : Int) < (xs.length : Int) := by omega
     obtain ⟨y0, y1⟩ := y;dsimp only at c0 c1;subst hab;clear hy;have HDN0 := hid9 (doneK_snoc (key := key) (val := val) HY.out);cases he : (y0.toList == key.toList) with
     | true =>
      have hdel : delP key (y0, y1) = true := he;have hne2 : (y0.toList != key.toList) = false := by rw [bne, he]; rfl
      have hlt0 : Op.bytesLess y0.toList key.toList = false := by rw [beq_iff_eq.1 he]; exact less_irr _
      have hgt : gtP key (y0, y1) = false := by unfold gtP ltB; rw [← beq_iff_eq.1 he]; exact less_irr _
      have HS := hid9 (outK_same (val := val) (d := b) HY.out hdel);have HDN := hid9 (HDN0.out.trans (show _ = b by rw [HD.out, hgt, Bool.or_false]));clear hdel hgt;cases b
      ·go_wp2;go_roundw
       case rel => exact ⟨k + 1, false, by omega, by go_num, rfl, HDN, by rw [HS.out]; exact HW, hb⟩
       case measure => simp [intOf]; omega
      ·go_wp2;go_roundw
       case rel => exact ⟨k + 1, true, by omega, by go_num, rfl, HDN, by rw [HS.out]; exact HW, hb⟩
       case measure => simp [intOf]; omega
     | false =>
      have hdel : delP key (y0, y1) = false := he;have hne2 : (y0.toList != key.toList) = true := by rw [bne, he]; rfl
      cases hl : Op.bytesLess y0.toList key.toList with
      | true =>
       have hgt : gtP key (y0, y1) = false := ltB_asym (show ltB y0 key = true from hl);have HDN := hid9 (HDN0.out.trans (show _ = b by rw [HD.out, hgt, Bool.or_false]));clear hgt;cases b
       ·have HS := hid9 (outK_off (val := val) HY.out hdel);clear hdel;go_wp2_with (at_builtin; refine wpList_append_own2 _ rfl _ _ 26 rfl w.heap.size 99 i0 (.agg #[.string ⟨#[]⟩, .string ⟨#[]⟩]) 2 32 underlying26 HI.out HZ.out.1 HZ.out.2.1 HZ.out.2.2 rfl (by decide) _ _ _ rfl (HW.out.alloc _) ⟨wr.heap.size, 0, none⟩ 1 1 (encC (y0, y1)) rfl rfl (box_news (Box.new _ (encC (y0, y1)) _)) (encC_one _) (by unfold maxLen; omega) (by omega) (by have := hb.size; simp; omega) ?_);intro v' w' o2 g2 or2;have h := OwnStep.fresh (w := w) (W := wr.alloc (.cells #[.string y0, .string y1] 99)) (e := .returned v') (w' := w') (bel9) (HW.out.alloc _) ⟨v', rfl, o2, g2, or2⟩;have HB2 : Below w.heap.size w w' := by obtain ⟨_, _, _, h⟩ := h; exact h
        have HB3 := hid9 HB2;have HW2 := hid9 (show w'.ownsRow w.heap.size 99 2 v' (outK (xs.take (k + 1)) key val false).length ((outK (xs.take (k + 1)) key val false).flatMap encC) from by rw [HS.out, List.length_append, List.flatMap_append]; exact o2);clear o2 g2 or2 h HB2 HW;go_wp2;go_roundw
        case rel => exact ⟨k + 1, false, by omega, by go_num, rfl, HDN, HW2, HB3.out⟩
        case measure => simp [intOf]; omega
       ·have HS := hid9 (outK_on HY.out hdel HD.out);clear hdel;go_wp2_with (at_builtin; refine wpList_append_own2 _ rfl _ _ 26 rfl w.heap.size 99 i0 (.agg #[.string ⟨#[]⟩, .string ⟨#[]⟩]) 2 32 underlying26 HI.out HZ.out.1 HZ.out.2.1 HZ.out.2.2 rfl (by decide) _ _ _ rfl (HW.out.alloc _) ⟨wr.heap.size, 0, none⟩ 1 1 (encC (y0, y1)) rfl rfl (box_news (Box.new _ (encC (y0, y1)) _)) (encC_one _) (by unfold maxLen; omega) (by omega) (by have := hb.size; simp; omega) ?_);intro v' w' o2 g2 or2;have h := OwnStep.fresh (w := w) (W := wr.alloc (.cells #[.string y0, .string y1] 99)) (e := .returned v') (w' := w') (bel9) (HW.out.alloc _) ⟨v', rfl, o2, g2, or2⟩;have HB2 : Below w.heap.size w w' := by obtain ⟨_, _, _, h⟩ := h; exact h
        have HB3 := hid9 HB2;have HW2 := hid9 (show w'.ownsRow w.heap.size 99 2 v' (outK (xs.take (k + 1)) key val true).length ((outK (xs.take (k + 1)) key val true).flatMap encC) from by rw [HS.out, List.length_append, List.flatMap_append]; exact o2);clear o2 g2 or2 h HB2 HW;go_wp2;go_roundw
        case rel => exact ⟨k + 1, true, by omega, by go_num, rfl, HDN, HW2, HB3.out⟩
        case measure => simp [intOf]; omega
      | false =>
       have hgt : gtP key (y0, y1) = true := by
        unfold gtP ltB;rw [← gt_is, hl, he]; rfl
       have HDN := hid9 (HDN0.out.trans (show _ = true by rw [hgt, Bool.or_true]));cases b
       ·have HS := hid9 (outK_new HY.out hgt HD.out);clear hdel hgt;go_wp2_with (at_builtin; refine wpList_append_own2 _ rfl _ _ 26 rfl w.heap.size 99 i0 (.agg #[.string ⟨#[]⟩, .string ⟨#[]⟩]) 2 32 underlying26 HI.out HZ.out.1 HZ.out.2.1 HZ.out.2.2 rfl (by decide) _ _ _ rfl (HW.out.alloc _) ⟨wr.heap.size, 0, none⟩ 1 1 (encC (key, val)) rfl rfl (box_news (Box.new _ (encC (key, val)) _)) (encC_one _) (by unfold maxLen; omega) (by omega) (by have := hb.size; simp; omega) ?_);intro v1 w1 o1 g1 or1;have h := OwnStep.fresh (w := w) (W := wr.alloc (.cells #[.string key, .string val] 99)) (e := .returned v1) (w' := w1) (bel9) (HW.out.alloc _) ⟨v1, rfl, o1, g1, or1⟩;have B1 : Below w.heap.size w w1 := by obtain ⟨_, _, _, h⟩ := h; exact h
        have HO1 := hid9 (show w1.ownsRow w.heap.size 99 2 v1 ((outK (xs.take k) key val false).length + 1) ((outK (xs.take k) key val false).flatMap encC ++ encC (key, val)) from o1);obtain ⟨_, _, e0, d0, d1⟩ := readFC HR.out B1 HY.out;cases e0;clear o1 g1 or1 h HW c0 c1;go_wp2_with (at_builtin; refine wpList_append_own2 _ rfl _ _ 26 rfl w.heap.size 99 i0 (.agg #[.string ⟨#[]⟩, .string ⟨#[]⟩]) 2 32 underlying26 HI.out HZ.out.1 HZ.out.2.1 HZ.out.2.2 rfl (by decide) _ _ _ rfl (HO1.out.alloc _) ⟨w1.heap.size, 0, none⟩ 1 1 (encC (y0, y1)) rfl rfl (box_news (Box.new _ (encC (y0, y1)) _)) (encC_one _) (by unfold maxLen; omega) (by omega) (by have := B1.size; simp; omega) ?_);intro v' w' o2 g2 or2;have h := OwnStep.fresh (w := w) (W := w1.alloc (.cells #[.string y0, .string y1] 99)) (e := .returned v') (w' := w') (bel9) (HO1.out.alloc _) ⟨v', rfl, o2, g2, or2⟩;have HB2 : Below w.heap.size w w' := by obtain ⟨_, _, _, h⟩ := h; exact h
        have HB3 := hid9 HB2;have HW2 := hid9 (show w'.ownsRow w.heap.size 99 2 v' (outK (xs.take (k + 1)) key val true).length ((outK (xs.take (k + 1)) key val true).flatMap encC) from by rw [HS.out, List.length_append, List.length_append, List.flatMap_append, List.flatMap_append]; exact (by simpa using o2));clear o2 g2 or2 h HB2 HO1;go_wp2;go_roundw
        case rel => exact ⟨k + 1, true, by omega, by go_num, rfl, HDN, HW2, HB3.out⟩
        case measure => simp [intOf]; omega
       ·have HS := hid9 (outK_on HY.out hdel HD.out);clear hdel hgt;go_wp2_with (at_builtin; refine wpList_append_own2 _ rfl _ _ 26 rfl w.heap.size 99 i0 (.agg #[.string ⟨#[]⟩, .string ⟨#[]⟩]) 2 32 underlying26 HI.out HZ.out.1 HZ.out.2.1 HZ.out.2.2 rfl (by decide) _ _ _ rfl (HW.out.alloc _) ⟨wr.heap.size, 0, none⟩ 1 1 (encC (y0, y1)) rfl rfl (box_news (Box.new _ (encC (y0, y1)) _)) (encC_one _) (by unfold maxLen; omega) (by omega) (by have := hb.size; simp; omega) ?_);intro v' w' o2 g2 or2;have h := OwnStep.fresh (w := w) (W := wr.alloc (.cells #[.string y0, .string y1] 99)) (e := .returned v') (w' := w') (bel9) (HW.out.alloc _) ⟨v', rfl, o2, g2, or2⟩;have HB2 : Below w.heap.size w w' := by obtain ⟨_, _, _, h⟩ := h; exact h
        have HB3 := hid9 HB2;have HW2 := hid9 (show w'.ownsRow w.heap.size 99 2 v' (outK (xs.take (k + 1)) key val true).length ((outK (xs.take (k + 1)) key val true).flatMap encC) from by rw [HS.out, List.length_append, List.flatMap_append]; exact o2);clear o2 g2 or2 h HB2 HW;go_wp2;go_roundw
        case rel => exact ⟨k + 1, true, by omega, by go_num, rfl, HDN, HW2, HB3.out⟩
        case measure => simp [intOf]; omega
    ·obtain rfl : k = xs.length := by omega
     have p2 : ¬ (xs.length : Int) < (xs.length : Int) := by omega
     rw [List.take_of_length_le (Nat.le_refl _)] at HD HW hol;cases b
     ·have HS := hid9 (HE.out.trans (outK_end HD.out));go_wp2_with (at_builtin; refine wpList_append_own2 _ rfl _ _ 26 rfl w.heap.size 99 i0 (.agg #[.string ⟨#[]⟩, .string ⟨#[]⟩]) 2 32 underlying26 HI.out HZ.out.1 HZ.out.2.1 HZ.out.2.2 rfl (by decide) _ _ _ rfl (HW.out.alloc _) ⟨wr.heap.size, 0, none⟩ 1 1 (encC (key, val)) rfl rfl (box_news (Box.new _ (encC (key, val)) _)) (encC_one _) (by unfold maxLen; omega) (by omega) (by have := hb.size; simp; omega) ?_);intro v1 w1 o1 g1 or1;have h := OwnStep.fresh (w := w) (W := wr.alloc (.cells #[.string key, .string val] 99)) (e := .returned v1) (w' := w1) bel9 (HW.out.alloc _) ⟨v1, rfl, o1, g1, or1⟩;have H2 := hid9 (show Fresh 99 2 (TT.flatMap encC) TT.length w (.returned v1) w1 from by rw [HS.out, List.length_append, List.flatMap_append]; exact (by simpa using h));clear o1 g1 or1 h;go_wp2;go_ret;exact H2.out
     ·have HS := hid9 (show TT = outK xs key val true from HE.out);go_wp2;go_ret;rw [HS.out];exact ⟨_, rfl, HW.out, hb⟩
end
section
open Go.ChangeShapes Go.WideShapes Go.ChangeAt Go.RowKit
structure Mch where
 st : List (ByteArray × ByteArray)
 rs : List ByteArray
 ws : List ByteArray
structure MAt (w : World) (p base : Nat) (v1 v2 v3 : Value) (m : Mch) : Prop where
 box : Box w p [v1, v2, v3]
 o1 : w.ownsRow base 99 2 v1 m.st.length (m.st.flatMap encC)
 o2 : w.ownsRow base 9 1 v2 m.rs.length (m.rs.flatMap encS)
 o3 : w.ownsRow base 9 1 v3 m.ws.length (m.ws.flatMap encS)
 n1 : v1.ownBlock ≠ some p
 n2 : v2.ownBlock ≠ some p
 n3 : v3.ownBlock ≠ some p
 d12 : ∀ k, v1.ownBlock = some k → v2.ownBlock ≠ some k
 d13 : ∀ k, v1.ownBlock = some k → v3.ownBlock ≠ some k
 d23 : ∀ k, v2.ownBlock = some k → v3.ownBlock ≠ some k
 hp : base ≤ p
 hb : base ≤ w.heap.size
structure Grow3 (w w' : World) (p : Nat) (v1 v2 v3 : Value) : Prop where
 os : w'.os = w.os
 tape : w'.tape = w.tape
 output : w'.output = w.output
 size : w.heap.size ≤ w'.heap.size
 block : ∀ k, k < w.heap.size → k ≠ p → v1.ownBlock ≠ some k → v2.ownBlock ≠ some k → v3.ownBlock ≠ some k → w'.heap[k]? = w.heap[k]?
theorem Grow3.of_below {w w' : World} {p : Nat} {v1 v2 v3 : Value} (hb : Below w.heap.size w w') : Grow3 w w' p v1 v2 v3 :=
 ⟨hb.os, hb.tape, hb.output, hb.size, fun k hk _ _ _ _ => hb.block k hk⟩
theorem OwnOr.ne {w : World} {v u : Value} (h : OwnOr w v u) {k : Nat} (hk : k < w.heap.size) (hv : v.ownBlock ≠ some k) : u.ownBlock ≠ some k := fun e => by
 rcases h with h | h
 ·exact hv (h ▸ e)
 ·have := h k e; omega
theorem OwnOr.trans {w W : World} {v u u' : Value} (h : OwnOr w v u) (h2 : OwnOr W u u') (hs : w.heap.size ≤ W.heap.size) : OwnOr w v u' := by
 rcases h2 with h2 | h2
 ·rcases h with h | h
  ·exact .inl (h2.trans h)
  ·exact .inr (fun k hk => h k (h2 ▸ hk))
 ·exact .inr (fun k hk => Nat.le_trans hs (h2 k hk))
theorem Grow3.trans {w W w' : World} {p : Nat} {v1 v2 v3 u1 u2 u3 : Value} (h : Grow3 w W p v1 v2 v3) (r1 : OwnOr w v1 u1) (r2 : OwnOr w v2 u2) (r3 : OwnOr w v3 u3) (h2 : Grow3 W w' p u1 u2 u3) : Grow3 w w' p v1 v2 v3 :=
 ⟨h2.os.trans h.os, h2.tape.trans h.tape, h2.output.trans h.output, Nat.le_trans h.size h2.size, fun k hk hne h1 h2' h3 =>
  (h2.block k (Nat.lt_of_lt_of_le hk h.size) hne (r1.ne hk h1) (r2.ne hk h2') (r3.ne hk h3)).trans (h.block k hk hne h1 h2' h3)⟩
theorem MAt.below {w w' : World} {p base : Nat} {v1 v2 v3 : Value} {m : Mch} (h : MAt w p base v1 v2 v3 m) (hb : Below w.heap.size w w') : MAt w' p base v1 v2 v3 m :=
 ⟨h.box.below hb, ownsRow_below h.o1 hb, ownsRow_below h.o2 hb, ownsRow_below h.o3 hb, h.n1, h.n2, h.n3, h.d12, h.d13, h.d23, h.hp, Nat.le_trans h.hb hb.size⟩
theorem box_put {w : World} {b : Nat} {xs : List Value} (h : Box w b xs) (i : Nat) (v : Value) : Box (w.setCell ⟨b, i, none⟩ v) b (xs.set i v) := by
 obtain ⟨h1, T, h2⟩ := h;refine ⟨by simpa [World.setCell] using h1, T, ?_⟩;have := heap_setCell_same w b i xs.toArray T v h2;simpa using this
theorem ne_or {v u : Value} (h : ∀ k, v.ownBlock = some k → u.ownBlock ≠ some k) : v.ownBlock = none ∨ v.ownBlock ≠ u.ownBlock := by
 cases hv : v.ownBlock with
 | none => exact .inl rfl
 | some k => exact .inr (fun e => h k hv e.symm)
def MStep (p base : Nat) (v1 v2 v3 : Value) (m' : Mch) (r : Value) (w : World) (e : Ending) (w' : World) : Prop :=
 ∃ u1 u2 u3, e = .returned r ∧ MAt w' p base u1 u2 u3 m' ∧ Grow3 w w' p v1 v2 v3 ∧ OwnOr w v1 u1 ∧ OwnOr w v2 u2 ∧ OwnOr w v3 u3
theorem MStep.next {p base : Nat} {v1 v2 v3 u1 u2 u3 : Value} {m' : Mch} {r : Value} {w W w' : World} {e : Ending} (h : Grow3 w W p v1 v2 v3) (r1 : OwnOr w v1 u1) (r2 : OwnOr w v2 u2) (r3 : OwnOr w v3 u3) (h2 : MStep p base u1 u2 u3 m' r W e w') : MStep p base v1 v2 v3 m' r w e w' := by
 obtain ⟨x1, x2, x3, h3, h4, h5, q1, q2, q3⟩ := h2;exact ⟨x1, x2, x3, h3, h4, h.trans r1 r2 r3 h5, r1.trans q1 h.size, r2.trans q2 h.size, r3.trans q3 h.size⟩
theorem MAt.step {w w' : World} {p base : Nat} {v1 v2 v3 : Value} {m : Mch} (h : MAt w p base v1 v2 v3 m) (hb : Below w.heap.size w w') (r : Value) : MStep p base v1 v2 v3 m r w (.returned r) w' :=
 ⟨v1, v2, v3, rfl, h.below hb, Grow3.of_below hb, .inl rfl, .inl rfl, .inl rfl⟩
theorem MAt.set1 {w W : World} {p base : Nat} {v1 v2 v3 u : Value} {m : Mch} {xs : List (ByteArray × ByteArray)} (h : MAt w p base v1 v2 v3 m) (ho : W.ownsRow base 99 2 u xs.length (xs.flatMap encC)) (hg : w.grownBy W v1.ownBlock) (hor : OwnOr w v1 u) :
 MAt (W.setCell ⟨p, 0, none⟩ u) p base u v2 v3 ⟨xs, m.rs, m.ws⟩ ∧ Grow3 w (W.setCell ⟨p, 0, none⟩ u) p v1 v2 v3 ∧ Box W p [v1, v2, v3] := by
 have gs : W.grownBy (W.setCell ⟨p, 0, none⟩ u) (some p) := grownBy_setCell W p 0 u;have bW : Box W p [v1, v2, v3] := ⟨Nat.lt_of_lt_of_le h.box.1 hg.size, h.box.2.elim fun T hT => ⟨T, (hg.block p h.box.1 (fun e => h.n1 e.symm)).trans hT⟩⟩;have nu : u.ownBlock ≠ some p := hor.ne h.box.1 h.n1;refine ⟨⟨box_put bW 0 u, ho.kept gs (.inr nu), (h.o2.kept hg (ne_or (fun k hk e => h.d12 k e hk))).kept gs (.inr h.n2), (h.o3.kept hg (ne_or (fun k hk e => h.d13 k e hk))).kept gs (.inr h.n3), nu, h.n2, h.n3, (fun k hk e => (hor.ne (h.o2.lt k e).2 ((fun k hk e => h.d12 k e hk) k e)) hk), (fun k hk e => (hor.ne (h.o3.lt k e).2 ((fun k hk e => h.d13 k e hk) k e)) hk), h.d23, h.hp, Nat.le_trans h.hb (Nat.le_trans hg.size gs.size)⟩, ⟨gs.os.trans hg.os, gs.tape.trans hg.tape, gs.output.trans hg.output, Nat.le_trans hg.size gs.size, fun k hk hne h1 h2 h3 => ?_⟩, bW⟩;exact (gs.block k (Nat.lt_of_lt_of_le hk hg.size) (fun e => by cases e; exact hne rfl)).trans (hg.block k hk (fun e => h1 e.symm))
theorem MAt.set2 {w W : World} {p base : Nat} {v1 v2 v3 u : Value} {m : Mch} {xs : List ByteArray} (h : MAt w p base v1 v2 v3 m) (ho : W.ownsRow base 9 1 u xs.length (xs.flatMap encS)) (hg : w.grownBy W v2.ownBlock) (hor : OwnOr w v2 u) :
 MAt (W.setCell ⟨p, 1, none⟩ u) p base v1 u v3 ⟨m.st, xs, m.ws⟩ ∧ Grow3 w (W.setCell ⟨p, 1, none⟩ u) p v1 v2 v3 ∧ Box W p [v1, v2, v3] := by
 have gs : W.grownBy (W.setCell ⟨p, 1, none⟩ u) (some p) := grownBy_setCell W p 1 u;have bW : Box W p [v1, v2, v3] := ⟨Nat.lt_of_lt_of_le h.box.1 hg.size, h.box.2.elim fun T hT => ⟨T, (hg.block p h.box.1 (fun e => h.n2 e.symm)).trans hT⟩⟩;have nu : u.ownBlock ≠ some p := hor.ne h.box.1 h.n2;refine ⟨⟨box_put bW 1 u, (h.o1.kept hg (ne_or h.d12)).kept gs (.inr h.n1), ho.kept gs (.inr nu), (h.o3.kept hg (ne_or (fun k hk e => h.d23 k e hk))).kept gs (.inr h.n3), h.n1, nu, h.n3, (fun k hk => hor.ne (h.o1.lt k hk).2 (h.d12 k hk)), h.d13, (fun k hk e => (hor.ne (h.o3.lt k e).2 ((fun k hk e => h.d23 k e hk) k e)) hk), h.hp, Nat.le_trans h.hb (Nat.le_trans hg.size gs.size)⟩, ⟨gs.os.trans hg.os, gs.tape.trans hg.tape, gs.output.trans hg.output, Nat.le_trans hg.size gs.size, fun k hk hne h1 h2 h3 => ?_⟩, bW⟩;exact (gs.block k (Nat.lt_of_lt_of_le hk hg.size) (fun e => by cases e; exact hne rfl)).trans (hg.block k hk (fun e => h2 e.symm))
theorem MAt.set3 {w W : World} {p base : Nat} {v1 v2 v3 u : Value} {m : Mch} {xs : List ByteArray} (h : MAt w p base v1 v2 v3 m) (ho : W.ownsRow base 9 1 u xs.length (xs.flatMap encS)) (hg : w.grownBy W v3.ownBlock) (hor : OwnOr w v3 u) :
 MAt (W.setCell ⟨p, 2, none⟩ u) p base v1 v2 u ⟨m.st, m.rs, xs⟩ ∧ Grow3 w (W.setCell ⟨p, 2, none⟩ u) p v1 v2 v3 ∧ Box W p [v1, v2, v3] := by
 have gs : W.grownBy (W.setCell ⟨p, 2, none⟩ u) (some p) := grownBy_setCell W p 2 u;have bW : Box W p [v1, v2, v3] := ⟨Nat.lt_of_lt_of_le h.box.1 hg.size, h.box.2.elim fun T hT => ⟨T, (hg.block p h.box.1 (fun e => h.n3 e.symm)).trans hT⟩⟩;have nu : u.ownBlock ≠ some p := hor.ne h.box.1 h.n3;refine ⟨⟨box_put bW 2 u, (h.o1.kept hg (ne_or h.d13)).kept gs (.inr h.n1), (h.o2.kept hg (ne_or h.d23)).kept gs (.inr h.n2), ho.kept gs (.inr nu), h.n1, h.n2, nu, h.d12, (fun k hk => hor.ne (h.o1.lt k hk).2 (h.d13 k hk)), (fun k hk => hor.ne (h.o2.lt k hk).2 (h.d23 k hk)), h.hp, Nat.le_trans h.hb (Nat.le_trans hg.size gs.size)⟩, ⟨gs.os.trans hg.os, gs.tape.trans hg.tape, gs.output.trans hg.output, Nat.le_trans hg.size gs.size, fun k hk hne h1 h2 h3 => ?_⟩, bW⟩;exact (gs.block k (Nat.lt_of_lt_of_le hk hg.size) (fun e => by cases e; exact hne rfl)).trans (hg.block k hk (fun e => h3 e.symm))
end
section
open Go.RowKit
attribute [local go_sem ↓] Go.wp_at_zero Go.wp_at_succ
def keyP (key : ByteArray) (c : ByteArray × ByteArray) : Bool := c.1.toList == key.toList
def getKeyS (xs : List (ByteArray × ByteArray)) (key : ByteArray) : ByteArray := match xs[xs.findIdx (keyP key)]? with | some c => c.2 | none => ByteArray.empty
theorem getKey_hit {xs : List (ByteArray × ByteArray)} {key : ByteArray} {k : Nat} {x : ByteArray × ByteArray} (h : noneUp (keyP key) xs k) (hx : xs[k]? = some x) (hp : keyP key x = true) : getKeyS xs key = x.2 := by
 unfold getKeyS; rw [find_hit h hx hp, hx]
theorem getKey_miss {xs : List (ByteArray × ByteArray)} {key : ByteArray} {k : Nat} (h : noneUp (keyP key) xs k) (hk : xs.length ≤ k) : getKeyS xs key = ByteArray.empty := by
 unfold getKeyS; rw [find_miss h hk]; simp
set_option maxRecDepth 100000 in
theorem specGetKey_c (a : Option Addr) (cap : Nat) (xs : List (ByteArray × ByteArray)) (key : ByteArray) (w : World) (hlen : xs.length ≤ maxLen) (hr : Reads w a 2 encC xs) :
 Calls prog 219 #[.slice a xs.length cap, .string key] w fun e w' => e = .returned (.string (getKeyS xs key)) ∧ Below w.heap.size w w' := by
 have HR := hid9 hr;clear hr;unfold maxLen at hlen;go_enter func219, ntmps219;go_wp2;go_loopw [5] (fun i wr => ∃ k : Nat, k ≤ xs.length ∧ i = .int .i64 k ∧ noneUp (keyP key) xs k ∧ Below w.heap.size w wr) (fun i _ => xs.length - (intOf i).toNat)
 case atStart => exact ⟨0, Nat.zero_le _, rfl, noneUp_zero _ _, bel8⟩
 case round =>
  obtain ⟨k, hk, rfl, hup, hb⟩ := hrel;by_cases hlt : k < xs.length
  ·obtain ⟨x, hx⟩ := some_of_lt hlt;obtain ⟨b, off, rfl, c0, c1⟩ := readFC HR.out hb hx;have p1 : (0 : Int) ≤ (k : Int) := by omega
   have p2 : (k : Int) < (xs.length : Int) := by omega
   have HX := hid9 hx;clear hx;cases hq : keyP key x with
   | true =>
    have q : (x.1.toList == key.toList) = true := hq;have HA := hid9 (getKey_hit hup HX.out hq);clear hq hup;go_wp2;go_ret;exact ⟨by rw [HA.out]; rfl, hb⟩
   | false =>
    have q : (x.1.toList == key.toList) = false := hq;have hs := noneUp_succ hup HX.out hq;clear hq;go_wp2;go_roundw
    case rel => exact ⟨k + 1, by omega, by go_num, hs, bel9⟩
    case measure => simp [intOf]; omega
  ·have HS := hid9 (getKey_miss hup (by omega));have p2 : ¬ (k : Int) < (xs.length : Int) := by omega
   go_wp2;go_ret;exact ⟨by rw [HS.out]; rfl, hb⟩
theorem cellAtFn_c (key : ByteArray) (B : Nat) (w W : World) (hB : w.cell? ⟨B, 0, none⟩ = some (.string key)) (x : ByteArray × ByteArray) (hb : Below w.heap.size w W) :
 Calls prog 251 #[.agg #[.string x.1, .string x.2], .pointer (some ⟨B, 0, none⟩)] W fun e w' => e = .returned (.bool (keyP key x)) ∧ Below W.heap.size W w' := by
 have hc : W.cell? ⟨B, 0, none⟩ = some (.string key) := keepS hb hB;have hBW : B < W.heap.size := World.block_lt_of_cell? W _ hc;have hne : B ≠ W.heap.size := by omega
 cases hq : keyP key x
 all_goals
  have q : (x.1.toList == key.toList) = _ := hq;go_enter func251, ntmps251;go_wp2;go_ret;exact ⟨by simp_all, bel9⟩
set_option maxRecDepth 100000 in
theorem cellAt_c (a : Option Addr) (cap : Nat) (xs : List (ByteArray × ByteArray)) (key : ByteArray) (w : World) (hlen : xs.length ≤ maxLen) (hr : Reads w a 2 encC xs) :
 Calls prog 237 #[.slice a xs.length cap, .string key] w fun e w' => e = .returned (.int .i64 (idxI xs.length (xs.findIdx (keyP key)))) ∧ Below w.heap.size w w' := by
 have K : ∀ W, Below w.heap.size w W → W.cell? ⟨w.heap.size, 0, none⟩ = some (.string key) → _ := fun W hW hc => indexFuncC_c a cap xs (keyP key) 251 #[.pointer (some ⟨w.heap.size, 0, none⟩)] (fun args w => enters_of func251 (by kernel_rfl) rfl args w) W
  (fun W' x _ hb => cellAtFn_c key w.heap.size W W' hc x hb) hlen (hr.below hW)
 have HK := hid9 K;clear K hr;generalize hgr : idxI xs.length (xs.findIdx (keyP key)) = r at *;go_enter func237, ntmps237;go_wp2_with fail;refine (HK.out _ bel9 (by simp)).mono ?_;rintro e w1 ⟨rfl, hb1⟩;go_wp2;go_ret;exact ⟨rfl, bel9⟩
theorem idx_nonneg (xs : List (ByteArray × ByteArray)) (key : ByteArray) : decide ((0 : Int) ≤ idxI xs.length (xs.findIdx (keyP key))) = xs.any (keyP key) := by
 rw [any_find];by_cases h : xs.findIdx (keyP key) < xs.length
 ·rw [idxI_lt h]; simp [h]
 ·rw [idxI_ge (by omega)]; simp [h]
set_option maxRecDepth 100000 in
theorem implGetKey_c (a : Option Addr) (cap : Nat) (xs : List (ByteArray × ByteArray)) (key : ByteArray) (w : World) (hlen : xs.length ≤ maxLen) (hr : Reads w a 2 encC xs) :
 Calls prog 209 #[.slice a xs.length cap, .string key] w fun e w' => e = .returned (.string (getKeyS xs key)) ∧ Below w.heap.size w w' := by
 have K := hid9 (cellAt_c a cap xs key w hlen hr);have HR := hid9 hr;clear hr;unfold maxLen at hlen;by_cases h : xs.findIdx (keyP key) < xs.length
 ·obtain ⟨x, hx⟩ := some_of_lt h;have HG : Hid (getKeyS xs key = x.2) := hid9 (by unfold getKeyS; rw [hx]);have HX := hid9 hx;have HI := hid9 (idxI_lt h);generalize xs.findIdx (keyP key) = k at *;have p1 : (0 : Int) ≤ (k : Int) := by omega
  have p2 : (k : Int) < (xs.length : Int) := by omega
  clear hx;go_enter func209, ntmps209;go_wp2_with fail;refine K.out.mono ?_;rintro e w1 ⟨rfl, hb1⟩;rw [HI.out];obtain ⟨b, off, rfl, c0, c1⟩ := readFC HR.out hb1 HX.out;go_wp2;go_ret;exact ⟨by rw [HG.out]; rfl, hb1⟩
 ·have HG : Hid (getKeyS xs key = ByteArray.empty) := hid9 (by unfold getKeyS; rw [List.getElem?_eq_none (by omega)]);have HI := hid9 (idxI_ge (Nat.not_lt.1 h));clear h;go_enter func209, ntmps209;go_wp2_with fail;refine K.out.mono ?_;rintro e w1 ⟨rfl, hb1⟩;rw [HI.out];go_wp2;go_ret;exact ⟨by rw [HG.out]; rfl, hb1⟩
def hexS (s : ByteArray) : ByteArray := ⟨(Lib.Hx.encode s.data.toList).toArray⟩
theorem hexS_size (s : ByteArray) : (hexS s).size = 2 * s.size := by
 show (Lib.Hx.encode s.data.toList).toArray.size = _;rw [List.size_toArray, Lib.Hx.encode_length]; simp
def hexOk (s : ByteArray) : Bool := decide (s.size ≤ 20000)
def hexV (s : ByteArray) : ByteArray := if s.size ≤ 20000 then hexS s else ByteArray.empty
theorem hex_yes {s : ByteArray} (h : s.size ≤ 20000) : hexOk s = true ∧ hexV s = hexS s := by simp [hexOk, hexV, h]
theorem hex_no {s : ByteArray} (h : 20000 < s.size) : hexOk s = false ∧ hexV s = ByteArray.empty := by
 simp [hexOk, hexV, Nat.not_le.2 h]
set_option maxRecDepth 100000 in
theorem implHex_c (s : ByteArray) (w : World) :
 Calls prog 207 #[.string s] w fun e w' => e = .returned (.tuple #[.string (hexV s), .bool (hexOk s)]) ∧ Below w.heap.size w w' := by
 by_cases h : s.size ≤ 20000
 ·have p : ¬ (20000 : Int) < (s.size : Int) := by omega
  have HV := hid9 (hex_yes h);obtain ⟨C, hC⟩ : ∃ C, C = grownCap w s.size 0 5 := ⟨_, rfl⟩;obtain ⟨W1, hW1⟩ : ∃ W1, W1 = w.drew.alloc (.cells (bytesRow s C) 5 ((bytesRow s C).size, (bytesRow s C).size + 1)) := ⟨_, rfl⟩;have hcv : (convert 9 22 (.string s)).run prog w = .ok (.slice (some ⟨w.heap.size, 0, none⟩) s.size C) W1 := by
   rw [hW1, hC];exact run_bytes_of_string w 9 22 5 s underlying9 underlying22 underlying5
  have HB := hid9 (show Below w.heap.size w W1 by rw [hW1]; exact ((Below.refl _ _).drew).alloc (Nat.le_refl _) _);have K := hid9 (Tryz.hex_EncodeToString_bytes w.heap.size 0 C s.data.toList W1 (fun i hi => by
   have hi' : i < s.data.size := by simpa using hi
   rw [hW1, Nat.zero_add];simp only [World.cell?, World.alloc, World.drew];have := bytesRow_at s C i hi';simp [this]) (by rw [hW1]; simp) (by simp; omega))
  have hln : s.data.toList.length = s.size := by simp
  rw [hln] at K;clear hC hW1 hln;go_enter func207, ntmps207;go_wp2_with fail;refine K.out.mono ?_;rintro e w2 ⟨rfl, hb2⟩;go_wp2;go_ret2;exact ⟨by rw [HV.out.1, HV.out.2]; rfl, HB.out.trans (hb2.mono HB.out.size)⟩
 ·have p : (20000 : Int) < (s.size : Int) := by omega
  have HV := hid9 (hex_no (Nat.not_le.1 h));clear h;go_enter func207, ntmps207;go_wp2;go_ret2;exact ⟨by rw [HV.out.1, HV.out.2]; rfl, bel9⟩
theorem digit_lo {d : Nat} (h : d < 10) : ((Lib.Hx.digit d).toNat : Int) = 48 + d := by
 match d, h with
 | 0, _ | 1, _ | 2, _ | 3, _ | 4, _ | 5, _ | 6, _ | 7, _ | 8, _ | 9, _ => rfl
theorem digit_hi {d : Nat} (h : 10 ≤ d) (h2 : d < 16) : ((Lib.Hx.digit d).toNat : Int) = 87 + d := by
 have : d = 10 ∨ d = 11 ∨ d = 12 ∨ d = 13 ∨ d = 14 ∨ d = 15 := by omega
 rcases this with rfl | rfl | rfl | rfl | rfl | rfl <;> rfl
theorem figure_c (d : Nat) (w : World) (h : d < 16) : Calls prog 218 #[.int .i64 (d : Int)] w fun e w' => e = .returned (.int .u8 ((Lib.Hx.digit d).toNat : Int)) ∧ w = w' := by
 have p0 : (0 : Int) ≤ (d : Int) := by omega
 have p1 : (d : Int) < 16 := by omega
 by_cases hl : d < 10
 ·have HD := hid9 (digit_lo hl);have pl : (d : Int) < 10 := by omega
  go_enter func218, ntmps218;go_wp2;go_ret;exact ⟨by rw [HD.out]; rfl, rfl⟩
 ·have HD := hid9 (digit_hi (Nat.not_lt.1 hl) h);have pl : ¬ (d : Int) < 10 := by omega
  clear hl;go_enter func218, ntmps218;go_wp2;go_ret;exact ⟨by rw [HD.out]; simp; omega, rfl⟩
theorem infoByte : (Tryz.prog.info? 5).map (fun i => (i.zero, i.size, i.bytes)) = some (some (.int .u8 0), 1, 1) := by kernel_rfl
def encB (b : UInt8) : List Value := [.int .u8 (b.toNat : Int)]
theorem encB_len (b : UInt8) : (encB b).length = 1 := rfl
theorem encode_snoc (l : List UInt8) (b : UInt8) : Lib.Hx.encode (l ++ [b]) = Lib.Hx.encode l ++ [Lib.Hx.digit (b.toNat / 16), Lib.Hx.digit (b.toNat % 16)] := by
 simp [Lib.Hx.encode, List.flatMap_append]
set_option maxRecDepth 100000 in
theorem specHex_c (s : ByteArray) (w : World) (hs : s.size ≤ maxLen) :
 Calls prog 185 #[.string s] w fun e w' => e = .returned (.tuple #[.string (hexV s), .bool (hexOk s)]) ∧ Below w.heap.size w w' := by
 unfold maxLen at hs;by_cases h : s.size ≤ 20000
 ·have p : ¬ (20000 : Int) < (s.size : Int) := by omega
  have HV := hid9 (hex_yes h);obtain ⟨i0, hi, hzz⟩ := Option.map_eq_some_iff.1 infoByte;simp only [Prod.mk.injEq] at hzz;have HI := hid9 hi;have HZ := hid9 hzz;clear hi hzz;go_enter func185, ntmps185;go_wp2;go_loopw [4, 5] (fun v i wr => ∃ k : Nat, k ≤ s.size ∧ i = .int .i64 k ∧ Hid (wr.ownsRow w.heap.size 5 1 v (2 * k) ((Lib.Hx.encode (s.data.toList.take k)).flatMap encB)) ∧ Below w.heap.size w wr) (fun _ i _ => s.size - (intOf i).toNat)
  case atStart => exact ⟨0, Nat.zero_le _, rfl, hid9 ⟨rfl, .inr ⟨w.heap.size, 0, #[], rfl, Nat.le_refl _, heap_alloc_new w _, Nat.le_refl _, Nat.zero_le _, rfl, rfl⟩⟩, bel9⟩
  case round =>
   obtain ⟨k, hk, rfl, HW, hb⟩ := hrel;by_cases hlt : k < s.size
   ·have p1 : (0 : Int) ≤ (k : Int) := by omega
    have p2 : (k : Int) < (s.size : Int) := by omega
    have hn : s[k].toNat < 256 := s[k].toNat_lt;have HS := hid9 (show Lib.Hx.encode (s.data.toList.take (k + 1)) = Lib.Hx.encode (s.data.toList.take k) ++ [Lib.Hx.digit (s[k].toNat / 16), Lib.Hx.digit (s[k].toNat % 16)] from by
     rw [List.take_succ_eq_append_getElem (by simpa using hlt), encode_snoc]; rfl)
    have hw0 : IntKind.i64.wrap (s[k].toNat : Int) = (s[k].toNat : Int) := by rw [IntKind.wrap_i64]; omega
    have HF1 := hid9 (show ∀ W, Calls prog 218 #[.int .i64 (IntKind.i64.wrap ((IntKind.i64.wrap (s[k].toNat : Int)).tdiv 16))] W fun e w' => e = .returned (.int .u8 ((Lib.Hx.digit (s[k].toNat / 16)).toNat : Int)) ∧ W = w' from fun W => by
     have e : IntKind.i64.wrap ((IntKind.i64.wrap (s[k].toNat : Int)).tdiv 16) = ((s[k].toNat / 16 : Nat) : Int) := by
      rw [hw0, Int.tdiv_eq_ediv_of_nonneg (by omega), IntKind.wrap_i64]; omega
     rw [e]; exact figure_c (s[k].toNat / 16) W (by omega))
    have HF2 := hid9 (show ∀ W, Calls prog 218 #[.int .i64 (((IntKind.i64.wrap (s[k].toNat : Int)).tmod 16))] W fun e w' => e = .returned (.int .u8 ((Lib.Hx.digit (s[k].toNat % 16)).toNat : Int)) ∧ W = w' from fun W => by
     have e : ((IntKind.i64.wrap (s[k].toNat : Int)).tmod 16) = ((s[k].toNat % 16 : Nat) : Int) := by
      rw [hw0, Int.tmod_eq_emod_of_nonneg (by omega)]; omega
     rw [e]; exact figure_c (s[k].toNat % 16) W (by omega))
    clear hw0;have q0 : (0 : Int) ≤ (s[k].toNat : Int) := by omega
    have q1 : (s[k].toNat : Int) ≤ 255 := by omega
    generalize Lib.Hx.digit (s[k].toNat / 16) = d1 at *;generalize Lib.Hx.digit (s[k].toNat % 16) = d2 at *;go_wp2_with fail;go_region_held3 (fun w' => True) (trivial) (first
     | (go_at_call 218; (with_reducible refine (HF1.out _).mono ?_); rintro e w1 ⟨rfl, rfl⟩)
     | (go_at_call 218; (with_reducible refine (HF2.out _).mono ?_); rintro e w1 ⟨rfl, rfl⟩)
     | (refine step_append_own2 _ (by rfl) _ _ _ (by rfl) w.heap.size 5 i0 _ 1 1 underlying22 HI.out HZ.out.1 HZ.out.2.1 HZ.out.2.2 rfl (by decide) _ _ _ (by rfl) (show World.ownsRow _ _ _ _ _ _ _ from HW.out.alloc _) ⟨wr.heap.size, 0, none⟩ 2 2 [.int .u8 (d1.toNat : Int), .int .u8 (d2.toNat : Int)] (by rfl) (by rfl) (box_news (Box.new _ _ _)) (by intro u hu; simp at hu; rcases hu with rfl | rfl <;> rfl) (by unfold maxLen; omega) (by omega) (by have := hb.size; simp; omega) ?_; intro v' w' o2 g2 or2))
    all_goals
     have h := OwnStep.fresh (w := w) (W := (wr.alloc (.cells #[.int .u8 (d1.toNat : Int), .int .u8 (d2.toNat : Int)] 5)).drew) (e := .returned v') (w' := w') (bel9) (show World.ownsRow _ _ _ _ _ _ _ from HW.out.alloc _) ⟨v', rfl, o2, g2, or2⟩;have B2 := hid9 (show Below w.heap.size w w' by obtain ⟨_, _, _, h⟩ := h; exact h);have HW2 := hid9 (show w'.ownsRow w.heap.size 5 1 v' (2 * (k + 1)) ((Lib.Hx.encode (s.data.toList.take (k + 1))).flatMap encB) from by
      rw [HS.out, List.flatMap_append]; exact o2)
     clear o2 g2 or2 h HW;go_wp2;go_roundw
     case rel => exact ⟨k + 1, by omega, by go_num, HW2, B2.out⟩
     case measure => simp [intOf]; omega
   ·obtain rfl : k = s.size := by omega
    have p2 : ¬ (s.size : Int) < (s.size : Int) := by omega
    rw [List.take_of_length_le (by simp)] at HW;have hl : (Lib.Hx.encode s.data.toList).length = 2 * s.size := by rw [Lib.Hx.encode_length]; simp
    obtain ⟨E, hE⟩ : ∃ E, E = Lib.Hx.encode s.data.toList := ⟨_, rfl⟩;rw [← hE] at HW hl;have hcv : (convert 22 9 u4).run prog wr = .ok (.string (hexS s)) wr := by
     have hx : hexS s = ⟨E.toArray⟩ := by rw [hE]; rfl
     rw [hx];rcases HW.out.2 with ⟨rfl, h0⟩ | ⟨g, cap, cur, rfl, _, hg, _⟩
     ·have : E = [] := List.eq_nil_of_length_eq_zero (by omega);subst this;rfl
     ·rw [← hl];refine run_convert_bytes_back wr _ _ 5 ⟨g, 0, none⟩ cap E underlying22 underlying5 underlying9 (fun j hj => ?_);have hx := getElem_flatMap encB_len E j 0 E[j] (List.getElem?_eq_getElem hj) (by decide);rw [Nat.mul_one, Nat.add_zero] at hx;exact HW.out.cells (g := g) rfl j _ hx
    clear hE hl HW;go_wp2;go_ret2;exact ⟨by rw [HV.out.1, HV.out.2]; rfl, hb⟩
 ·have p : (20000 : Int) < (s.size : Int) := by omega
  have HV := hid9 (hex_no (Nat.not_le.1 h));clear h;go_enter func185, ntmps185;go_wp2;go_ret2;exact ⟨by rw [HV.out.1, HV.out.2]; rfl, bel9⟩
set_option maxRecDepth 100000 in
theorem convB (wr : World) (base _T : Nat) (v : Value) (E : List UInt8) (n : Nat) (hn : n = E.length) (HW : wr.ownsRow base 5 1 v n (E.flatMap encB)) :
 (convert 22 9 v).run prog wr = .ok (.string ⟨E.toArray⟩) wr := by
 rcases HW.2 with ⟨rfl, h0⟩ | ⟨g, cap, cur, rfl, _, hg, _⟩
 ·have : E = [] := List.eq_nil_of_length_eq_zero (by omega);subst this;rfl
 ·subst hn;refine run_convert_bytes_back wr _ _ 5 ⟨g, 0, none⟩ cap E underlying22 underlying5 underlying9 (fun j hj => ?_);have hx := getElem_flatMap encB_len E j 0 E[j] (List.getElem?_eq_getElem hj) (by decide);rw [Nat.mul_one, Nat.add_zero] at hx;exact HW.cells (g := g) rfl j _ hx
end
section
open Go.RowKit
theorem below_of_own {w W w' : World} {T K n : Nat} {v : Value} {cells : List Value} (hb : Below w.heap.size w W) (ho : W.ownsRow w.heap.size T K v n cells) (hg : W.grownBy w' v.ownBlock) : Below w.heap.size w w' := by
 rcases ho.2 with ⟨rfl, _⟩ | ⟨g, cap, cur, rfl, hge, _⟩
 ·exact hb.trans ⟨hg.os, hg.tape, hg.output, hg.size, fun k hk => hg.block k (Nat.lt_of_lt_of_le hk hb.size) (by simp [Value.ownBlock])⟩
 ·exact hb.trans (below_of_grown hg hge hb.size)
theorem tab_below {P : Program} {w W : World} {name : String} {k : IntKind} {zs : List Int} (h : Lib.TabIs P w name k zs) (hb : Below w.heap.size w W) : Lib.TabIs P W name k zs := by
 unfold Lib.TabIs World.var? at *;cases hg : P.globalNamed name with
 | none => simp [hg] at h
 | some g =>
  simp only [hg, Option.bind_some] at h ⊢;have hlt : g < w.heap.size := by
   rcases Nat.lt_or_ge g w.heap.size with h' | h'
   ·exact h'
   ·simp [Array.getElem?_eq_none h'] at h
  rw [hb.block g hlt];exact h
end
section
open Go.RowKit
attribute [local go_sem ↓] Go.wp_at_zero Go.wp_at_succ
def decS (n : Int) : ByteArray := ⟨(Lib.itoa n).toArray⟩
theorem dec_len : ∀ (k u : Nat), 0 < k → u < 10 ^ k → (Lib.decDigits u).length ≤ k
 | 0, _, h, _ => absurd h (Nat.lt_irrefl _)
 | k + 1, u, _, h => by
  rw [Lib.decDigits];split
  ·simp
  ·rename_i hu;have hk : 0 < k := by
    rcases Nat.eq_zero_or_pos k with rfl | h'
    ·simp at h; omega
    ·exact h'
   have := dec_len k (u / 10) hk (by rw [Nat.pow_succ] at h; omega);simp; omega
theorem dec_one {u : Nat} (h : u < 10) : Lib.decDigits u = [UInt8.ofNat (48 + u)] := by rw [Lib.decDigits, dif_pos h]
theorem dec_more {u : Nat} (h : ¬ u < 10) : Lib.decDigits u = Lib.decDigits (u / 10) ++ [UInt8.ofNat (48 + u % 10)] := by rw [Lib.decDigits, dif_neg h]
def decHead (m : Nat) : List UInt8 := if m = 0 then [] else Lib.decDigits m
theorem decHead_step {m : Nat} (h : 0 < m) : decHead m = decHead (m / 10) ++ [UInt8.ofNat (48 + m % 10)] := by
 unfold decHead;rw [if_neg (by omega)];by_cases h1 : m < 10
 ·rw [dec_one h1, if_pos (by omega)];simp [Nat.mod_eq_of_lt h1]
 ·rw [dec_more h1, if_neg (by omega)]
theorem decS_size (n : Int) (h0 : -9223372036854775808 ≤ n) (h1 : n ≤ 9223372036854775807) : (decS n).size ≤ 20 := by
 show (Lib.itoa n).toArray.size ≤ 20;rw [List.size_toArray];unfold Lib.itoa;split
 ·have := dec_len 19 n.natAbs (by decide) (by omega);simp; omega
 ·have := dec_len 19 n.toNat (by decide) (by omega);omega
theorem figD_c (d : Nat) (w : World) (h : d < 10) : Calls prog 218 #[.int .i64 (d : Int)] w fun e w' => e = .returned (.int .u8 (48 + (d : Int))) ∧ w = w' := by
 have p0 : (0 : Int) ≤ (d : Int) := by omega
 have p1 : (d : Int) < 10 := by omega
 go_enter func218, ntmps218;go_wp2;go_ret;exact ⟨rfl, rfl⟩
theorem pow_bound {t m u : Nat} (h : m * 10 ^ t ≤ u) (hm : 0 < m) (hu : u < 10 ^ 19) : t ≤ 18 := by
 rcases Nat.lt_or_ge t 19 with h1 | h1
 ·omega
 ·have h2 : 10 ^ 19 ≤ 10 ^ t := Nat.pow_le_pow_right (by decide) h1;have h3 : 1 * 10 ^ t ≤ m * 10 ^ t := Nat.mul_le_mul_right _ hm;omega
theorem pow_step {t m u : Nat} (h : m * 10 ^ t ≤ u) : m / 10 * 10 ^ (t + 1) ≤ u := by
 rw [Nat.pow_succ];have : m / 10 * 10 ≤ m := Nat.div_mul_le_self m 10
 calc m / 10 * (10 ^ t * 10) = (m / 10 * 10) * 10 ^ t := by rw [Nat.mul_comm (10 ^ t) 10, Nat.mul_assoc]
  _ ≤ m * 10 ^ t := Nat.mul_le_mul_right _ this
  _ ≤ u := h
theorem conv1 (wr : World) (ch : UInt8) (x : Int) (hx : (ch.toNat : Int) = x) : (convert 22 9 (.slice (some ⟨wr.heap.size, 0, none⟩) 1 1)).run prog (wr.alloc (.cells #[.int .u8 x] 5)) = .ok (.string ⟨#[ch]⟩) (wr.alloc (.cells #[.int .u8 x] 5)) := by
 have := run_convert_bytes_back (P := prog) (wr.alloc (.cells #[.int .u8 x] 5)) 22 9 5 ⟨wr.heap.size, 0, none⟩ 1 [ch] underlying22 underlying5 underlying9 (by
  intro j hj;have hj1 : j < 1 := hj;obtain rfl : j = 0 := by omega
  show _ = some (Value.int .u8 (ch.toNat : Int));rw [hx, add_none];exact (Box.new wr [.int .u8 x] 5).cell 0 _ rfl)
 simpa using this
theorem ofNat_dig (d : Nat) (h : d < 10) : ((UInt8.ofNat (48 + d)).toNat : Int) = 48 + (d : Int) := by
 rw [UInt8.toNat_ofNat', Nat.mod_eq_of_lt (by omega)]; omega
theorem specDecimal_pos (u : Nat) (w : World) (h0 : 0 < u) (h1 : u ≤ 9223372036854775807) :
 Calls prog 199 #[.int .i64 (u : Int)] w fun e w' => e = .returned (.string (decS (u : Int))) ∧ Below w.heap.size w w' := by
 have pz : ((u : Int) == 0) = false := beq_eq_false_iff_ne.2 (by omega);have pz2 : ((u : Int) != 0) = true := by simp; omega
 have pn : ¬ (u : Int) < 0 := by omega
 have HF := hid9 (show decS (u : Int) = ⟨(decHead u).toArray⟩ by
  unfold decS decHead Lib.itoa;rw [if_neg (by omega), if_neg (by omega)]; simp)
 clear pz2;go_enter func199, ntmps199;go_wp2;go_loopw [0, 4] (fun i s wr => ∃ (m : Nat) (t : ByteArray), i = .int .i64 m ∧ s = .string t ∧ m ≤ u ∧ t.size ≤ 19 ∧ Hid (m * 10 ^ t.size ≤ u) ∧ Hid (decHead u = decHead m ++ t.data.toList) ∧ Below w.heap.size w wr) (fun i _ _ => (intOf i).toNat)
 case atStart => exact ⟨u, ByteArray.empty, rfl, rfl, Nat.le_refl _, by simp, hid9 (by simp), hid9 (by simp), bel9⟩
 case round =>
  obtain ⟨m, t, rfl, rfl, hm, ht, HP, HE, hb⟩ := hrel;by_cases hpos : 0 < m
  ·have q1 : ((m : Int) == 0) = false := beq_eq_false_iff_ne.2 (by omega);have q2 : ((m : Int) != 0) = true := by simp; omega
   have q0 : (0 : Int) ≤ (m : Int) := by omega
   have q3 : (m : Int) ≤ 9223372036854775807 := by omega
   have hd : m % 10 < 10 := Nat.mod_lt _ (by omega);have hd0 : (0 : Int) ≤ (m : Int) % 10 := by omega
   have hd1 : ¬ (m : Int) % 10 < 0 := by omega
   have ht18 := pow_bound HP.out hpos (by omega);have K := hid9 (show ∀ W, Calls prog 218 #[.int .i64 ((m : Int) % 10)] W fun e w' => e = .returned (.int .u8 (48 + (m : Int) % 10)) ∧ W = w' from fun W => by
    have := figD_c (m % 10) W hd
    rwa [show ((m % 10 : Nat) : Int) = (m : Int) % 10 by omega] at this)
   obtain ⟨ch, hch⟩ : ∃ ch, UInt8.ofNat (48 + m % 10) = ch := ⟨_, rfl⟩;have hcv := conv1 wr ch (48 + (m : Int) % 10) (by rw [← hch, ofNat_dig _ hd]; omega);have HS := hid9 (show decHead u = decHead (m / 10) ++ (⟨#[ch]⟩ ++ t : ByteArray).data.toList from by
    rw [HE.out, decHead_step hpos, hch, ByteArray.data_append, Array.toList_append, List.append_assoc])
   have HP2 := hid9 (pow_step HP.out);have hsz : ((⟨#[ch]⟩ ++ t : ByteArray).size : Nat) = t.size + 1 := by rw [ByteArray.size_append, Nat.add_comm]; rfl
   have HSZ := hid9 hsz;have q4 : (⟨#[ch]⟩ : ByteArray).size = 1 := rfl;clear hch hd hsz;go_wp2_with fail;refine (K.out _).mono ?_;rintro e w1 ⟨rfl, rfl⟩;go_wp2;go_roundw
   case rel => exact ⟨m / 10, ⟨#[ch]⟩ ++ t, by go_num, rfl, by omega, by rw [HSZ.out]; omega, by rw [HSZ.out]; exact HP2, HS, bel9⟩
   case measure => simp [intOf]; omega
  ·have hz : m = 0 := by omega
   subst hz;have HX := hid9 (show decS (u : Int) = t from by rw [HF.out, HE.out]; simp [decHead]);have q1 : (((0 : Nat) : Int) == 0) = true := rfl;go_wp2;go_ret;exact ⟨by rw [HX.out]; rfl, hb⟩
theorem specDecimal_neg (u : Nat) (w : World) (h0 : 0 < u) (h1 : u ≤ 9223372036854775808) :
 Calls prog 199 #[.int .i64 (-(u : Int))] w fun e w' => e = .returned (.string (decS (-(u : Int)))) ∧ Below w.heap.size w w' := by
 have pz : (-(u : Int) == 0) = false := beq_eq_false_iff_ne.2 (by omega);have HF := hid9 (show decS (-(u : Int)) = ⟨#[45]⟩ ++ ⟨(decHead u).toArray⟩ by
  unfold decS decHead Lib.itoa;rw [if_pos (by omega), if_neg (by omega), show (-(u : Int)).natAbs = u by omega];apply ByteArray.ext;rw [ByteArray.data_append];simp)
 obtain ⟨n, hn⟩ : ∃ n : Int, -(u : Int) = n := ⟨_, rfl⟩;have HN := hid9 hn;have pn : n < 0 := by omega
 rw [hn] at pz HF ⊢;clear hn;go_enter func199, ntmps199;go_wp2;go_loopw [0, 4] (fun i s wr => ∃ (m : Nat) (x : Int) (t : ByteArray), i = .int .i64 x ∧ x = -(m : Int) ∧ s = .string t ∧ m ≤ u ∧ t.size ≤ 19 ∧ Hid (m * 10 ^ t.size ≤ u) ∧ Hid (decHead u = decHead m ++ t.data.toList) ∧ Below w.heap.size w wr) (fun i _ _ => (-(intOf i)).toNat)
 case atStart => exact ⟨u, n, ByteArray.empty, rfl, HN.out.symm, rfl, Nat.le_refl _, by simp, hid9 (by simp), hid9 (by simp), bel9⟩
 case round =>
  obtain ⟨m, x, t, rfl, hx, rfl, hm, ht, HP, HE, hb⟩ := hrel;by_cases hpos : 0 < m
  ·have q1 : (x == 0) = false := beq_eq_false_iff_ne.2 (by omega);have q2 : (x != 0) = true := by simp; omega
   have hd : m % 10 < 10 := Nat.mod_lt _ (by omega);obtain ⟨y, hy⟩ : ∃ y : Int, x.tmod 10 = y := ⟨_, rfl⟩;obtain ⟨z, hz⟩ : ∃ z : Int, x.tdiv 10 = z := ⟨_, rfl⟩;have hyd : y = -((m % 10 : Nat) : Int) := by rw [← hy, hx, Int.neg_tmod, Int.tmod_eq_emod_of_nonneg (by omega)]; omega
   have hzd : z = -((m / 10 : Nat) : Int) := by rw [← hz, hx, Int.neg_tdiv, Int.tdiv_eq_ediv_of_nonneg (by omega)]; omega
   have hzw : IntKind.i64.wrap z = z := by rw [IntKind.wrap_i64]; omega
   have HX := hid9 hx;have HZ := hid9 hzd;have ht18 := pow_bound HP.out hpos (by omega);obtain ⟨d, hdd⟩ : ∃ d : Nat, m % 10 = d := ⟨_, rfl⟩;rw [hdd] at hd hyd;have K := hid9 (fun W => figD_c d W hd);obtain ⟨ch, hch⟩ : ∃ ch, UInt8.ofNat (48 + d) = ch := ⟨_, rfl⟩;have hcv := conv1 wr ch (48 + (d : Int)) (by rw [← hch, ofNat_dig _ hd]);have HCH := hid9 hch;have HS := hid9 (show decHead u = decHead (m / 10) ++ (⟨#[ch]⟩ ++ t : ByteArray).data.toList from by
    rw [HE.out, decHead_step hpos, hdd, hch, ByteArray.data_append, Array.toList_append, List.append_assoc])
   have HP2 := hid9 (pow_step HP.out);have hsz : ((⟨#[ch]⟩ ++ t : ByteArray).size : Nat) = t.size + 1 := by rw [ByteArray.size_append, Nat.add_comm]; rfl
   have HSZ := hid9 hsz;have q4 : (⟨#[ch]⟩ : ByteArray).size = 1 := rfl;have hmd : m / 10 ≤ u := by omega
   have hml : m / 10 < m := by omega
   clear hch hsz hdd hzd hm;have pd0 : (0 : Int) ≤ (d : Int) := by omega
   have pd1 : (d : Int) ≤ 9 := by omega
   by_cases hd0 : d = 0
   ·subst hd0;have hy0 : y = 0 := by omega
    subst hy0;have K0 := hid9 (show ∀ W, Calls prog 218 #[.int .i64 0] W fun e w' => e = .returned (.int .u8 48) ∧ W = w' from fun W => by simpa using figD_c 0 W (by omega));have hcv0 := conv1 wr ch 48 (by rw [← HCH.out]; exact ofNat_dig 0 (by omega));clear hyd hx K hcv;go_wp2_with fail;refine (K0.out _).mono ?_;rintro e w1 ⟨rfl, rfl⟩;go_wp2;go_roundw
    case rel => exact ⟨m / 10, z, ⟨#[ch]⟩ ++ t, rfl, HZ.out, rfl, hmd, by rw [HSZ.out]; omega, by rw [HSZ.out]; exact HP2, HS, bel9⟩
    case measure => simp [intOf]; have := HX.out; have := HZ.out; omega
   ·have hyn : y < 0 := by omega
    have hyneg : -y = (d : Int) := by omega
    have hyw : IntKind.i64.wrap (-y) = (d : Int) := by rw [IntKind.wrap_i64]; omega
    clear hyd hx hd0;go_wp2_with fail;refine (K.out _).mono ?_;rintro e w1 ⟨rfl, rfl⟩;go_wp2;go_roundw
    case rel => exact ⟨m / 10, z, ⟨#[ch]⟩ ++ t, rfl, HZ.out, rfl, hmd, by rw [HSZ.out]; omega, by rw [HSZ.out]; exact HP2, HS, bel9⟩
    case measure => simp [intOf]; have := HX.out; have := HZ.out; omega
  ·have hz : m = 0 := by omega
   subst hz;have hx0 : x = 0 := by omega
   subst hx0;have hth : t.size ≤ 20 := by omega
   have HXX := hid9 (show decS n = ⟨#[45]⟩ ++ t from by rw [HF.out, HE.out]; simp [decHead]);have q4 : (⟨#[45]⟩ : ByteArray).size = 1 := rfl;clear hx;go_wp2;go_ret;exact ⟨by rw [HXX.out]; rfl, hb⟩
theorem specDecimal_c (n : Int) (w : World) (h0 : -9223372036854775808 ≤ n) (h1 : n ≤ 9223372036854775807) :
 Calls prog 199 #[.int .i64 n] w fun e w' => e = .returned (.string (decS n)) ∧ Below w.heap.size w w' := by
 rcases Int.lt_trichotomy n 0 with h | h | h
 ·obtain ⟨u, rfl⟩ : ∃ u : Nat, n = -(u : Int) := ⟨n.natAbs, by omega⟩;exact specDecimal_neg u w (by omega) (by omega)
 ·subst h;have HX := hid9 (show decS 0 = ⟨#[48]⟩ from by unfold decS Lib.itoa; rw [if_neg (by omega)]; rw [show (0 : Int).toNat = 0 from rfl, dec_one (by omega)]; rfl);go_enter func199, ntmps199;go_wp2;go_ret;exact ⟨by rw [HX.out]; rfl, Below.refl _ _⟩
 ·obtain ⟨u, rfl⟩ : ∃ u : Nat, n = (u : Int) := ⟨n.toNat, by omega⟩;exact specDecimal_pos u w (by omega) (by omega)
def DecTab (w : World) : Prop := Lib.TabIs prog w "internal/strconv.uint64pow10" .u64 Lib.pow10Tab
theorem DecTab.below {w W : World} (h : DecTab w) (hb : Below w.heap.size w W) : DecTab W := tab_below h hb
theorem below_growN (w : World) (k : Nat) (os : Array Obj) : Below w.heap.size w (Sort.grow (w.drewN k) os) := by
 refine Below.trans (below_drewN (Below.refl _ _) k) ?_;refine ⟨rfl, rfl, rfl, ?_, fun b hb => ?_⟩
 ·simp [Sort.grow]
 ·have hb' : b < (w.drewN k).heap.size := Nat.lt_of_lt_of_le hb (below_drewN (Below.refl w.heap.size w) k).size;show ((w.drewN k).heap ++ os)[b]? = _;rw [Array.getElem?_append_left hb']
theorem implDecimal_c (n : Int) (w : World) (h0 : -9223372036854775808 ≤ n) (h1 : n ≤ 9223372036854775807) (ht : DecTab w) :
 Calls prog 112 #[.int .i64 n] w fun e w' => e = .returned (.string (decS n)) ∧ Below w.heap.size w w' := by
 have K := hid9 (Tryz.strconv_Itoa n h0 h1 w ht);clear ht;go_enter func112, ntmps112;go_wp2_with fail;refine K.out.mono ?_;rintro e w1 ⟨rfl, k, os, hw⟩;have HB := hid9 (show Below w.heap.size w w1 by rw [hw]; exact below_growN w k os);clear hw;go_wp2;go_ret;exact ⟨rfl, HB.out⟩
def keyNumS (h : ByteArray) (n : Int) (t : ByteArray) : ByteArray := h ++ decS n ++ t
theorem keyNumS_size (h : ByteArray) (n : Int) (t : ByteArray) (h0 : -9223372036854775808 ≤ n) (h1 : n ≤ 9223372036854775807) : (keyNumS h n t).size ≤ h.size + 20 + t.size := by
 unfold keyNumS;rw [ByteArray.size_append, ByteArray.size_append];have := decS_size n h0 h1;omega
theorem implKeyNum_c (h : ByteArray) (n : Int) (t : ByteArray) (w : World) (h0 : -9223372036854775808 ≤ n) (h1 : n ≤ 9223372036854775807) (hh : h.size ≤ 4611686018427387904) (htl : t.size ≤ 4611686018427387000) (ht : DecTab w) :
 Calls prog 159 #[.string h, .int .i64 n, .string t] w fun e w' => e = .returned (.string (keyNumS h n t)) ∧ Below w.heap.size w w' := by
 have K := hid9 (implDecimal_c n w h0 h1 ht);have hs := decS_size n h0 h1;have HX := hid9 (show keyNumS h n t = h ++ decS n ++ t from rfl);generalize decS n = d at *;have hz : (h ++ d).size = h.size + d.size := ByteArray.size_append;clear ht;go_enter func159, ntmps159;go_wp2_with fail;refine K.out.mono ?_;rintro e w1 ⟨rfl, hb1⟩;go_wp2;go_ret;exact ⟨by rw [HX.out]; rfl, hb1⟩
theorem specKeyNum_c (h : ByteArray) (n : Int) (t : ByteArray) (w : World) (h0 : -9223372036854775808 ≤ n) (h1 : n ≤ 9223372036854775807) (hh : h.size ≤ 4611686018427387904) (htl : t.size ≤ 4611686018427387000) :
 Calls prog 176 #[.string h, .int .i64 n, .string t] w fun e w' => e = .returned (.string (keyNumS h n t)) ∧ Below w.heap.size w w' := by
 have K := hid9 (specDecimal_c n w h0 h1);have hs := decS_size n h0 h1;have HX := hid9 (show keyNumS h n t = h ++ decS n ++ t from rfl);generalize decS n = d at *;have hz : (h ++ d).size = h.size + d.size := ByteArray.size_append;go_enter func176, ntmps176;go_wp2_with fail;refine K.out.mono ?_;rintro e w1 ⟨rfl, hb1⟩;go_wp2;go_ret;exact ⟨by rw [HX.out]; rfl, hb1⟩
end
end Go.Proofs.YtihghflppegnmaaGreatDoor
