/- Contract: the library's slices.Insert of one element at texts: onto an own row, in place or in a new row. Conditions: at most 2^21 elements, the element lies in a block of its own. -/
import Derived.Test.YtjlmoghifkgehaaDoorRun
import Derived.Test.YtjlmoghifkgehaaDoorFind
import Derived.Test.YtjlmoghifkgehaaDoorSliceString
import Derived.Deep.RegionLaw
namespace Go.Proofs.YtjlmoghifkgehaaDoor
open Go.RowKit
attribute [local go_sem ↓] Go.wp_at_zero Go.wp_at_succ
set_option maxRecDepth 100000 in
theorem overlapsS_no (w : World) (vb b ob lb cb : Nat) (x : ByteArray) (cur : Array Value) (t : TypeId) (hx : Box w vb (encS x)) (hb : w.heap[b]? = some (.cells cur t (0, 0))) (h0 : cur.size ≠ 0) (hne : vb ≠ b) :
    (callFunc 60 #[.slice (some ⟨vb, 0, none⟩) 1 1, .slice (some ⟨b, ob, none⟩) lb cb]).run Tryd.prog w = .ok (.value (.bool false)) w := by
  obtain ⟨hlt, TT, hT⟩ := hx
  rw [run_callFunc_extern Tryd.func60 (by kernel_rfl) (by kernel_rfl) (by kernel_rfl) (e := Extern.SlicesOverlaps.overlaps #[27, 27] #[4]) (by kernel_rfl),
    Lib.run_overlaps_apart w 27 4 9 Tryd.underlying27 1 (fun w => by rfl) ⟨vb, 0, none⟩ ⟨b, ob, none⟩ 1 1 lb cb hne TT t 1 cur.size (by simp [World.shape?, hT, encS]) (by simp [World.shape?, hb]) h0 (by simp [World.frozen?, hT]) (by simp [World.frozen?, hT])]
  rfl

set_option maxRecDepth 100000 in
set_option maxHeartbeats 4000000 in
theorem insertS_c (v : Value) (base i : Nat) (xs : List ByteArray) (x : ByteArray) (vb : Nat) (w : World) (hlen : xs.length ≤ 4194304) (ho : w.ownsRow base 9 1 v xs.length (xs.flatMap encS)) (hi : i ≤ xs.length)
    (hx : Box w vb (encS x)) (hne : ∀ k, v.ownBlock = some k → k ≠ vb) (hbase : base ≤ w.heap.size) :
    Calls Tryd.prog 49 #[v, .int .i64 i, .slice (some ⟨vb, 0, none⟩) 1 1] w (OwnStep 9 1 base v (xs.length + 1) ((xs.take i ++ x :: xs.drop i).flatMap encS) w) := by
  obtain ⟨i0, hinf, hzz⟩ := Option.map_eq_some_iff.1 infoString
  simp only [Prod.mk.injEq] at hzz
  have HI := Lib.hid hinf
  have HZ := Lib.hid hzz
  have hsz : (Tryd.prog.info? 9).map (·.size) = some 1 := by rw [hinf]; simp [hzz.2.1]
  clear hinf hzz
  have HXN := Lib.hid (show ∀ (W : World), Below w.heap.size w W → ∀ j u, (encS x)[j]? = some u → W.cell? ((⟨vb, 0, none⟩ : Addr).add j) = some u from fun W hW j u hu => by
    rw [add_none, Nat.zero_add]; exact (hx.below hW).cell j u hu)
  have HX1 := Lib.hid (show ∀ u ∈ encS x, u.oneCell' = true from fun u hu => by simp [encS] at hu; first | (subst hu; rfl) | (rcases hu with rfl | rfl <;> rfl))
  have HC1 := Lib.hid (show ∀ u ∈ xs.flatMap encS, u.oneCell' = true from fun u hu => by
    obtain ⟨y, _, hy⟩ := List.mem_flatMap.1 hu
    simp [encS] at hy; first | (subst hy; rfl) | (rcases hy with rfl | rfl <;> rfl))
  have HFL := Lib.hid (length_flatMap_const encS_len xs)
  have HXL := Lib.hid (show (encS x).length = 1 * 1 from rfl)
  have HTgt := Lib.hid (show (xs.take i ++ x :: xs.drop i).flatMap encS = (xs.flatMap encS).take (i * 1) ++ encS x ++ (xs.flatMap encS).drop (i * 1) by
    have e1 : (xs.flatMap encS).take (i * 1) = (xs.take i).flatMap encS := by
      conv => lhs; rw [← List.take_append_drop i xs, List.flatMap_append]
      rw [List.take_append_of_le_length (by rw [length_flatMap_const encS_len, List.length_take]; exact Nat.le_of_eq (by rw [Nat.min_eq_left hi]))]
      rw [List.take_of_length_le (by rw [length_flatMap_const encS_len, List.length_take]; exact Nat.le_of_eq (by rw [Nat.min_eq_left hi]))]
    have e2 : (xs.flatMap encS).drop (i * 1) = (xs.drop i).flatMap encS := by
      conv => lhs; rw [← List.take_append_drop i xs, List.flatMap_append]
      rw [List.drop_append_of_le_length (by rw [length_flatMap_const encS_len, List.length_take]; exact Nat.le_of_eq (by rw [Nat.min_eq_left hi]))]
      rw [List.drop_of_length_le (by rw [length_flatMap_const encS_len, List.length_take]; exact Nat.le_of_eq (by rw [Nat.min_eq_left hi])), List.nil_append]
    rw [e1, e2]; simp [List.flatMap_append, List.append_assoc])
  have HEnd := Lib.hid (show i = xs.length → (xs.take i ++ x :: xs.drop i).flatMap encS = xs.flatMap encS ++ encS x from fun e => by subst e; simp [List.flatMap_append])
  obtain ⟨TT, hTT⟩ : ∃ TT, TT = (xs.take i ++ x :: xs.drop i).flatMap encS := ⟨_, rfl⟩
  rw [← hTT] at HTgt HEnd ⊢
  clear hTT
  rcases ho.2 with ⟨hv, h0⟩ | ⟨g, cap, cur, hv, hbg, hg, hnc, hcm, hcs, htk⟩
  · subst hv
    have hi0 : i = xs.length := by omega
    have HO := Lib.hid ho
    have HE := Lib.hid (HEnd.out hi0)
    rw [h0] at hi0
    have HIz := Lib.hid hi0
    have HL0 := Lib.hid h0
    clear ho HEnd HTgt hi
    rw [hi0]
    clear hi0 h0
    go_enter Tryd.func49, Tryd.ntmps49
    go_wp2_with (at_builtin; refine wpList_append_own2 _ rfl _ _ 27 rfl base 9 i0 (.string ⟨#[]⟩) 1 16 Tryd.underlying27 HI.out HZ.out.1 HZ.out.2.1 HZ.out.2.2 rfl (by decide) _ _ _ rfl HO.out ⟨vb, 0, none⟩ 1 1 (encS x) rfl HXL.out (HXN.out _ (Below.refl _ _)) HX1.out ?d1 ?d2 ?d3 ?_)
    case d1 => unfold maxLen; omega
    case d2 => omega
    case d3 => omega
    intro v' w' hown hgrow hor
    have H2 := Lib.hid (show OwnStep 9 1 base (.slice none 0 0) (xs.length + 1) TT w (.returned v') w' from ⟨v', rfl, by rw [HE.out]; exact hown, hgrow, hor⟩)
    clear hown hgrow hor
    go_wp2
    go_ret
    exact H2.out
  · subst hv
    have hgv : g ≠ vb := hne g rfl
    have hc63 : cap ≤ 9223372036854775807 := by unfold maxLen at hcm; exact hcm
    have HO := Lib.hid ho
    have HG := Lib.hid hg
    have HB := Lib.hid hx
    have HCS := Lib.hid hcs
    have HTK := Lib.hid htk
    rcases Nat.lt_or_ge i xs.length with hin | hge
    · by_cases hroom : xs.length + 1 ≤ cap
      · -- in place
        have hov : ∀ lb cb, (callFunc 60 #[.slice (some ⟨vb, 0, none⟩) 1 1, .slice (some ⟨g, i + 1, none⟩) lb cb]).run Tryd.prog w = .ok (.value (.bool false)) w := fun lb cb =>
          overlapsS_no w vb g (i + 1) lb cb x cur _ HB.out HG.out (by rw [HCS.out]; omega) (Ne.symm hgv)
        have HL := Lib.hid (show cur.toList.length = cap * 1 by simpa using hcs)
        obtain ⟨X1, hX1⟩ : ∃ X1, X1 = (xs.flatMap encS).drop (i * 1) := ⟨_, rfl⟩
        have hX1l : X1.length = (xs.length - i) * 1 := by rw [hX1, List.length_drop, HFL.out]; omega
        have HXX := Lib.hid hX1
        have hcell : ∀ j u, X1[j]? = some u → w.drew.cell? ((⟨g, i, none⟩ : Addr).add j) = some u := fun j u hu => by
          rw [HXX.out, List.getElem?_drop] at hu
          have := HO.out.cells (g := g) rfl _ u hu
          rw [add_none] at this ⊢
          rw [show i + j = 0 + (i * 1 + j) by omega]
          exact this
        have hX1o : ∀ u ∈ X1, u.oneCell' = true := fun u hu => HC1.out u (by rw [HXX.out] at hu; exact List.mem_of_mem_drop hu)
        obtain ⟨L2, hL2⟩ : ∃ L2, L2 = (cur.toList.take (i + 1) ++ X1 ++ cur.toList.drop (i + 1 + X1.length)).toArray := ⟨_, rfl⟩
        obtain ⟨W2, hW2⟩ : ∃ W2, W2 = w.drew.setRow g L2 := ⟨_, rfl⟩
        have hcp1 : ∀ ty dc sc, (Builtin.copy_ #[27, 27] ty #[.slice (some ⟨g, i + 1, none⟩) (xs.length - i) dc, .slice (some ⟨g, i, none⟩) (xs.length + 1 - i) sc]).run Tryd.prog w.drew = .ok (goInt (xs.length - i : Nat)) W2 := fun ty dc sc => by
          rw [hW2, hL2]
          exact run_copyK w.drew _ _ ty 9 g (i + 1) _ dc _ _ sc 1 (xs.length - i) cur 9 X1 Tryd.underlying27 hsz HG.out (by simp only [Nat.min_def]; split <;> omega) hX1l hcell (by rw [hX1l, HCS.out]; omega) hX1o
        have hG2 : W2.heap[g]? = some (.cells L2 9 (0, 0)) := by rw [hW2]; exact setRow_heap w.drew g cur L2 _ _ HG.out
        have hgb2 : w.grownBy W2 (some g) := by rw [hW2]; exact grownBy_trans (grownBy_drew w (some g)) (grownBy_setRow w.drew g L2)
        have hvb2 : W2.heap[vb]? = w.heap[vb]? := hgb2.block vb HB.out.1 (fun e => hgv (by cases e; rfl))
        have hxc2 : ∀ j u, (encS x)[j]? = some u → W2.cell? ((⟨vb, 0, none⟩ : Addr).add j) = some u := fun j u hu => by
          rw [add_none, Nat.zero_add]
          obtain ⟨hlt, TT, hT⟩ := HB.out
          exact Box.cell (w := W2) ⟨by rw [hW2]; simpa [World.setRow] using hlt, TT, by rw [hvb2]; exact hT⟩ j u hu
        have hL2s : L2.size = cap * 1 := by rw [hL2]; simp [hX1l]; omega
        obtain ⟨L3, hL3⟩ : ∃ L3, L3 = (L2.toList.take (i) ++ encS x ++ L2.toList.drop (i + (encS x).length)).toArray := ⟨_, rfl⟩
        obtain ⟨W3, hW3⟩ : ∃ W3, W3 = W2.setRow g L3 := ⟨_, rfl⟩
        have hcp2 : ∀ ty dc, (Builtin.copy_ #[27, 27] ty #[.slice (some ⟨g, i, none⟩) (xs.length + 1 - i) dc, .slice (some ⟨vb, 0, none⟩) 1 1]).run Tryd.prog W2 = .ok (goInt (1 : Nat)) W3 := fun ty dc => by
          rw [hW3, hL3]
          exact run_copyK W2 _ _ ty 9 g (i) _ dc _ _ 1 1 1 L2 9 (encS x) Tryd.underlying27 hsz hG2 (by simp only [Nat.min_def]; split <;> omega) HXL.out hxc2 (by rw [HXL.out, hL2s]; omega) HX1.out
        have HEND := Lib.hid (show OwnStep 9 1 base (.slice (some ⟨g, 0, none⟩) xs.length cap) (xs.length + 1) TT w (.returned (.slice (some ⟨g, 0, none⟩) (xs.length + 1) cap)) W3 from by
          refine ⟨_, rfl, ⟨?_, .inr ⟨g, cap, L3, rfl, hbg, by rw [hW3]; exact setRow_heap W2 g L2 L3 _ _ hG2, hroom, hcm, by rw [hL3]; simp [hL2s, HXL.out]; omega, ?_⟩⟩, by rw [hW3]; exact grownBy_trans hgb2 (grownBy_setRow W2 g L3), .inl rfl⟩
          · rw [HTgt.out]; simp [HFL.out, HXL.out]; omega
          · have e1 : L2.toList.take (i) = (xs.flatMap encS).take (i * 1) := by
              rw [hL2, ← HTK.out]
              simp only [List.append_assoc]
              rw [List.take_append_of_le_length (by rw [List.length_take, HL.out]; omega), List.take_take, List.take_take]
              congr 1
              omega
            have e2 : (L2.toList.drop (i + (encS x).length)).take (X1.length) = X1 := by
              rw [hL2, HXL.out]
              simp only [List.append_assoc]
              rw [List.drop_append_of_le_length (by rw [List.length_take, HL.out]; omega), List.drop_of_length_le (by rw [List.length_take]; omega), List.nil_append, List.take_left]
            rw [HTgt.out, ← HXX.out, hL3, e1]
            simp only [List.append_assoc]
            rw [List.take_append, List.take_of_length_le (by rw [List.length_take, HFL.out]; omega)]
            congr 1
            have e3 : ((xs.flatMap encS).take (i * 1)).length = i * 1 := by rw [List.length_take, HFL.out]; omega
            rw [e3, List.take_append, List.take_of_length_le (by rw [HXL.out]; omega)]
            congr 1
            rw [show (xs.length + 1) * 1 - i * 1 - (encS x).length = X1.length by rw [HXL.out, hX1l]; omega]
            exact e2)
        clear hX1 hX1l hcell hX1o hL2 hW2 hG2 hgb2 hvb2 hxc2 hL2s hL3 hW3 HL hx hg hcs htk ho HEnd HTgt hne HXX hsz
        have hw1 : IntKind.i64.wrap ((i : Int) + 1) = (i : Int) + 1 := by rw [IntKind.wrap_i64]; omega
        have hb1 : (0 : Int) ≤ (i : Int) + 1 := by omega
        have htn : ((i : Int) + 1).toNat = i + 1 := by omega
        have hb2 : ¬ (cap = i + 1) := by omega
        have hb3 : (i : Int) ≤ (xs.length : Int) + 1 := by omega
        have hb4 : ¬ (cap = i) := by omega
        have hz2 : ¬ ((i : Int) = (xs.length : Int)) := by omega
        go_enter Tryd.func49, Tryd.ntmps49
        go_wp2_with (simp only [hov])
        go_region_law (refine step_copy_at rfl _ _ 27 27 rfl _ _ (by simp [Act.eval, Act.put]) (by simp [Act.eval, Act.put]) (hcp1 _ _ _) ?_)
        go_wp2_with (at_builtin; refine wpList_copy_at rfl _ _ 27 27 rfl _ _ rfl rfl (hcp2 _ _) ?_)
        go_ret
        exact HEND.out
      · -- a new row
        have hzr : Builtin.zeroCells (.string ⟨#[]⟩ : Value).cells = Builtin.zeroCells (.string ⟨#[]⟩ : Value).cells := rfl
        have hold : (Builtin.firstCells i0.size i (.slice (some ⟨g, 0, none⟩) i cap)).run Tryd.prog w.drew = .ok ((xs.flatMap encS).take (i * 1)).toArray w.drew := by
          rw [HZ.out.2.1]
          exact run_firstCells_some w.drew 1 i ⟨g, 0, none⟩ i cap ((xs.flatMap encS).take (i * 1)) (by rw [List.length_take, HFL.out]; omega) (fun j u hj => by
            rw [List.getElem?_take] at hj
            split at hj
            · exact HO.out.cells (g := g) rfl j u hj
            · cases hj)
        obtain ⟨G, hG⟩ : ∃ G, G = grownCap w (xs.length + 1) cap 9 := ⟨_, rfl⟩
        obtain ⟨ROW, hROW⟩ : ∃ ROW : Array Value, ROW = ((xs.flatMap encS).take (i * 1)).toArray ++ Builtin.zeroCells (.string ⟨#[]⟩ : Value).cells (xs.length + 1 - i) ++ Builtin.zeroCells (.string ⟨#[]⟩ : Value).cells (G - (xs.length + 1)) := ⟨_, rfl⟩
        obtain ⟨W1, hW1⟩ : ∃ W1, W1 = w.drew.alloc (.cells ROW 9) := ⟨_, rfl⟩
        have hgge : xs.length + 1 ≤ G := by rw [hG]; exact grownCap_ge w _ _ _
        have hgle : G ≤ maxLen := by rw [hG]; exact grownCap_le_maxLen w _ _ _ (by unfold maxLen; omega)
        have hrz : ∀ ty, (Builtin.append_ #[27, 3] ty #[.slice (some ⟨g, 0, none⟩) i cap, .int .i64 ((xs.length : Int) + 1 - (i : Int))]).run Tryd.prog w =
            .ok (.slice (some ⟨w.heap.size, 0, none⟩) (xs.length + 1) G) W1 := fun ty => by
          have h := Lib.run_append_grow_zeros w 27 3 ty 9 i0 _ .i64 .i64 Tryd.underlying27 Tryd.underlying3 HI.out HZ.out.1 (some ⟨g, 0, none⟩) i cap _ hold (xs.length + 1 - i) (by omega) (by rw [HZ.out.2.1]; decide) (by omega) (by omega) (by rw [HZ.out.2.2]; omega) (by rw [HZ.out.2.2, show i + (xs.length + 1 - i) = xs.length + 1 by omega]; exact growslice_fits (by omega) (by omega))
          rw [show i + (xs.length + 1 - i) = xs.length + 1 by omega] at h
          rw [show (xs.length : Int) + 1 - (i : Int) = ((xs.length + 1 - i : Nat) : Int) by omega, hW1, hROW, hG]
          exact h
        have hRs : ROW.size = G * 1 := by
          rw [hROW]; simp [zeroCells_toList, HFL.out, Value.cells]; omega
        have hRt : ROW.toList.take (i) = (xs.flatMap encS).take (i * 1) := by
          rw [hROW]
          simp only [Array.toList_append, List.append_assoc]
          rw [List.take_append_of_le_length (by rw [List.length_take, HFL.out]; omega), List.take_take]
          congr 1
          omega
        have hW1g : W1.heap[w.heap.size]? = some (.cells ROW 9 (0, 0)) := by rw [hW1]; exact heap_alloc_new w.drew _
        have hW1o : ∀ k, k < w.heap.size → W1.heap[k]? = w.heap[k]? := fun k hk => by rw [hW1]; exact heap_alloc_old _ _ hk
        have hB1 : Below w.heap.size w W1 := by rw [hW1]; exact ((Below.refl _ _).drew).alloc (Nat.le_refl _) _
        have hglt : g < w.heap.size := (Array.getElem?_eq_some_iff.1 HG.out).1
        have hns : w.heap.size ≠ g := by omega
        obtain ⟨L2, hL2⟩ : ∃ L2, L2 = (ROW.toList.take (i) ++ encS x ++ ROW.toList.drop (i + (encS x).length)).toArray := ⟨_, rfl⟩
        obtain ⟨W2, hW2⟩ : ∃ W2, W2 = W1.setRow w.heap.size L2 := ⟨_, rfl⟩
        have hcp1 : ∀ ty dc, (Builtin.copy_ #[27, 27] ty #[.slice (some ⟨w.heap.size, i, none⟩) (xs.length + 1 - i) dc, .slice (some ⟨vb, 0, none⟩) 1 1]).run Tryd.prog W1 = .ok (goInt (1 : Nat)) W2 := fun ty dc => by
          rw [hW2, hL2]
          exact run_copyK W1 _ _ ty 9 w.heap.size (i) _ dc _ _ 1 1 1 ROW 9 (encS x) Tryd.underlying27 hsz hW1g (by simp only [Nat.min_def]; split <;> omega) HXL.out (HXN.out W1 hB1) (by rw [HXL.out, hRs]; omega) HX1.out
        have hL2s : L2.size = G * 1 := by rw [hL2]; simp [hRs, HXL.out]; omega
        have hG2 : W2.heap[w.heap.size]? = some (.cells L2 9 (0, 0)) := by rw [hW2]; exact setRow_heap W1 _ ROW L2 _ _ hW1g
        have hW2o : ∀ k, k < w.heap.size → W2.heap[k]? = w.heap[k]? := fun k hk => by rw [hW2, setRow_other W1 _ k L2 (by omega), hW1o k hk]
        obtain ⟨X1, hX1⟩ : ∃ X1, X1 = (xs.flatMap encS).drop (i * 1) := ⟨_, rfl⟩
        have HXX := Lib.hid hX1
        have hX1l : X1.length = (xs.length - i) * 1 := by rw [hX1, List.length_drop, HFL.out]; omega
        have hX1o : ∀ u ∈ X1, u.oneCell' = true := fun u hu => HC1.out u (by rw [HXX.out] at hu; exact List.mem_of_mem_drop hu)
        have hcell : ∀ j u, X1[j]? = some u → W2.drew.cell? ((⟨g, i, none⟩ : Addr).add j) = some u := fun j u hu => by
          rw [HXX.out, List.getElem?_drop] at hu
          have := HO.out.cells (g := g) rfl _ u hu
          rw [add_none] at this ⊢
          rw [show i + j = 0 + (i * 1 + j) by omega]
          rw [cell_of_row w g _ cur _ _ HG.out] at this
          rw [show W2.drew.cell? ⟨g, 0 + (i * 1 + j), none⟩ = W2.cell? ⟨g, 0 + (i * 1 + j), none⟩ from rfl, cell_of_row W2 g _ cur _ _ (by rw [hW2o g hglt]; exact HG.out)]
          exact this
        obtain ⟨L3, hL3⟩ : ∃ L3, L3 = (L2.toList.take (i + 1) ++ X1 ++ L2.toList.drop (i + 1 + X1.length)).toArray := ⟨_, rfl⟩
        obtain ⟨W3, hW3⟩ : ∃ W3, W3 = W2.drew.setRow w.heap.size L3 := ⟨_, rfl⟩
        have hcp2 : ∀ ty dc sc, (Builtin.copy_ #[27, 27] ty #[.slice (some ⟨w.heap.size, i + 1, none⟩) (xs.length - i) dc, .slice (some ⟨g, i, none⟩) (xs.length - i) sc]).run Tryd.prog W2.drew = .ok (goInt (xs.length - i : Nat)) W3 := fun ty dc sc => by
          rw [hW3, hL3]
          exact run_copyK W2.drew _ _ ty 9 w.heap.size (i + 1) _ dc _ _ sc 1 (xs.length - i) L2 9 X1 Tryd.underlying27 hsz hG2 (by simp only [Nat.min_def]; split <;> omega) hX1l hcell (by rw [hX1l, hL2s]; omega) hX1o
        have HEND := Lib.hid (show OwnStep 9 1 base (.slice (some ⟨g, 0, none⟩) xs.length cap) (xs.length + 1) TT w (.returned (.slice (some ⟨w.heap.size, 0, none⟩) (xs.length + 1) G)) W3 from by
          refine ⟨_, rfl, ⟨?_, .inr ⟨w.heap.size, G, L3, rfl, hbase, by rw [hW3]; exact setRow_heap W2.drew _ L2 L3 _ _ hG2, hgge, hgle, by rw [hL3]; simp [hL2s, hX1l]; omega, ?_⟩⟩, ⟨by rw [hW3, hW2, hW1]; rfl, by rw [hW3, hW2, hW1]; rfl, by rw [hW3, hW2, hW1]; rfl, by rw [hW3, hW2, hW1]; simp [World.setRow], fun k hk _ => by rw [hW3, setRow_other W2.drew _ k L3 (by omega)]; exact hW2o k hk⟩, .inr fun k hk => by simp [Value.ownBlock] at hk; omega⟩
          · rw [HTgt.out]; simp [HFL.out, HXL.out]; omega
          · have e1 : L2.toList.take (i + 1) = (xs.flatMap encS).take (i * 1) ++ encS x := by
              rw [hL2, hRt]
              have e3 : ((xs.flatMap encS).take (i * 1)).length = i * 1 := by rw [List.length_take, HFL.out]; omega
              rw [List.take_append_of_le_length (by rw [List.length_append, e3, HXL.out]; omega), List.take_of_length_le (by rw [List.length_append, e3, HXL.out]; omega)]
            rw [HTgt.out, ← HXX.out, hL3, e1]
            have e3 : ((xs.flatMap encS).take (i * 1)).length = i * 1 := by rw [List.length_take, HFL.out]; omega
            rw [List.take_append_of_le_length (by rw [List.length_append, List.length_append, e3, HXL.out, hX1l]; omega), List.take_of_length_le (by rw [List.length_append, List.length_append, e3, HXL.out, hX1l]; omega)])
        have hGi : ¬ (G = i) := by omega
        have hGim : ¬ (G = i + 1) := by omega
        have hci : ¬ (cap = i) := by omega
        have hw1 : IntKind.i64.wrap ((i : Int) + 1) = (i : Int) + 1 := by rw [IntKind.wrap_i64]; omega
        have hb1 : (0 : Int) ≤ (i : Int) + 1 := by omega
        have htn : ((i : Int) + 1).toNat = i + 1 := by omega
        have hb3 : (i : Int) ≤ (xs.length : Int) := by omega
        have hG63 : G ≤ 9223372036854775807 := by unfold maxLen at hgle; exact hgle
        have hz3 : (cap : Int) < (xs.length : Int) + 1 := by omega
        have hz2 : ¬ ((i : Int) = (xs.length : Int)) := by omega
        clear hold hG hROW hW1 hRs hRt hW1g hW1o hB1 hL2 hW2 hL2s hG2 hW2o hX1 hX1l hX1o hcell hL3 hW3 hzr hgle hx hg hcs htk ho HEnd HTgt hne HXX hsz hcm
        go_enter Tryd.func49, Tryd.ntmps49
        go_wp2_with (first
          | (at_builtin; refine Lib.wpList_append_run _ rfl _ _ _ _ rfl _ _ rfl rfl _ _ (hrz _) ?_)
          | (at_builtin; refine wpList_copy_at rfl _ _ 27 27 rfl _ _ rfl rfl (hcp1 _ _) ?_))
        go_region_law (refine step_copy_at rfl _ _ 27 27 rfl _ _ (by simp [Act.eval, Act.put]) (by simp [Act.eval, Act.put]) (hcp2 _ _ _) ?_)
        go_wp2
        go_ret
        exact HEND.out
    · -- at the end
      obtain rfl : xs.length = i := by omega
      have HE := Lib.hid (HEnd.out rfl)
      clear ho hg hcs htk hx HEnd HTgt hne hcm
      go_enter Tryd.func49, Tryd.ntmps49
      go_wp2_with (at_builtin; refine wpList_append_own2 _ rfl _ _ 27 rfl base 9 i0 (.string ⟨#[]⟩) 1 16 Tryd.underlying27 HI.out HZ.out.1 HZ.out.2.1 HZ.out.2.2 rfl (by decide) _ _ _ rfl HO.out ⟨vb, 0, none⟩ 1 1 (encS x) rfl HXL.out (HXN.out _ (Below.refl _ _)) HX1.out (by unfold maxLen; omega) (by omega) (by omega) ?_)
      all_goals
        intro v' w' hown hgrow hor
        have H2 := Lib.hid (show OwnStep 9 1 base (.slice (some ⟨g, 0, none⟩) xs.length cap) (xs.length + 1) TT w (.returned v') w' from ⟨v', rfl, by rw [HE.out]; exact hown, hgrow, hor⟩)
        clear hown hgrow hor
        go_wp2
        go_ret
        exact H2.out
end Go.Proofs.YtjlmoghifkgehaaDoor
