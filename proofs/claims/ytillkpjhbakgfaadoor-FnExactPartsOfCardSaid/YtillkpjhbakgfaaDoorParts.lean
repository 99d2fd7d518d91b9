/- Contracts: PartsOf of both sides: the fields of a line. Conditions: the bounds that any Go string meets; the library's table of white space is as its text lays it. -/
import Derived.Test.YtillkpjhbakgfaaDoorRun
import Derived.Test.YtillkpjhbakgfaaDoorFind
import Derived.Test.YtillkpjhbakgfaaDoorShelf
import Derived.Test.YtillkpjhbakgfaaDoorSliceString
import Derived.Lib.LaidU8
namespace Go.Proofs.YtillkpjhbakgfaaDoor
open Go.RowKit
attribute [local go_sem ↓] Go.wp_at_zero Go.wp_at_succ
def toB (l : List UInt8) : ByteArray := ⟨l.toArray⟩
def goodB (s : ByteArray) : Bool := s.data.toList.all (fun b => decide (32 ≤ b.toNat) && decide (b.toNat ≤ 126))
def fieldsB (s : ByteArray) : List ByteArray := (Lib.fields s.data.toList).map toB
def partsOk (s : ByteArray) : Bool := decide (s.size ≤ 600) && goodB s && decide ((fieldsB s).length ≤ 12)
def partsV (s : ByteArray) : List ByteArray := if partsOk s then fieldsB s else []
theorem parts_yes {s : ByteArray} (h1 : s.size ≤ 600) (h2 : goodB s = true) (h3 : (fieldsB s).length ≤ 12) : partsOk s = true ∧ partsV s = fieldsB s := by
  have h : partsOk s = true := by simp [partsOk, h1, h2, h3]
  exact ⟨h, by unfold partsV; rw [h]; rfl⟩
theorem parts_no {s : ByteArray} (h : 600 < s.size ∨ goodB s = false ∨ 12 < (fieldsB s).length) : partsOk s = false ∧ partsV s = [] := by
  have h : partsOk s = false := by
    unfold partsOk
    rcases h with h | h | h
    · simp [Nat.not_le.2 h]
    · simp [h]
    · simp [Nat.not_le.2 h]
  exact ⟨h, by unfold partsV; rw [h]; rfl⟩
theorem partsV_len (s : ByteArray) : (partsV s).length ≤ 12 := by
  cases h : partsOk s with
  | false => unfold partsV; rw [h]; simp
  | true =>
    unfold partsV; rw [h]
    unfold partsOk at h
    simp only [Bool.and_eq_true, decide_eq_true_eq] at h
    exact h.2
/-- The slice and the sign. -/
def PartsRet (T : Nat) (s : ByteArray) (w : World) (e : Ending) (w' : World) : Prop :=
  ∃ v, e = .returned (.tuple #[v, .bool (partsOk s)]) ∧ w'.ownsRow w.heap.size T 1 v (partsV s).length ((partsV s).flatMap encS) ∧ Below w.heap.size w w'
theorem bad_at {s : ByteArray} {k : Nat} (hk : k < s.size) (h : s[k].toNat < 32 ∨ 126 < s[k].toNat) : goodB s = false := by
  unfold goodB
  rw [List.all_eq_false]
  refine ⟨s[k], ?_, ?_⟩
  · exact List.getElem_mem (l := s.data.toList) (n := k) (by simpa using hk)
  · simp; omega
theorem good_all {s : ByteArray} (h : ∀ k (hk : k < s.size), 32 ≤ s[k].toNat ∧ s[k].toNat ≤ 126) : goodB s = true := by
  unfold goodB
  rw [List.all_eq_true]
  intro b hb
  obtain ⟨k, hk, rfl⟩ := List.mem_iff_getElem.1 hb
  have := h k (by simpa using hk)
  simp only [Bool.and_eq_true, decide_eq_true_eq]
  exact this
def goodTo (s : ByteArray) (k : Nat) : Prop := ∀ j (hj : j < s.size), j < k → 32 ≤ s[j].toNat ∧ s[j].toNat ≤ 126
theorem goodTo_succ {s : ByteArray} {k : Nat} (hk : k < s.size) (h : goodTo s k) (h1 : 32 ≤ s[k].toNat) (h2 : s[k].toNat ≤ 126) : goodTo s (k + 1) := by
  intro j hj hjk
  by_cases e : j = k
  · subst e; exact ⟨h1, h2⟩
  · exact h j hj (by omega)
theorem good_ascii {s : ByteArray} (h : goodB s = true) : ∀ (j : Nat) b, s.data.toList[j]? = some b → b.toNat < 128 := by
  intro j b hb
  unfold goodB at h
  rw [List.all_eq_true] at h
  have := h b (List.mem_of_getElem? hb)
  simp at this
  omega

set_option maxHeartbeats 4000000 in
theorem implPartsOf_c (s : ByteArray) (w : World) (htab : Lib.TabIs Tryd.prog w "strings.asciiSpace" .u8 Lib.asciiSpaceTab) :
    Calls Tryd.prog 8 #[.string s] w (PartsRet 9 s w) := by
  by_cases h6 : s.size ≤ 600
  · have p6 : ¬ (600 : Int) < (s.size : Int) := by omega
    have hno : ∀ (s : ByteArray) (w : World), partsOk s = false ∧ partsV s = [] → PartsRet 9 s w (.returned (.tuple #[.slice none 0 0, .bool false])) w := fun s w h => ⟨.slice none 0 0, by rw [h.1], by rw [h.2]; exact World.ownsRow_nil _ _ _ _, Below.refl _ _⟩
    have HNO := Lib.hid hno
    have KF := Lib.hid (fun (hg : goodB s = true) => Tryd.strings_Fields s w (by omega) (good_ascii hg) htab)
    clear htab hno
    go_enter Tryd.func8, Tryd.ntmps8
    go_wp2
    go_loop [11] (fun i => ∃ k : Nat, k ≤ s.size ∧ i = .int .i64 k ∧ Hid (goodTo s k)) (fun i => s.size - (intOf i).toNat)
    case atStart => exact ⟨0, Nat.zero_le _, rfl, Lib.hid (fun j _ h => absurd h (Nat.not_lt_zero _))⟩
    case round =>
      obtain ⟨k, hk, rfl, HG⟩ := hrel
      have p1 : (0 : Int) ≤ (k : Int) := by omega
      by_cases hlt : k < s.size
      · have p2 : (k : Int) < (s.size : Int) := by omega
        by_cases h1 : (s[k].toNat : Int) < 32
        · have HN := Lib.hid (HNO.out s w (parts_no (.inr (.inl (bad_at hlt (.inl (by omega)))))))
          go_wp2
          go_ret2
          exact HN.out
        · by_cases h2 : (126 : Int) < (s[k].toNat : Int)
          · have HN := Lib.hid (HNO.out s w (parts_no (.inr (.inl (bad_at hlt (.inr (by omega)))))))
            go_wp2
            go_ret2
            exact HN.out
          · have HG2 := Lib.hid (goodTo_succ hlt HG.out (by omega) (by omega))
            go_wp2
            go_round
            case rel => exact ⟨k + 1, by omega, by go_num, HG2⟩
            case measure => first | (simp [intOf]; done) | (simp [intOf]; omega)
      · obtain rfl : k = s.size := by omega
        have hg : goodB s = true := good_all (fun j hj => HG.out j hj hj)
        have HGG := Lib.hid hg
        have K := Lib.hid (KF.out hg)
        have p2 : ¬ (s.size : Int) < (s.size : Int) := by omega
        have hl : (Lib.fields s.data.toList).length = (fieldsB s).length := by unfold fieldsB; rw [List.length_map]
        have hm : ((Lib.fields s.data.toList).map fun l => Value.string ⟨l.toArray⟩) = (fieldsB s).flatMap encS := by
          unfold fieldsB
          rw [List.flatMap_map]
          generalize Lib.fields s.data.toList = L
          induction L with
          | nil => rfl
          | cons a L ih => rw [List.map_cons, List.flatMap_cons, ih]; rfl
        rw [hl, hm] at K
        clear hg hl hm HG KF
        obtain ⟨n, hn⟩ : ∃ n, (fieldsB s).length = n := ⟨_, rfl⟩
        have HNN := Lib.hid hn
        rw [hn] at K
        by_cases h12 : n ≤ 12
        · have p12 : ¬ (12 : Int) < (n : Int) := by omega
          have HV := Lib.hid (parts_yes h6 HGG.out (by rw [hn]; exact h12))
          have HX := Lib.hid (show PartsRet 9 s w (.returned (.tuple #[.slice (some ⟨w.heap.size, 0, none⟩) n n, .bool true])) (w.alloc (.cells ((fieldsB s).flatMap encS).toArray 9)) from
            ⟨_, by rw [HV.out.1], by
              rw [HV.out.2, hn]
              refine ⟨by rw [length_flatMap_const encS_len, hn], .inr ⟨w.heap.size, n, _, rfl, Nat.le_refl _, heap_alloc_new w _, Nat.le_refl _, by unfold maxLen; omega, by simp [length_flatMap_const encS_len, hn], ?_⟩⟩
              rw [List.take_of_length_le (by simp [length_flatMap_const encS_len, hn])], (by repeat (first | exact Below.refl _ _ | refine Below.drew ?_ | refine below_drewN ?_ _ | refine Below.allocC ?_ _ | refine Below.setCell ?_ (by first | (simp; done) | (simp; omega)) _ | refine Below.chain ?_ (by assumption)))⟩)
          clear hn h12
          go_wp2_with fail
          refine K.out.mono ?_
          rintro e w1 ⟨rfl, rfl⟩
          go_wp2
          go_ret2
          exact HX.out
        · have p12 : (12 : Int) < (n : Int) := by omega
          have HV := Lib.hid (parts_no (s := s) (.inr (.inr (by rw [hn]; omega))))
          have HX := Lib.hid (show PartsRet 9 s w (.returned (.tuple #[.slice none 0 0, .bool false])) (w.alloc (.cells ((fieldsB s).flatMap encS).toArray 9)) from
            ⟨.slice none 0 0, by rw [HV.out.1], by rw [HV.out.2]; exact World.ownsRow_nil _ _ _ _, (by repeat (first | exact Below.refl _ _ | refine Below.drew ?_ | refine below_drewN ?_ _ | refine Below.allocC ?_ _ | refine Below.setCell ?_ (by first | (simp; done) | (simp; omega)) _ | refine Below.chain ?_ (by assumption)))⟩)
          clear hn h12
          go_wp2_with fail
          refine K.out.mono ?_
          rintro e w1 ⟨rfl, rfl⟩
          go_wp2
          go_ret2
          exact HX.out
  · have p6 : (600 : Int) < (s.size : Int) := by omega
    have HV := Lib.hid (parts_no (s := s) (.inl (by omega)))
    clear htab h6
    go_enter Tryd.func8, Tryd.ntmps8
    go_wp2
    go_ret2
    exact ⟨.slice none 0 0, by rw [HV.out.1]; rfl, by rw [HV.out.2]; exact World.ownsRow_nil _ _ _ _, Below.refl _ _⟩

/-- The fields told so far and what is left of the line. -/
def partInv (s : ByteArray) (outs : List ByteArray) (b i : Nat) : Prop := fieldsB s = outs ++ (Lib.fieldsGo ((s.data.toList.drop b).take (i - b)) (s.data.toList.drop i)).map toB
theorem partInv_zero (s : ByteArray) : partInv s [] 0 0 := by
  unfold partInv fieldsB Lib.fields; simp
theorem sp_no {b : UInt8} (h1 : 32 ≤ b.toNat) (h2 : b.toNat ≤ 126) (h3 : b.toNat ≠ 32) : Lib.isSp b = false := by
  unfold Lib.isSp
  have ne : ∀ c : UInt8, c.toNat ≠ b.toNat → (b == c) = false := fun c h => by
    rw [beq_eq_false_iff_ne]; rintro rfl; exact h rfl
  rw [ne 9 (show (9 : Nat) ≠ b.toNat by omega), ne 10 (show (10 : Nat) ≠ b.toNat by omega), ne 11 (show (11 : Nat) ≠ b.toNat by omega), ne 12 (show (12 : Nat) ≠ b.toNat by omega), ne 13 (show (13 : Nat) ≠ b.toNat by omega), ne 32 (show (32 : Nat) ≠ b.toNat by omega)]; rfl
theorem sp_yes {b : UInt8} (h : b.toNat = 32) : Lib.isSp b = true := by
  have : b = 32 := UInt8.toNat_inj.1 h
  subst this; decide
theorem drop_at {s : ByteArray} {i : Nat} (hi : i < s.size) : s.data.toList.drop i = s[i] :: s.data.toList.drop (i + 1) := by
  rw [List.drop_eq_getElem_cons (by simpa using hi)]; rfl
theorem partInv_go {s : ByteArray} {outs : List ByteArray} {b i : Nat} (h : partInv s outs b i) (hb : b ≤ i) (hi : i < s.size) (hs : Lib.isSp s[i] = false) : partInv s outs b (i + 1) := by
  unfold partInv at *
  rw [h, drop_at hi]
  simp only [Lib.fieldsGo, hs]
  congr 3
  rw [show i + 1 - b = (i - b) + 1 by omega, List.take_add_one, List.getElem?_drop, show b + (i - b) = i by omega, List.getElem?_eq_getElem (by simpa using hi)]
  rfl
theorem cur_empty {s : ByteArray} {b i : Nat} (hb : b ≤ i) (hi : i ≤ s.size) : ((s.data.toList.drop b).take (i - b)).isEmpty = decide (b = i) := by
  rw [Bool.eq_iff_iff, List.isEmpty_iff_length_eq_zero, List.length_take, List.length_drop]
  simp
  omega
theorem cut_is {s : ByteArray} {b i : Nat} : toB ((s.data.toList.drop b).take (i - b)) = s.extract b i := by
  have := Lib.extract_data s b i
  unfold toB
  rw [← this]
theorem partInv_cut {s : ByteArray} {outs : List ByteArray} {b i : Nat} (h : partInv s outs b i) (hb : b < i) (hi : i ≤ s.size) (hs : ∀ (hi : i < s.size), Lib.isSp s[i] = true) : partInv s (outs ++ [s.extract b i]) (i + 1) (i + 1) := by
  unfold partInv at *
  have he : ((s.data.toList.drop b).take (i - b)).isEmpty = false := by rw [cur_empty (by omega) hi]; simp; omega
  rw [h, ← cut_is]
  by_cases hlt : i < s.size
  · rw [drop_at hlt]
    simp only [Lib.fieldsGo, hs hlt, he]
    simp
  · rw [List.drop_of_length_le (i := i) (by simp; omega), List.drop_of_length_le (i := i + 1) (by simp; omega)]
    simp [Lib.fieldsGo, he]
theorem partInv_skip {s : ByteArray} {outs : List ByteArray} {i : Nat} (h : partInv s outs i i) (hi : i ≤ s.size) (hs : ∀ (hi : i < s.size), Lib.isSp s[i] = true) : partInv s outs (i + 1) (i + 1) := by
  unfold partInv at *
  have he : ((s.data.toList.drop i).take (i - i)).isEmpty = true := by rw [cur_empty (by omega) hi]; simp
  rw [h]
  by_cases hlt : i < s.size
  · rw [drop_at hlt]
    simp [Lib.fieldsGo, hs hlt]
  · rw [List.drop_of_length_le (i := i) (by simp; omega), List.drop_of_length_le (i := i + 1) (by simp; omega)]
    simp [Lib.fieldsGo]
theorem partInv_end {s : ByteArray} {outs : List ByteArray} {i b : Nat} (h : partInv s outs b i) (hi : s.size < i) (hb : s.size < b) : fieldsB s = outs := by
  unfold partInv at h
  rw [h, List.drop_of_length_le (i := i) (by simp; omega), List.drop_of_length_le (i := b) (by simp; omega)]
  simp [Lib.fieldsGo]

set_option maxRecDepth 100000 in
set_option maxHeartbeats 4000000 in
theorem specPartsOf_c (s : ByteArray) (w : World) :
    Calls Tryd.prog 7 #[.string s] w (PartsRet 9 s w) := by
  obtain ⟨i0, hinf, hzz⟩ := Option.map_eq_some_iff.1 infoString
  simp only [Prod.mk.injEq] at hzz
  have HI := Lib.hid hinf
  have HZ := Lib.hid hzz
  clear hinf hzz
  have HRN := Lib.hid (fun (W : World) => (show (W.alloc (.cells #[] 9)).ownsRow W.heap.size 9 1 (.slice (some ⟨W.heap.size, 0, none⟩) 0 0) 0 [] from ⟨rfl, .inr ⟨W.heap.size, 0, #[], rfl, Nat.le_refl _, heap_alloc_new W _, Nat.le_refl _, Nat.zero_le _, rfl, rfl⟩⟩))
  have HNO := Lib.hid (fun (W : World) (hW : Below w.heap.size w W) (h : partsOk s = false ∧ partsV s = []) => (show PartsRet 9 s w (.returned (.tuple #[.slice (some ⟨W.heap.size, 0, none⟩) 0 0, .bool false])) (W.alloc (.cells #[] 9)) from
    ⟨_, by rw [h.1], by rw [h.2]; exact ownsRow_base (HRN.out W) hW.size, Below.allocC hW _⟩))
  by_cases h6 : s.size ≤ 600
  · have p6 : ¬ (600 : Int) < (s.size : Int) := by omega
    go_enter Tryd.func7, Tryd.ntmps7
    go_wp2
    go_loopw [4, 5, 6] (fun v b i wr => ∃ (k c : Nat) (outs : List ByteArray), k ≤ s.size + 1 ∧ c ≤ k ∧ outs.length ≤ k ∧ (s.size < k → s.size < c) ∧ i = .int .i64 k ∧ b = .int .i64 c ∧ Hid (goodTo s k) ∧ Hid (partInv s outs c k) ∧ Hid (wr.ownsRow w.heap.size 9 1 v outs.length (outs.flatMap encS)) ∧ Below w.heap.size w wr) (fun _ _ i _ => s.size + 1 - (intOf i).toNat)
    case atStart => exact ⟨0, 0, [], Nat.zero_le _, Nat.le_refl _, Nat.le_refl _, fun h => absurd h (Nat.not_lt_zero _), rfl, rfl, Lib.hid (fun j _ h => absurd h (Nat.not_lt_zero _)), Lib.hid (partInv_zero s), HRN.out w, (by repeat (first | exact Below.refl _ _ | refine Below.drew ?_ | refine below_drewN ?_ _ | refine Below.allocC ?_ _ | refine Below.setCell ?_ (by first | (simp; done) | (simp; omega)) _ | refine Below.chain ?_ (by assumption)))⟩
    case round =>
      obtain ⟨k, c, outs, hk, hc, hol, hkc, rfl, rfl, HG, HP, HW, hb⟩ := hrel
      have HKC := Lib.hid hkc
      clear hkc
      have p1 : (0 : Int) ≤ (k : Int) := by omega
      have pc0 : (0 : Int) ≤ (c : Int) := by omega
      by_cases hle : k ≤ s.size
      · have pl : (k : Int) ≤ (s.size : Int) := by omega
        by_cases hlt : k < s.size
        · have p2 : (k : Int) < (s.size : Int) := by omega
          by_cases h1 : (s[k].toNat : Int) < 32
          · have HN := Lib.hid (HNO.out wr hb (parts_no (.inr (.inl (bad_at hlt (.inl (by omega)))))))
            go_wp2
            go_ret2
            exact HN.out
          · by_cases h2 : (126 : Int) < (s[k].toNat : Int)
            · have HN := Lib.hid (HNO.out wr hb (parts_no (.inr (.inl (bad_at hlt (.inr (by omega)))))))
              go_wp2
              go_ret2
              exact HN.out
            · have HG2 := Lib.hid (goodTo_succ hlt HG.out (by omega) (by omega))
              by_cases h3 : (s[k].toNat : Int) = 32
              · have f1 : ((s[k].toNat : Int) == 32) = true := by simp [h3]
                have f2 : ((s[k].toNat : Int) != 32) = false := by simp [h3]
                have HSP := Lib.hid (fun (_ : k < s.size) => sp_yes (b := s[k]) (by omega))
                clear h3
                by_cases hck : c < k
                · have pck : (c : Int) < (k : Int) := by omega
                  have hcl : c ≤ k := by omega
                  have HP2 := Lib.hid (partInv_cut HP.out hck (by omega) HSP.out)
                  go_wp2_with (at_builtin; refine wpList_append_own2 _ rfl _ _ 25 rfl w.heap.size 9 i0 (.string ⟨#[]⟩) 1 16 Tryd.underlying25 HI.out HZ.out.1 HZ.out.2.1 HZ.out.2.2 rfl (by decide) _ _ _ rfl (HW.out.alloc _) ⟨wr.heap.size, 0, none⟩ 1 1 (encS (s.extract c k)) rfl rfl (box_news (Box.new _ _ _)) (encS_one _) (by unfold maxLen; omega) (by omega) (by have := hb.size; simp; omega) ?_)
                  intro v' w' o2 g2 or2
                  have h := OwnStep.fresh (w := w) (W := wr.alloc (.cells #[.string (s.extract c k)] 9)) (e := .returned v') (w' := w') ((by repeat (first | exact Below.refl _ _ | refine Below.drew ?_ | refine below_drewN ?_ _ | refine Below.allocC ?_ _ | refine Below.setCell ?_ (by first | (simp; done) | (simp; omega)) _ | refine Below.chain ?_ (by assumption)))) (HW.out.alloc _) ⟨v', rfl, o2, g2, or2⟩
                  have B2 := Lib.hid (show Below w.heap.size w w' by obtain ⟨_, _, _, h⟩ := h; exact h)
                  have HW2 := Lib.hid (show w'.ownsRow w.heap.size 9 1 v' (outs ++ [s.extract c k]).length ((outs ++ [s.extract c k]).flatMap encS) from by
                    rw [List.length_append, List.flatMap_append]; exact (by simpa using o2))
                  have HL2 := Lib.hid (show (outs ++ [s.extract c k]).length = outs.length + 1 from by simp)
                  clear o2 g2 or2 h HW
                  go_wp2
                  go_roundw
                  case rel => exact ⟨k + 1, k + 1, outs ++ [s.extract c k], by omega, by omega, by rw [HL2.out]; omega, by omega, by go_num, by go_num, HG2, HP2, HW2, B2.out⟩
                  case measure => first | (simp [intOf]; done) | (simp [intOf]; omega)
                · have pck : ¬ (c : Int) < (k : Int) := by omega
                  obtain hce : c = k := by omega
                  have HP2 := Lib.hid (partInv_skip (hce ▸ HP.out) (by omega) HSP.out)
                  go_wp2
                  go_roundw
                  case rel => exact ⟨k + 1, k + 1, outs, by omega, by omega, by omega, by omega, by go_num, by go_num, HG2, HP2, HW, hb⟩
                  case measure => first | (simp [intOf]; done) | (simp [intOf]; omega)
              · have f1 : ((s[k].toNat : Int) == 32) = false := by simp [h3]
                have f2 : ((s[k].toNat : Int) != 32) = true := by simp [h3]
                have HP2 := Lib.hid (partInv_go HP.out hc hlt (sp_no (by omega) (by omega) (by omega)))
                clear h3
                go_wp2
                go_roundw
                case rel => exact ⟨k + 1, c, outs, by omega, by omega, by omega, by omega, by go_num, rfl, HG2, HP2, HW, hb⟩
                case measure => first | (simp [intOf]; done) | (simp [intOf]; omega)
        · obtain rfl : k = s.size := by omega
          have p2 : ¬ (s.size : Int) < (s.size : Int) := by omega
          have HSP := Lib.hid (fun (h : s.size < s.size) => (absurd h (Nat.lt_irrefl _) : Lib.isSp s[s.size] = true))
          have HG2 := Lib.hid (show goodTo s (s.size + 1) from fun j hj _ => HG.out j hj hj)
          by_cases hck : c < s.size
          · have pck : (c : Int) < (s.size : Int) := by omega
            have hcl : c ≤ s.size := by omega
            have HP2 := Lib.hid (partInv_cut HP.out hck (by omega) HSP.out)
            go_wp2_with (at_builtin; refine wpList_append_own2 _ rfl _ _ 25 rfl w.heap.size 9 i0 (.string ⟨#[]⟩) 1 16 Tryd.underlying25 HI.out HZ.out.1 HZ.out.2.1 HZ.out.2.2 rfl (by decide) _ _ _ rfl (HW.out.alloc _) ⟨wr.heap.size, 0, none⟩ 1 1 (encS (s.extract c s.size)) rfl rfl (box_news (Box.new _ _ _)) (encS_one _) (by unfold maxLen; omega) (by omega) (by have := hb.size; simp; omega) ?_)
            intro v' w' o2 g2 or2
            have h := OwnStep.fresh (w := w) (W := wr.alloc (.cells #[.string (s.extract c s.size)] 9)) (e := .returned v') (w' := w') ((by repeat (first | exact Below.refl _ _ | refine Below.drew ?_ | refine below_drewN ?_ _ | refine Below.allocC ?_ _ | refine Below.setCell ?_ (by first | (simp; done) | (simp; omega)) _ | refine Below.chain ?_ (by assumption)))) (HW.out.alloc _) ⟨v', rfl, o2, g2, or2⟩
            have B2 := Lib.hid (show Below w.heap.size w w' by obtain ⟨_, _, _, h⟩ := h; exact h)
            have HW2 := Lib.hid (show w'.ownsRow w.heap.size 9 1 v' (outs ++ [s.extract c s.size]).length ((outs ++ [s.extract c s.size]).flatMap encS) from by
              rw [List.length_append, List.flatMap_append]; exact (by simpa using o2))
            have HL2 := Lib.hid (show (outs ++ [s.extract c s.size]).length = outs.length + 1 from by simp)
            clear o2 g2 or2 h HW
            go_wp2
            go_roundw
            case rel => exact ⟨s.size + 1, s.size + 1, outs ++ [s.extract c s.size], by omega, by omega, by rw [HL2.out]; omega, by omega, by go_num, by go_num, HG2, HP2, HW2, B2.out⟩
            case measure => first | (simp [intOf]; done) | (simp [intOf]; omega)
          · have pck : ¬ (c : Int) < (s.size : Int) := by omega
            obtain hce : c = s.size := by omega
            have HP2 := Lib.hid (partInv_skip (hce ▸ HP.out) (by omega) HSP.out)
            go_wp2
            go_roundw
            case rel => exact ⟨s.size + 1, s.size + 1, outs, by omega, by omega, by omega, by omega, by go_num, by go_num, HG2, HP2, HW, hb⟩
            case measure => first | (simp [intOf]; done) | (simp [intOf]; omega)
      · obtain rfl : k = s.size + 1 := by omega
        have pl : ¬ ((s.size + 1 : Nat) : Int) ≤ (s.size : Int) := by omega
        have hE := partInv_end HP.out (by omega) (HKC.out (by omega))
        have HGG := Lib.hid (good_all (s := s) (fun j hj => HG.out j hj (by omega)))
        have HE := Lib.hid hE
        clear hE HG
        obtain ⟨n, hn⟩ : ∃ n, outs.length = n := ⟨_, rfl⟩
        have HNN := Lib.hid hn
        obtain ⟨av, capv, hav⟩ := ownsRow_shape HW.out
        subst hav
        rw [hn]
        by_cases h12 : n ≤ 12
        · have p12 : ¬ (12 : Int) < (n : Int) := by omega
          have HV := Lib.hid (parts_yes h6 HGG.out (by rw [HE.out, hn]; exact h12))
          have HX := Lib.hid (show PartsRet 9 s w (.returned (.tuple #[.slice av n capv, .bool true])) wr from ⟨_, by rw [HV.out.1], by rw [HV.out.2, HE.out, ← hn]; exact HW.out, hb⟩)
          clear hn h12
          go_wp2
          go_ret2
          exact HX.out
        · have p12 : (12 : Int) < (n : Int) := by omega
          have HX := Lib.hid (HNO.out wr hb (parts_no (s := s) (.inr (.inr (by rw [HE.out, hn]; omega)))))
          clear hn h12
          go_wp2
          go_ret2
          exact HX.out
  · have p6 : (600 : Int) < (s.size : Int) := by omega
    have HV := Lib.hid (HNO.out w (Below.refl _ _) (parts_no (s := s) (.inl (by omega))))
    clear h6
    go_enter Tryd.func7, Tryd.ntmps7
    go_wp2
    go_ret2
    exact HV.out
end Go.Proofs.YtillkpjhbakgfaaDoor
