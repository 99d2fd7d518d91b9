/- Contracts: Boot of both sides: the store of the first machine. Conditions: the library's variables hold what their texts lay. -/
import Derived.Test.YtjlmoghifkgehaaDoorMachSp
import Derived.Test.YtjlmoghifkgehaaDoorMachOf
namespace Go.Proofs.YtjlmoghifkgehaaDoor
open Go.ChangeShapes Go.WideShapes Go.ChangeAt Go.RowKit
attribute [local go_sem ↓] Go.wp_at_zero Go.wp_at_succ
def mEmpty : Mch := ⟨[], [], []⟩
noncomputable def bootM : Mch := spawnM mEmpty 0
theorem mEmpty_ok (n : Nat) : MOk n mEmpty := ⟨Nat.zero_le _, Nat.zero_le _, Nat.zero_le _, fun x h => by cases h⟩
theorem own_nil (W : World) (B T K : Nat) : W.ownsRow B T K (.slice none 0 0) 0 [] := ⟨by simp, .inl ⟨rfl, rfl⟩⟩
theorem none_at (w : World) : MAt (w.alloc (.cells #[.slice none 0 0, .slice none 0 0, .slice none 0 0] 31)) w.heap.size w.heap.size (.slice none 0 0) (.slice none 0 0) (.slice none 0 0) mEmpty :=
  ⟨Box.new w [.slice none 0 0, .slice none 0 0, .slice none 0 0] _, own_nil _ _ _ _, own_nil _ _ _ _, own_nil _ _ _ _, by simp [Value.ownBlock], by simp [Value.ownBlock], by simp [Value.ownBlock], by simp [Value.ownBlock], by simp [Value.ownBlock], by simp [Value.ownBlock], Nat.le_refl _, by simp⟩

set_option maxHeartbeats 2000000 in
theorem implBoot_c (w : World) (HT : ∀ W, Below w.heap.size w W → NumTab W) :
    Calls Tryd.prog 5 #[] w (Fresh 39 2 (bootM.st.flatMap encC) bootM.st.length w) := by
  have HB := Lib.hid (show Below w.heap.size w (w.alloc (.cells #[.slice none 0 0, .slice none 0 0, .slice none 0 0] 31)) from (by repeat (first | exact Below.refl _ _ | refine Below.drew ?_ | refine below_drewN ?_ _ | refine Below.allocC ?_ _ | refine Below.setCell ?_ (by first | (simp; done) | (simp; omega)) _ | refine Below.chain ?_ (by assumption))))
  have H0 := Lib.hid (none_at w)
  have K := Lib.hid (spawn_c w.heap.size w.heap.size (.slice none 0 0) (.slice none 0 0) (.slice none 0 0) mEmpty 0 _ (none_at w) (mEmpty_ok _) (fun W hW => HT W (HB.out.trans hW)))
  rw [show spawnM mEmpty 0 = bootM from rfl] at K
  clear HT
  generalize bootM = bm at *
  generalize spawnId mEmpty = si at *
  generalize spawnCode mEmpty = sc at *
  go_enter Tryd.func5, Tryd.ntmps5
  go_wp2_with fail
  refine K.out.mono ?_
  rintro e w1 ⟨u1, u2, u3, rfl, hm, hg, _, _, _⟩
  have c0 := hm.box.cell 0 _ rfl
  have HEND := Lib.hid (show Fresh 39 2 (bm.st.flatMap encC) bm.st.length w (.returned u1) w1 from ⟨u1, rfl, hm.o1, HB.out.trans (H0.out.grow hg)⟩)
  clear hm hg K
  go_wp2
  go_ret
  exact HEND.out

set_option maxHeartbeats 2000000 in
theorem specBoot_c (w : World) :
    Calls Tryd.prog 4 #[] w fun e w' => ∃ a cap, e = .returned (.slice a bootM.st.length cap) ∧ Reads w' a 2 encC bootM.st ∧ Below w.heap.size w w' := by
  have K := Lib.hid (specMachOf_c (some ⟨w.heap.size, 0, none⟩) 0 [] (w.alloc (.cells #[] 39)) (by decide) (fun h => by cases h) (.inl rfl))
  have HB := Lib.hid (show Below w.heap.size w (w.alloc (.cells #[] 39)) from (by repeat (first | exact Below.refl _ _ | refine Below.drew ?_ | refine below_drewN ?_ _ | refine Below.allocC ?_ _ | refine Below.setCell ?_ (by first | (simp; done) | (simp; omega)) _ | refine Below.chain ?_ (by assumption))))
  go_enter Tryd.func4, Tryd.ntmps4
  go_wp2_with fail
  refine K.out.mono ?_
  rintro e w1 ⟨v, rfl, ho, hb1⟩
  have HB1 := Lib.hid (HB.out.trans (hb1.mono HB.out.size))
  obtain ⟨a, c, hv, hr, l1, l2⟩ := reads_of_owns' encC_len (show w1.ownsRow _ _ 2 v ([] : List (ByteArray × ByteArray)).length (([] : List (ByteArray × ByteArray)).flatMap encC) from ho)
  subst hv
  have hrd : MRd w1 (.slice a ([] : List (ByteArray × ByteArray)).length c) (.slice none 0 0) (.slice none 0 0) mEmpty := ⟨⟨a, c, rfl, hr, l1, l2⟩, ⟨none, 0, rfl, .inl rfl, Nat.le_refl _, Nat.zero_le _⟩, ⟨none, 0, rfl, .inl rfl, Nat.le_refl _, Nat.zero_le _⟩⟩
  have HRD := Lib.hid hrd
  have KS := Lib.hid (sSpawn_c _ _ _ mEmpty 0 w1 hrd (mEmpty_ok _))
  rw [show spawnM mEmpty 0 = bootM from rfl] at KS
  clear ho hb1 hr hrd K
  generalize spawnId mEmpty = si at *
  generalize spawnCode mEmpty = sc at *
  go_wp2_with fail
  refine KS.out.mono ?_
  rintro e w2 ⟨u1, u2, u3, rfl, hmo, hb2⟩
  have hrd2 := hmo.rd HRD.out hb2
  obtain ⟨x1, k1, hx1, hr1, _, _⟩ := hrd2.r1
  obtain ⟨x2, k2, hx2, _, _, _⟩ := hrd2.r2
  obtain ⟨x3, k3, hx3, _, _, _⟩ := hrd2.r3
  subst hx1 hx2 hx3
  have HEND := Lib.hid (fun W (hW : Below w2.heap.size w2 W) => (show ∃ a cap, Ending.returned (Value.slice x1 bootM.st.length k1) = .returned (.slice a bootM.st.length cap) ∧ Reads W a 2 encC bootM.st ∧ Below w.heap.size w W from ⟨x1, k1, rfl, hr1.below hW, (HB1.out.trans (hb2.mono HB1.out.size)).trans (hW.mono (Nat.le_trans HB1.out.size hb2.size))⟩))
  clear hmo hb2 hrd2 hr1 KS
  go_wp2
  go_ret
  refine HEND.out (w2.alloc (.cells #[.slice x1 bootM.st.length k1, .slice x2 bootM.rs.length k2, .slice x3 bootM.ws.length k3] 31)) ?_
  exact (by repeat (first | exact Below.refl _ _ | refine Below.drew ?_ | refine below_drewN ?_ _ | refine Below.allocC ?_ _ | refine Below.setCell ?_ (by first | (simp; done) | (simp; omega)) _ | refine Below.chain ?_ (by assumption)))
end Go.Proofs.YtjlmoghifkgehaaDoor
