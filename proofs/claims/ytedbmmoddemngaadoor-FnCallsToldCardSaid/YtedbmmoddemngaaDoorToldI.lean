/- Contract: the program's Told keeps the fields that a call uses ('toldOf'): it goes over the letters of the fields. No conditions. -/
import Derived.Test.YtedbmmoddemngaaDoorTold
import Derived.Test.YtedbmmoddemngaaDoorOwn
import Derived.Lib.OthersKept
namespace Go.Proofs.YtedbmmoddemngaaDoor
open Go.RowKit
/-- One letter's field set. -/
def setF (c : Nat) (x o : Cal) : Cal :=
  if c = 78 then { o with name := x.name } else if c = 84 then { o with dest := x.dest } else if c = 65 then { o with a := x.a } else if c = 66 then { o with b := x.b } else if c = 88 then { o with text := x.text } else o
def setAll (x : Cal) (l : List UInt8) (o : Cal) : Cal := l.foldl (fun o c => setF c.toNat x o) o
theorem setAll_fields (x : Cal) : setAll x (fieldsB x.kind) ⟨x.kind, ⟨#[]⟩, ⟨#[]⟩, 0, 0, ⟨#[]⟩⟩ = toldOf x := by
  rcases kinds_or x.kind with h | h
  · obtain ⟨k, n, d, a, b, t⟩ := x
    dsimp only at h
    rcases h with rfl | rfl | rfl | rfl | rfl | rfl | rfl | rfl | rfl | rfl | rfl | rfl | rfl | rfl | rfl | rfl | rfl | rfl | rfl | rfl | rfl | rfl <;> rfl
  · rw [told_other h]
    have e : ∀ i : Int, 1 ≤ i → i ≤ 22 → (x.kind == i) = false := fun i h1 h2 => by simp; omega
    have : fieldsB x.kind = [] := by unfold fieldsB; simp [e]
    rw [this]; rfl
theorem setAll_snoc (x o : Cal) (S : ByteArray) (k : Nat) (h : k < S.size) : setAll x (S.data.toList.take (k + 1)) o = setF (S[k]'h).toNat x (setAll x (S.data.toList.take k) o) := by
  rw [List.take_succ_eq_append_getElem (by simpa using h)]
  unfold setAll
  rw [List.foldl_append]
  rfl
theorem fields_ascii (k : Int) : ∀ c ∈ fieldsB k, c.toNat < 128 := by
  unfold fieldsB
  repeat' split
  all_goals simp
theorem box_iterAt {w : World} {b : Nat} {xs : List Value} {k : Nat} {s : ByteArray} {pos : Nat} (h : Box w b xs) (hk : w.heap[k]? = some (.stringIter s pos)) (pos' : Nat) : Box (w.iterAt k s pos') b xs := by
  obtain ⟨h1, T, h2⟩ := h
  have hne : b ≠ k := by
    intro e
    rw [e, hk] at h2
    cases h2
  exact ⟨by rw [Lib.iterAt_size]; exact h1, T, (Lib.iterAt_other w k b s pos' hne).trans h2⟩
theorem box_store {w : World} {b : Nat} {xs : List Value} (h : Box w b xs) (i : Nat) (v : Value) : Box (w.setCell ⟨b, i, none⟩ v) b (xs.set i v) := by
  obtain ⟨h1, T, h2⟩ := h
  refine ⟨by simpa [World.setCell] using h1, T, ?_⟩
  have := heap_setCell_same w b i xs.toArray T v h2
  simpa using this
theorem box_other {w : World} {b b' : Nat} {xs : List Value} (h : Box w b xs) (hne : b ≠ b') (i : Nat) (v : Value) : Box (w.setCell ⟨b', i, none⟩ v) b xs := by
  obtain ⟨h1, T, h2⟩ := h
  exact ⟨by simpa [World.setCell] using h1, T, (heap_setCell_other w ⟨b', i, none⟩ b v hne).trans h2⟩
theorem iter_store {w : World} {k b : Nat} {s : ByteArray} {pos : Nat} (hk : w.heap[k]? = some (.stringIter s pos)) (hne : k ≠ b) (i : Nat) (v : Value) : (w.setCell ⟨b, i, none⟩ v).heap[k]? = some (.stringIter s pos) :=
  (heap_setCell_other w ⟨b, i, none⟩ k v hne).trans hk

set_option maxHeartbeats 8000000 in
theorem implTold_c (x : Cal) (w : World) : Calls Tryd.prog 44 #[.agg #[.int .i64 x.kind, .string x.name, .string x.dest, .int .i64 x.a, .int .i64 x.b, .string x.text]] w fun e w' => e = .returned (.agg #[.int .i64 (toldOf x).kind, .string (toldOf x).name, .string (toldOf x).dest, .int .i64 (toldOf x).a, .int .i64 (toldOf x).b, .string (toldOf x).text]) ∧ Below w.heap.size w w' := by
  have HA := Lib.hid (fields_ascii x.kind)
  have HF := Lib.hid (setAll_fields x)
  obtain ⟨S, hS⟩ : ∃ S : ByteArray, S = ⟨(fieldsB x.kind).toArray⟩ := ⟨_, rfl⟩
  have HS := Lib.hid hS
  have K := Lib.hid (fun W => fieldsOf_c x.kind W)
  rw [← hS] at K
  clear hS
  go_enter Tryd.func44, Tryd.ntmps44
  go_wp2_with (go_at_call 76; refine (K.out _).mono ?_; rintro e w' ⟨rfl, rfl⟩)
  have X0 := Lib.hid ((((Box.new w [.int .i64 x.kind, .string x.name, .string x.dest, .int .i64 x.a, .int .i64 x.b, .string x.text] 59).alloc (.cells #[.int .i64 0, .string ⟨#[]⟩, .string ⟨#[]⟩, .int .i64 0, .int .i64 0, .string ⟨#[]⟩] 59)).alloc (.cells #[.int .i64 x.kind, .string ⟨#[]⟩, .string ⟨#[]⟩, .int .i64 0, .int .i64 0, .string ⟨#[]⟩] 59)).alloc (.stringIter S 0))
  have X1 := Lib.hid (((Box.new (w.alloc (.cells #[.int .i64 x.kind, .string x.name, .string x.dest, .int .i64 x.a, .int .i64 x.b, .string x.text] 59)) [.int .i64 0, .string ⟨#[]⟩, .string ⟨#[]⟩, .int .i64 0, .int .i64 0, .string ⟨#[]⟩] 59).alloc (.cells #[.int .i64 x.kind, .string ⟨#[]⟩, .string ⟨#[]⟩, .int .i64 0, .int .i64 0, .string ⟨#[]⟩] 59)).alloc (.stringIter S 0))
  have X2 := Lib.hid ((Box.new ((w.alloc (.cells #[.int .i64 x.kind, .string x.name, .string x.dest, .int .i64 x.a, .int .i64 x.b, .string x.text] 59)).alloc (.cells #[.int .i64 0, .string ⟨#[]⟩, .string ⟨#[]⟩, .int .i64 0, .int .i64 0, .string ⟨#[]⟩] 59)) [.int .i64 x.kind, .string ⟨#[]⟩, .string ⟨#[]⟩, .int .i64 0, .int .i64 0, .string ⟨#[]⟩] 59).alloc (.stringIter S 0))
  go_loopw [] (fun wr => ∃ k : Nat, k ≤ S.size ∧ wr.heap[w.heap.size + 1 + 1 + 1]? = some (.stringIter S k) ∧ Box wr w.heap.size [.int .i64 x.kind, .string x.name, .string x.dest, .int .i64 x.a, .int .i64 x.b, .string x.text] ∧ Box wr (w.heap.size + 1) [.int .i64 0, .string ⟨#[]⟩, .string ⟨#[]⟩, .int .i64 0, .int .i64 0, .string ⟨#[]⟩] ∧ Box wr (w.heap.size + 1 + 1) (encCal (setAll x (S.data.toList.take k) ⟨x.kind, ⟨#[]⟩, ⟨#[]⟩, 0, 0, ⟨#[]⟩⟩)) ∧ Below w.heap.size w wr) (fun wr => S.size - wr.iterPos (w.heap.size + 1 + 1 + 1))
  case atStart =>
    refine ⟨0, Nat.zero_le _, by simpa using World.iter_heap (((w.alloc (.cells #[.int .i64 x.kind, .string x.name, .string x.dest, .int .i64 x.a, .int .i64 x.b, .string x.text] 59)).alloc (.cells #[.int .i64 0, .string ⟨#[]⟩, .string ⟨#[]⟩, .int .i64 0, .int .i64 0, .string ⟨#[]⟩] 59)).alloc (.cells #[.int .i64 x.kind, .string ⟨#[]⟩, .string ⟨#[]⟩, .int .i64 0, .int .i64 0, .string ⟨#[]⟩] 59)) S 0, X0.out, ?_, ?_, ?_⟩
    · have h := X1.out; simp only [World.size_alloc] at h; exact h
    · have h := X2.out; simp only [World.size_alloc] at h; exact h
    · show Below _ _ (World.alloc _ (.stringIter S 0)); exact (by repeat (first | exact Below.refl _ _ | refine Below.drew ?_ | refine below_drewN ?_ _ | refine Below.allocC ?_ _ | refine Below.setCell ?_ (by first | (simp; done) | (simp; omega)) _ | refine Below.chain ?_ (by assumption)))
  case round =>
    obtain ⟨k, hk, hit, b0, b1, b2, hbel⟩ := hrel
    by_cases hlt : k < S.size
    · have h128 : (S[k]'hlt).toNat < 128 := HA.out _ (by
        have hm : S[k]'hlt ∈ S.data.toList := by
          rw [show S[k]'hlt = S.data.toList[k]'(by simpa using hlt) from rfl]
          exact List.getElem_mem _
        have hl : S.data.toList = fieldsB x.kind := by rw [HS.out]
        rw [hl] at hm
        exact hm)
      have hn := fun ty => Lib.run_next_ascii_at (P := Tryd.prog) wr (w.heap.size + 1 + 1 + 1) S k ty hit hlt h128
      have hsn := setAll_snoc x ⟨x.kind, ⟨#[]⟩, ⟨#[]⟩, 0, 0, ⟨#[]⟩⟩ S k hlt
      have d0 := box_iterAt b0 hit (k + 1)
      have d1 := box_iterAt b1 hit (k + 1)
      have d2 := box_iterAt b2 hit (k + 1)
      have hit1 := Lib.iterAt_heap wr (w.heap.size + 1 + 1 + 1) S k (k + 1) hit
      have hb1 := Lib.below_iterAt (k := w.heap.size + 1 + 1 + 1) hbel (by omega) S (k + 1)
      have hm0 := iterPos_of hit
      have HM := Lib.hid hm0
      obtain ⟨W1, hW1⟩ : ∃ W1, W1 = wr.iterAt (w.heap.size + 1 + 1 + 1) S (k + 1) := ⟨_, rfl⟩
      rw [← hW1] at d0 d1 d2 hit1 hb1
      have hn' : ∀ ty, (Instr.next (.pointer (some ⟨w.heap.size + 1 + 1 + 1, 0, none⟩)) true ty).run Tryd.prog wr = .ok (.tuple #[.bool true, .int .i64 k, .int .i32 ((S[k]'hlt).toNat : Int)]) W1 := fun ty => by rw [hW1]; exact hn ty
      clear hn hm0 hW1 b0 b1 b2 hit hbel h128
      generalize (S[k]'hlt).toNat = c at hn' hsn
      generalize setAll x (S.data.toList.take k) ⟨x.kind, ⟨#[]⟩, ⟨#[]⟩, 0, 0, ⟨#[]⟩⟩ = o at d2 hsn
      have HN := Lib.hid hsn
      have HI := Lib.hid hit1
      have HB := Lib.hid hb1
      have D0 := Lib.hid d0
      have D1 := Lib.hid d1
      have D2 := Lib.hid d2
      have f1 := d0.cell 1 _ rfl
      have f2 := d0.cell 2 _ rfl
      have f3 := d0.cell 3 _ rfl
      have f4 := d0.cell 4 _ rfl
      have f5 := d0.cell 5 _ rfl
      have g1 := d2.cell 1 _ rfl
      have g2 := d2.cell 2 _ rfl
      have g3 := d2.cell 3 _ rfl
      have g4 := d2.cell 4 _ rfl
      have g5 := d2.cell 5 _ rfl
      have z1 := d2.free 1
      have z2 := d2.free 2
      have z3 := d2.free 3
      have z4 := d2.free 4
      have z5 := d2.free 5
      clear hsn hit1 hb1 d0 d1 d2
      rcases (show c = 78 ∨ c = 84 ∨ c = 65 ∨ c = 66 ∨ c = 88 ∨ (c ≠ 78 ∧ c ≠ 84 ∧ c ≠ 65 ∧ c ≠ 66 ∧ c ≠ 88) by omega) with rfl | rfl | rfl | rfl | rfl | hno
      · go_wp2
        go_roundw
        case rel => exact ⟨k + 1, by omega, iter_store HI.out (by omega) 1 _, box_other D0.out (by omega) 1 _, box_other D1.out (by omega) 1 _, by rw [HN.out]; exact box_store D2.out 1 (.string x.name), HB.out.trans (Below.setCell (Below.refl _ _) (by show w.heap.size ≤ w.heap.size + 1 + 1; omega) _)⟩
        case measure => rw [HM.out, iterPos_of (iter_store HI.out (by omega) 1 _)]; omega
      · go_wp2
        go_roundw
        case rel => exact ⟨k + 1, by omega, iter_store HI.out (by omega) 2 _, box_other D0.out (by omega) 2 _, box_other D1.out (by omega) 2 _, by rw [HN.out]; exact box_store D2.out 2 (.string x.dest), HB.out.trans (Below.setCell (Below.refl _ _) (by show w.heap.size ≤ w.heap.size + 1 + 1; omega) _)⟩
        case measure => rw [HM.out, iterPos_of (iter_store HI.out (by omega) 2 _)]; omega
      · go_wp2
        go_roundw
        case rel => exact ⟨k + 1, by omega, iter_store HI.out (by omega) 3 _, box_other D0.out (by omega) 3 _, box_other D1.out (by omega) 3 _, by rw [HN.out]; exact box_store D2.out 3 (.int .i64 x.a), HB.out.trans (Below.setCell (Below.refl _ _) (by show w.heap.size ≤ w.heap.size + 1 + 1; omega) _)⟩
        case measure => rw [HM.out, iterPos_of (iter_store HI.out (by omega) 3 _)]; omega
      · go_wp2
        go_roundw
        case rel => exact ⟨k + 1, by omega, iter_store HI.out (by omega) 4 _, box_other D0.out (by omega) 4 _, box_other D1.out (by omega) 4 _, by rw [HN.out]; exact box_store D2.out 4 (.int .i64 x.b), HB.out.trans (Below.setCell (Below.refl _ _) (by show w.heap.size ≤ w.heap.size + 1 + 1; omega) _)⟩
        case measure => rw [HM.out, iterPos_of (iter_store HI.out (by omega) 4 _)]; omega
      · go_wp2
        go_roundw
        case rel => exact ⟨k + 1, by omega, iter_store HI.out (by omega) 5 _, box_other D0.out (by omega) 5 _, box_other D1.out (by omega) 5 _, by rw [HN.out]; exact box_store D2.out 5 (.string x.text), HB.out.trans (Below.setCell (Below.refl _ _) (by show w.heap.size ≤ w.heap.size + 1 + 1; omega) _)⟩
        case measure => rw [HM.out, iterPos_of (iter_store HI.out (by omega) 5 _)]; omega
      · obtain ⟨n1, n2, n3, n4, n5⟩ := hno
        have e1 : ((c : Int) == 78) = false := by simp; omega
        have e2 : ((c : Int) == 84) = false := by simp; omega
        have e3 : ((c : Int) == 65) = false := by simp; omega
        have e4 : ((c : Int) == 66) = false := by simp; omega
        have e5 : ((c : Int) == 88) = false := by simp; omega
        have hs0 : setF c x o = o := by simp [setF, n1, n2, n3, n4, n5]
        have H0 := Lib.hid hs0
        clear hs0 n1 n2 n3 n4 n5
        go_wp2
        go_roundw
        case rel => exact ⟨k + 1, by omega, HI.out, D0.out, D1.out, by rw [HN.out, H0.out]; exact D2.out, HB.out⟩
        case measure => rw [HM.out, iterPos_of HI.out]; omega
    · have he : k = S.size := by omega
      have hn := fun ty => Lib.run_next_end_at (P := Tryd.prog) wr (w.heap.size + 1 + 1 + 1) S k ty hit hlt
      have hall : setAll x (S.data.toList.take k) ⟨x.kind, ⟨#[]⟩, ⟨#[]⟩, 0, 0, ⟨#[]⟩⟩ = toldOf x := by
        rw [List.take_of_length_le (by simp; omega), ← HF.out, HS.out]
      rw [hall] at b2
      have f0 := b2.cell 0 _ rfl
      have f1 := b2.cell 1 _ rfl
      have f2 := b2.cell 2 _ rfl
      have f3 := b2.cell 3 _ rfl
      have f4 := b2.cell 4 _ rfl
      have f5 := b2.cell 5 _ rfl
      have z0 := b1.free 0
      have z1 := b1.free 1
      have z2 := b1.free 2
      have z3 := b1.free 3
      have z4 := b1.free 4
      have z5 := b1.free 5
      have g0 := b1.cell 0 _ rfl
      have g1 := b1.cell 1 _ rfl
      have g2 := b1.cell 2 _ rfl
      have g3 := b1.cell 3 _ rfl
      have g4 := b1.cell 4 _ rfl
      have g5 := b1.cell 5 _ rfl
      have HB := Lib.hid hbel
      clear b0 b1 b2 hall hit hbel he hlt hk
      go_wp2
      exact bodyPost_ret (v := .agg #[.int .i64 (toldOf x).kind, .string (toldOf x).name, .string (toldOf x).dest, .int .i64 (toldOf x).a, .int .i64 (toldOf x).b, .string (toldOf x).text]) (by simp [results, Tryd.results44, go_sem, g0, g1, g2, g3, g4, g5]) rfl ⟨rfl, HB.out.trans (below_of_grown (sets_grown [.int .i64 (toldOf x).kind, .string (toldOf x).name, .string (toldOf x).dest, .int .i64 (toldOf x).a, .int .i64 (toldOf x).b, .string (toldOf x).text] _ (w.heap.size + 1) 0) (by omega) HB.out.size)⟩
end Go.Proofs.YtedbmmoddemngaaDoor
