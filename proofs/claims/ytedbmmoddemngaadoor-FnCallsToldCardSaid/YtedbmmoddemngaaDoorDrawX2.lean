/- Contract of the reference's draw of two calls. Conditions: the bytes came in as a slice. -/
import Derived.Test.YtedbmmoddemngaaDoorDrawX
namespace Go.Proofs.YtedbmmoddemngaaDoor
open Go.ChangeShapes Go.WideShapes Go.ChangeAt Go.RowKit
attribute [local go_sem ↓] Go.wp_at_zero Go.wp_at_succ
theorem Cur.drew {w0 w : World} {c : Nat} (h : Cur w0 w c) : Cur w0 w.drew c := h.below (by repeat (first | exact Below.refl _ _ | refine Below.drew ?_ | refine below_drewN ?_ _ | refine Below.allocC ?_ _ | refine Below.setCell ?_ (by first | (simp; done) | (simp; omega)) _ | refine Below.chain ?_ (by assumption)))
theorem Cur.setCell {w0 w : World} {c b : Nat} (h : Cur w0 w c) (hne : b ≠ c) (hb : w0.heap.size ≤ b) (i : Nat) (v : Value) : Cur w0 (w.setCell ⟨b, i, none⟩ v) c := h.grown (grown_setCell w b i v) hne hb
/-- Two calls drawn from the bytes. -/
def TwoCals (w : World) (e : Ending) (w' : World) : Prop := ∃ v1 v2, e = .returned (.tuple #[v1, v2]) ∧ IsCal v1 w' ∧ IsCal v2 w' ∧ Below w.heap.size w w'
theorem box_sets6 {W : World} {r : Nat} {k : Int} {n d : ByteArray} {a b : Int} {t : ByteArray} {ys : List Value} (h : Box W r ys) (hl : ys.length = 6) : Box (sets W r 0 (fieldsV k n d a b t)) r (fieldsV k n d a b t) := by
  match ys, hl with
  | [y0, y1, y2, y3, y4, y5], _ => exact box_store (box_store (box_store (box_store (box_store (box_store h 0 _) 1 _) 2 _) 3 _) 4 _) 5 _
/-- A cursor over bytes that lay there earlier. -/
def Begun2 (w ww : World) (e : Ending) (w' : World) : Prop := ∃ c, e = .returned (.pointer (some ⟨c, 0, none⟩)) ∧ ww.heap.size ≤ c ∧ Below ww.heap.size ww w' ∧ Cur w w' c
set_option maxRecDepth 100000 in
set_option maxHeartbeats 2000000 in
theorem new2_c (a : Option Addr) (len cap : Nat) (z : List Int) (w ww : World) (hz : IsRow .u8 w a len cap z) (hbw : Below w.heap.size w ww) :
    Calls Tryd.prog 61 #[.slice a len cap] ww (Begun2 w ww) := by
  have HBW := Lib.hid hbw
  have HZW := Lib.hid (rowBelow hz hbw)
  have HZ := Lib.hid hz
  have hlm := hz.2.2.1
  unfold maxLen at hlm
  have HEND := Lib.hid (fun (h : Int) => (show Begun2 w ww (.returned (.pointer (some ⟨ww.heap.size, 0, none⟩))) (ww.alloc (.cells #[.slice a len cap, .int .i64 0, .int .i64 h] 93)) from
    ⟨ww.heap.size, rfl, Nat.le_refl _, (by repeat (first | exact Below.refl _ _ | refine Below.drew ?_ | refine below_drewN ?_ _ | refine Below.allocC ?_ _ | refine Below.setCell ?_ (by first | (simp; done) | (simp; omega)) _ | refine Below.chain ?_ (by assumption))), a, len, cap, z, 0, h, HZ.out, HBW.out.size, HBW.out.trans (Below.mono (show Below ww.heap.size ww (ww.alloc (.cells #[.slice a len cap, .int .i64 0, .int .i64 h] 93)) from (by repeat (first | exact Below.refl _ _ | refine Below.drew ?_ | refine below_drewN ?_ _ | refine Below.allocC ?_ _ | refine Below.setCell ?_ (by first | (simp; done) | (simp; omega)) _ | refine Below.chain ?_ (by assumption)))) HBW.out.size), Nat.zero_le _, heap_alloc_new ww _⟩))
  clear hz hbw
  go_enter Tryd.func61, Tryd.ntmps61
  go_wp2
  go_loop [3, 4] (fun h i => ∃ (hh : Int) (k : Nat), h = .int .i64 hh ∧ i = .int .i64 k ∧ k ≤ len) (fun _ i => len - (intOf i).toNat)
  case atStart => exact ⟨_, 0, rfl, rfl, Nat.zero_le _⟩
  case round =>
    obtain ⟨hh, k, rfl, rfl, hk⟩ := hrel
    have p0 : (0 : Int) ≤ (k : Int) := by omega
    by_cases hlt : k < len
    · have p1 : (k : Int) < (len : Int) := by omega
      by_cases h4 : (k : Int) < 4000
      · obtain ⟨_, hzl, _, hzr, hzo⟩ := HZW.out
        obtain ⟨x, hx⟩ := some_of_lt (xs := z) (k := k) (by omega)
        have hxo := hzo x (List.mem_of_getElem? hx)
        obtain ⟨b, off, hab, ha⟩ : ∃ b off, a = some ⟨b, off, none⟩ ∧ ww.cell? ⟨b, off + k, none⟩ = some (.int .u8 x) := by
          rcases hzr with rfl | ⟨b, off, h1, h2, h3⟩
          · simp at hx
          · exact ⟨b, off, h1, by simpa using h3 k x hx 0 _ rfl⟩
        subst hab
        have x0 := hxo.1
        have x1 := hxo.2
        clear hzl hzr hzo hx hxo
        go_wp2
        go_round
        case rel => exact ⟨_, k + 1, rfl, by go_num, by omega⟩
        case measure => simp [intOf]; omega
      · go_wp2
        go_ret
        exact HEND.out _
    · have p1 : ¬ (k : Int) < (len : Int) := by omega
      go_wp2
      go_ret
      exact HEND.out _
set_option maxRecDepth 100000 in
set_option maxHeartbeats 8000000 in
theorem drawSameCall_c (a0 : Option Addr) (len cap : Nat) (z : List Int) (w : World) (hz : IsRow .u8 w a0 len cap z) :
    Calls Tryd.prog 45 #[.slice a0 len cap] w (TwoCals w) := by
  have K := Lib.hid (new2_c a0 len cap z w ((w.alloc (.cells zeroV.toArray 59)).alloc (.cells zeroV.toArray 59)) hz (by repeat (first | exact Below.refl _ _ | refine Below.drew ?_ | refine below_drewN ?_ _ | refine Below.allocC ?_ _ | refine Below.setCell ?_ (by first | (simp; done) | (simp; omega)) _ | refine Below.chain ?_ (by assumption))))
  have HR1 := Lib.hid ((Box.new w zeroV 59).alloc (.cells zeroV.toArray 59))
  have HR2 := Lib.hid (Box.new (w.alloc (.cells zeroV.toArray 59)) zeroV 59)
  have hsz : (w.alloc (.cells zeroV.toArray 59)).heap.size = w.heap.size + 1 := by simp
  rw [hsz] at HR2
  have hsz2 : ((w.alloc (.cells zeroV.toArray 59)).alloc (.cells zeroV.toArray 59)).heap.size = w.heap.size + 2 := by simp
  have KA := Lib.hid (fun W c (h : Cur w W c) => anyCall_c w W c h)
  have KO := Lib.hid (fun W c (h : Cur w W c) => once_c w W c 2 h (by decide))
  clear hz
  go_enter Tryd.func45, Tryd.ntmps45
  clear hsz
  go_wp2_with fail
  refine K.out.mono ?_
  rintro e w1 ⟨c, rfl, hcg, hbw1, hc1⟩
  clear K
  generalize hww : ((w.alloc (.cells zeroV.toArray 59)).alloc (.cells zeroV.toArray 59)) = ww at *
  clear hww
  have HC1 := Lib.hid hc1
  have hr1c : w.heap.size ≠ c := by omega
  have hr2c : w.heap.size + 1 ≠ c := by omega
  have B1 := Lib.hid (HR1.out.below hbw1)
  have B2 := Lib.hid (HR2.out.below hbw1)
  have hs1 : ww.heap.size ≤ w1.heap.size := hbw1.size
  clear hc1 hbw1 HR1 HR2
  go_wp2_with fail
  refine (KA.out _ _ HC1.out).mono ?_
  rintro e w2 ⟨v, rfl, ⟨k, n, d, a, b, t, rfl, hn, hd, ht⟩, hc2, hg2⟩
  have T1 := Lib.hid hn
  have T2 := Lib.hid hd
  have T3 := Lib.hid ht
  have hs2 : w1.heap.size ≤ w2.heap.size := hg2.size
  have hcl := hc2.lt
  have hbk : w2.heap.size ≠ c := by omega
  have D1 := Lib.hid ((B1.out.grown hg2 hr1c).alloc (.cells (fieldsV k n d a b t).toArray 59))
  have D2 := Lib.hid ((B2.out.grown hg2 hr2c).alloc (.cells (fieldsV k n d a b t).toArray 59))
  have A3 := Lib.hid (Box.new w2 (fieldsV k n d a b t) 59)
  have C3 := Lib.hid (hc2.below (show Below w2.heap.size w2 (w2.alloc (.cells (fieldsV k n d a b t).toArray 59)) from (by repeat (first | exact Below.refl _ _ | refine Below.drew ?_ | refine below_drewN ?_ _ | refine Below.allocC ?_ _ | refine Below.setCell ?_ (by first | (simp; done) | (simp; omega)) _ | refine Below.chain ?_ (by assumption)))))
  have ne1 : w2.heap.size ≠ w.heap.size := by omega
  have ne2 : w2.heap.size ≠ w.heap.size + 1 := by omega
  have ne5 : w.heap.size ≠ w2.heap.size := by omega
  have ne6 : w.heap.size + 1 ≠ w2.heap.size := by omega
  clear B1 B2 HC1 hc2 hg2 hn hd ht
  go_wp2_with fail
  refine (KO.out _ _ C3.out).mono ?_
  rintro e w3 ⟨v, rfl, ⟨bb, rfl⟩, hc3, hg3⟩
  have E := Lib.hid (A3.out.grown hg3 hbk)
  have R1 := Lib.hid (D1.out.grown hg3 hr1c)
  have R2 := Lib.hid (D2.out.grown hg3 hr2c)
  have C4 := Lib.hid hc3
  have HB3 := Lib.hid hc3.base
  clear hc3 hg3 A3 D1 D2 C3
  have E0 : Box w3.drew w2.heap.size (fieldsV k n d a b t) := E.out
  have E1 : Box w3 w2.heap.size (fieldsV k n d a b t) := E.out
  have P1 : Box w3 w.heap.size zeroV := R1.out
  have Q1 : Box w3 (w.heap.size + 1) zeroV := R2.out
  have P0 : Box w3.drew w.heap.size zeroV := R1.out
  have Q0 : Box w3.drew (w.heap.size + 1) zeroV := R2.out
  have fc0 : ∀ W, Box W (w2.heap.size) (fieldsV k n d a b t) → W.cell? ⟨w2.heap.size, 0, none⟩ = some (.int .i64 k) := fun W h => h.cell 0 _ rfl
  have fc1 : ∀ W, Box W (w2.heap.size) (fieldsV k n d a b t) → W.cell? ⟨w2.heap.size, 1, none⟩ = some (.string n) := fun W h => h.cell 1 _ rfl
  have fc2 : ∀ W, Box W (w2.heap.size) (fieldsV k n d a b t) → W.cell? ⟨w2.heap.size, 2, none⟩ = some (.string d) := fun W h => h.cell 2 _ rfl
  have fc3 : ∀ W, Box W (w2.heap.size) (fieldsV k n d a b t) → W.cell? ⟨w2.heap.size, 3, none⟩ = some (.int .i64 a) := fun W h => h.cell 3 _ rfl
  have fc4 : ∀ W, Box W (w2.heap.size) (fieldsV k n d a b t) → W.cell? ⟨w2.heap.size, 4, none⟩ = some (.int .i64 b) := fun W h => h.cell 4 _ rfl
  have fc5 : ∀ W, Box W (w2.heap.size) (fieldsV k n d a b t) → W.cell? ⟨w2.heap.size, 5, none⟩ = some (.string t) := fun W h => h.cell 5 _ rfl
  have pc0 : ∀ W, Box W (w.heap.size) zeroV → W.cell? ⟨w.heap.size, 0, none⟩ = some (.int .i64 0) := fun W h => h.cell 0 _ rfl
  have pf0 : ∀ W, Box W (w.heap.size) zeroV → W.frozen? ⟨w.heap.size, 0, none⟩ = false := fun W h => h.free 0
  have pc1 : ∀ W, Box W (w.heap.size) zeroV → W.cell? ⟨w.heap.size, 1, none⟩ = some (.string ⟨#[]⟩) := fun W h => h.cell 1 _ rfl
  have pf1 : ∀ W, Box W (w.heap.size) zeroV → W.frozen? ⟨w.heap.size, 1, none⟩ = false := fun W h => h.free 1
  have pc2 : ∀ W, Box W (w.heap.size) zeroV → W.cell? ⟨w.heap.size, 2, none⟩ = some (.string ⟨#[]⟩) := fun W h => h.cell 2 _ rfl
  have pf2 : ∀ W, Box W (w.heap.size) zeroV → W.frozen? ⟨w.heap.size, 2, none⟩ = false := fun W h => h.free 2
  have pc3 : ∀ W, Box W (w.heap.size) zeroV → W.cell? ⟨w.heap.size, 3, none⟩ = some (.int .i64 0) := fun W h => h.cell 3 _ rfl
  have pf3 : ∀ W, Box W (w.heap.size) zeroV → W.frozen? ⟨w.heap.size, 3, none⟩ = false := fun W h => h.free 3
  have pc4 : ∀ W, Box W (w.heap.size) zeroV → W.cell? ⟨w.heap.size, 4, none⟩ = some (.int .i64 0) := fun W h => h.cell 4 _ rfl
  have pf4 : ∀ W, Box W (w.heap.size) zeroV → W.frozen? ⟨w.heap.size, 4, none⟩ = false := fun W h => h.free 4
  have pc5 : ∀ W, Box W (w.heap.size) zeroV → W.cell? ⟨w.heap.size, 5, none⟩ = some (.string ⟨#[]⟩) := fun W h => h.cell 5 _ rfl
  have pf5 : ∀ W, Box W (w.heap.size) zeroV → W.frozen? ⟨w.heap.size, 5, none⟩ = false := fun W h => h.free 5
  have ppc0 : ∀ W, Box W (w.heap.size) (fieldsV k n d a b t) → W.cell? ⟨w.heap.size, 0, none⟩ = some (.int .i64 k) := fun W h => h.cell 0 _ rfl
  have ppc1 : ∀ W, Box W (w.heap.size) (fieldsV k n d a b t) → W.cell? ⟨w.heap.size, 1, none⟩ = some (.string n) := fun W h => h.cell 1 _ rfl
  have ppc2 : ∀ W, Box W (w.heap.size) (fieldsV k n d a b t) → W.cell? ⟨w.heap.size, 2, none⟩ = some (.string d) := fun W h => h.cell 2 _ rfl
  have ppc3 : ∀ W, Box W (w.heap.size) (fieldsV k n d a b t) → W.cell? ⟨w.heap.size, 3, none⟩ = some (.int .i64 a) := fun W h => h.cell 3 _ rfl
  have ppc4 : ∀ W, Box W (w.heap.size) (fieldsV k n d a b t) → W.cell? ⟨w.heap.size, 4, none⟩ = some (.int .i64 b) := fun W h => h.cell 4 _ rfl
  have ppc5 : ∀ W, Box W (w.heap.size) (fieldsV k n d a b t) → W.cell? ⟨w.heap.size, 5, none⟩ = some (.string t) := fun W h => h.cell 5 _ rfl
  have qc0 : ∀ W, Box W (w.heap.size + 1) zeroV → W.cell? ⟨w.heap.size + 1, 0, none⟩ = some (.int .i64 0) := fun W h => h.cell 0 _ rfl
  have qf0 : ∀ W, Box W (w.heap.size + 1) zeroV → W.frozen? ⟨w.heap.size + 1, 0, none⟩ = false := fun W h => h.free 0
  have qc1 : ∀ W, Box W (w.heap.size + 1) zeroV → W.cell? ⟨w.heap.size + 1, 1, none⟩ = some (.string ⟨#[]⟩) := fun W h => h.cell 1 _ rfl
  have qf1 : ∀ W, Box W (w.heap.size + 1) zeroV → W.frozen? ⟨w.heap.size + 1, 1, none⟩ = false := fun W h => h.free 1
  have qc2 : ∀ W, Box W (w.heap.size + 1) zeroV → W.cell? ⟨w.heap.size + 1, 2, none⟩ = some (.string ⟨#[]⟩) := fun W h => h.cell 2 _ rfl
  have qf2 : ∀ W, Box W (w.heap.size + 1) zeroV → W.frozen? ⟨w.heap.size + 1, 2, none⟩ = false := fun W h => h.free 2
  have qc3 : ∀ W, Box W (w.heap.size + 1) zeroV → W.cell? ⟨w.heap.size + 1, 3, none⟩ = some (.int .i64 0) := fun W h => h.cell 3 _ rfl
  have qf3 : ∀ W, Box W (w.heap.size + 1) zeroV → W.frozen? ⟨w.heap.size + 1, 3, none⟩ = false := fun W h => h.free 3
  have qc4 : ∀ W, Box W (w.heap.size + 1) zeroV → W.cell? ⟨w.heap.size + 1, 4, none⟩ = some (.int .i64 0) := fun W h => h.cell 4 _ rfl
  have qf4 : ∀ W, Box W (w.heap.size + 1) zeroV → W.frozen? ⟨w.heap.size + 1, 4, none⟩ = false := fun W h => h.free 4
  have qc5 : ∀ W, Box W (w.heap.size + 1) zeroV → W.cell? ⟨w.heap.size + 1, 5, none⟩ = some (.string ⟨#[]⟩) := fun W h => h.cell 5 _ rfl
  have qf5 : ∀ W, Box W (w.heap.size + 1) zeroV → W.frozen? ⟨w.heap.size + 1, 5, none⟩ = false := fun W h => h.free 5
  cases bb
  · go_wp2_with fail
    go_region_held3 (fun w' => Box w' w2.heap.size (fieldsV k n d a b t)) (((repeat (first | with_reducible refine Box.drew ?_ | with_reducible refine box_other ?_ (by first | exact ne1 | exact ne2) _ _)); with_reducible assumption)) (first | (go_at_call 75; refine (KA.out _ c (by (repeat (first | with_reducible refine Cur.drew ?_ | with_reducible refine Cur.setCell ?_ hr1c (Nat.le_refl _) _ _)); with_reducible exact C4.out)).mono ?_; rintro e w4 ⟨v, rfl, ⟨k2, n2, d2, a2, b2, t2, rfl, hn2, hd2, ht2⟩, hc4, hg4⟩; have E4 : Box w4 w2.heap.size (fieldsV k n d a b t) := Box.grown (by with_reducible assumption) hg4 hbk; (first | (with_reducible have R14 : Box w4 w.heap.size zeroV := Box.grown P0 hg4 hr1c) | (have R14 : Box w4 w.heap.size (fieldsV k n d a b t) := Box.grown (Box.drew (box_sets6 (k := k) (n := n) (d := d) (a := a) (b := b) (t := t) P1 rfl)) hg4 hr1c)); have R24 : Box w4 (w.heap.size + 1) zeroV := Box.grown (by (repeat (first | with_reducible refine Box.drew ?_ | with_reducible refine box_other ?_ (by omega) _ _)); with_reducible exact Q1) hg4 hr2c))
    all_goals
      go_wp2
      exact bodyPost_ret (v := .tuple #[.agg #[.int .i64 k, .string n, .string d, .int .i64 a, .int .i64 b, .string t], .agg #[.int .i64 k2, .string n2, .string d2, .int .i64 a2, .int .i64 b2, .string t2]]) (by simp [results, Tryd.results45, go_sem, *]) rfl ⟨_, _, rfl, ⟨k, n, d, a, b, t, rfl, T1.out, T2.out, T3.out⟩, ⟨k2, n2, d2, a2, b2, t2, rfl, hn2, hd2, ht2⟩, (by (repeat (first | with_reducible refine Below.drew ?_ | with_reducible refine Below.setCell ?_ (by simp) _)); with_reducible exact hc4.base)⟩
  · go_wp2_with fail
    go_region_held3 (fun w' => Box w' w2.heap.size (fieldsV k n d a b t)) (((repeat (first | with_reducible refine Box.drew ?_ | with_reducible refine box_other ?_ (by first | exact ne1 | exact ne2) _ _)); with_reducible assumption)) (fail)
    all_goals
      go_wp2
      exact bodyPost_ret (v := .tuple #[.agg #[.int .i64 k, .string n, .string d, .int .i64 a, .int .i64 b, .string t], .agg #[.int .i64 k, .string n, .string d, .int .i64 a, .int .i64 b, .string t]]) (by simp [results, Tryd.results45, go_sem, *]) rfl ⟨_, _, rfl, ⟨k, n, d, a, b, t, rfl, T1.out, T2.out, T3.out⟩, ⟨k, n, d, a, b, t, rfl, T1.out, T2.out, T3.out⟩, (by (repeat (first | with_reducible refine Below.drew ?_ | with_reducible refine Below.setCell ?_ (by simp) _)); with_reducible exact HB3.out)⟩
end Go.Proofs.YtedbmmoddemngaaDoor
