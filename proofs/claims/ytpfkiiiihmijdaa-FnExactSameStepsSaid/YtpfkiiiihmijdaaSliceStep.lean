/- Contracts for the laws' helpers on slices of Step: szStepS counts, eqStepS compares. Conditions: only the bounds that any Go string and slice meets. -/
import Derived.Test.YtpfkiiiihmijdaaProg
import Derived.WalkKit
import Derived.WalkSpells
import Derived.WalkLawsBesides
import Derived.Test.YtpfkiiiihmijdaaOwn
import Derived.Test.YtpfkiiiihmijdaaElemStep
import Derived.Lib.Hide
import Derived.Deep.RegionHeld3
import Derived.Deep.DrawnRows
namespace Go.Proofs.Ytpfkiiiihmijdaa
open Go.RowKit
attribute [local go_sem ↓] Go.wp_at_zero Go.wp_at_succ

theorem readStep {w wr : World} {a : Option Addr} {xs : List Stp} (hr : Reads w a 7 encStp xs) (hb : Below w.heap.size w wr) {k : Nat} {x : Stp} (hx : xs[k]? = some x) :
    ∃ b off, a = some ⟨b, off, none⟩ ∧ wr.cell? ⟨b, off + k * 7, none⟩ = some (.int .i64 x.proc) ∧ wr.cell? ⟨b, off + k * 7 + 1, none⟩ = some (.int .i64 x.call.kind) ∧ wr.cell? ⟨b, off + k * 7 + 2, none⟩ = some (.string x.call.name) ∧ wr.cell? ⟨b, off + k * 7 + 3, none⟩ = some (.string x.call.dest) ∧ wr.cell? ⟨b, off + k * 7 + 4, none⟩ = some (.int .i64 x.call.a) ∧ wr.cell? ⟨b, off + k * 7 + 5, none⟩ = some (.int .i64 x.call.b) ∧ wr.cell? ⟨b, off + k * 7 + 6, none⟩ = some (.string x.call.text) := by
  rcases hr.below hb with rfl | ⟨b, off, h1, _, h3⟩
  · simp at hx
  · exact ⟨b, off, h1, by simpa [Nat.add_assoc] using h3 k x hx 0 _ rfl, by simpa [Nat.add_assoc] using h3 k x hx 1 _ rfl, by simpa [Nat.add_assoc] using h3 k x hx 2 _ rfl, by simpa [Nat.add_assoc] using h3 k x hx 3 _ rfl, by simpa [Nat.add_assoc] using h3 k x hx 4 _ rfl, by simpa [Nat.add_assoc] using h3 k x hx 5 _ rfl, by simpa [Nat.add_assoc] using h3 k x hx 6 _ rfl⟩

set_option maxHeartbeats 1000000 in
theorem szStepS_c (a : Option Addr) (cap : Nat) (xs : List Stp) (left : Int) (l0 : 0 ≤ left) (l1 : left ≤ 1048576) (w : World) (hlen : xs.length ≤ maxLen) (hr : Reads w a 7 encStp xs) (hok : ∀ x ∈ xs, okStp x) :
    Calls Try.prog 49 #[.slice a xs.length cap, .int .i64 left] w fun e w' => e = .returned (.int .i64 (szSub left (bulkL bulkP xs))) ∧ Below w.heap.size w w' := by
  have HR := Lib.hid hr
  have HO := Lib.hid hok
  clear hr hok
  unfold maxLen at hlen
  by_cases h1 : left < xs.length
  · have HS := Lib.hid (szSub_no (left := left) (n := bulkL bulkP xs) (by have := bulkL_ge bulkP xs; omega))
    clear HR HO
    go_enter Try.func49, Try.ntmps49
    go_wp2
    go_ret
    exact ⟨by rw [HS.out]; rfl, (by repeat (first | exact Below.refl _ _ | assumption | refine Below.alloc ?_ (by simp <;> omega) _ | refine Below.setCell ?_ (by simp <;> omega) _ | refine Below.drew ?_))⟩
  · have h1' : (xs.length : Int) ≤ left := by omega
    clear h1
    go_enter Try.func49, Try.ntmps49
    go_wp2
    go_loopw [1, 5] (fun l i wr => ∃ k : Nat, k ≤ xs.length ∧ i = .int .i64 k ∧ (bulkUp bulkP xs k : Int) ≤ left ∧ l = .int .i64 (left - bulkUp bulkP xs k) ∧ Below w.heap.size w wr) (fun _ i _ => xs.length - (intOf i).toNat)
    case atStart => exact ⟨0, Nat.zero_le _, rfl, by rw [bulkUp_zero]; exact h1', by rw [bulkUp_zero], (by repeat (first | exact Below.refl _ _ | assumption | refine Below.alloc ?_ (by simp <;> omega) _ | refine Below.setCell ?_ (by simp <;> omega) _ | refine Below.drew ?_))⟩
    case round =>
      obtain ⟨k, hk, rfl, hle, rfl, hb⟩ := hrel
      by_cases hlt : k < xs.length
      · obtain ⟨x, hx⟩ := some_of_lt hlt
        obtain ⟨b, off, rfl, c0, c1, c2, c3, c4, c5, c6⟩ := readStep HR.out hb hx
        have hokx := HO.out x (mem_of_some hx)
        by_cases hfit : (bulkP x : Int) ≤ left - bulkUp bulkP xs k
        · have HY := Lib.hid (szSub_yes hfit)
          have HU := Lib.hid (bulkUp_succ (f := bulkP) hx)
          clear hx
          go_wp2_with fail
          refine (szStep_c x _ (by omega) (by omega) hokx.2.2.2.2.1 hokx.2.2.2.2.2.1 hokx.2.2.2.2.2.2 _).mono ?_
          rintro e w2 ⟨rfl, hb2⟩
          rw [HY.out]
          go_wp2
          go_roundw
          case rel => exact ⟨k + 1, by omega, by go_num, by rw [HU.out]; omega, by rw [HU.out]; exact congrArg (Value.int .i64) (by omega), (by repeat (first | exact Below.refl _ _ | refine Below.drew ?_ | refine Below.allocC ?_ _ | refine Below.setCell ?_ (by first | (simp; done) | (simp; omega)) _ | refine Below.chain ?_ (by assumption)))⟩
          case measure => simp [intOf]; omega
        · have HY := Lib.hid (szSub_no (left := left - bulkUp bulkP xs k) (n := bulkP x) (by omega))
          have HN := Lib.hid (szSub_no (left := left) (n := bulkL bulkP xs) (by have := bulkUp_succ (f := bulkP) hx; have := bulkUp_le bulkP xs (k + 1); omega))
          clear hx
          go_wp2_with fail
          refine (szStep_c x _ (by omega) (by omega) hokx.2.2.2.2.1 hokx.2.2.2.2.2.1 hokx.2.2.2.2.2.2 _).mono ?_
          rintro e w2 ⟨rfl, hb2⟩
          rw [HY.out]
          go_wp2
          go_ret
          exact ⟨by rw [HN.out]; rfl, (by repeat (first | exact Below.refl _ _ | refine Below.drew ?_ | refine Below.allocC ?_ _ | refine Below.setCell ?_ (by first | (simp; done) | (simp; omega)) _ | refine Below.chain ?_ (by assumption)))⟩
      · have HS := Lib.hid (szSub_yes (left := left) (n := bulkL bulkP xs) (by rw [← bulkUp_end (k := k) (by omega)]; exact hle))
        have HE := Lib.hid (bulkUp_end (f := bulkP) (xs := xs) (k := k) (by omega))
        go_wp2
        go_ret
        exact ⟨by rw [HS.out, ← HE.out]; rfl, hb⟩

set_option maxHeartbeats 2000000 in
theorem eqStepS_c (a a2 : Option Addr) (cap cap2 : Nat) (xs ys : List Stp) (w : World) (hlen : xs.length ≤ maxLen) (hr : Reads w a 7 encStp xs) (hr2 : Reads w a2 7 encStp ys) :
    Calls Try.prog 53 #[.slice a xs.length cap, .slice a2 ys.length cap2] w fun e w' => e = .returned (.bool (same xs ys)) ∧ Below w.heap.size w w' := by
  have HR := Lib.hid hr
  have HR2 := Lib.hid hr2
  clear hr hr2
  unfold maxLen at hlen
  by_cases h1 : xs.length = ys.length
  · have HE := Lib.hid h1
    have hq : ((xs.length : Int) != (ys.length : Int)) = false := by simp [h1]
    have h1' : ys.length ≤ xs.length := by omega
    have h1'' : xs.length ≤ ys.length := by omega
    clear h1
    go_enter Try.func53, Try.ntmps53
    go_wp2
    go_loopw [5] (fun i wr => ∃ k : Nat, k ≤ xs.length ∧ i = .int .i64 k ∧ upTo xs ys k ∧ Below w.heap.size w wr) (fun i _ => xs.length - (intOf i).toNat)
    case atStart => exact ⟨0, Nat.zero_le _, rfl, upTo_zero _ _, (by repeat (first | exact Below.refl _ _ | assumption | refine Below.alloc ?_ (by simp <;> omega) _ | refine Below.setCell ?_ (by simp <;> omega) _ | refine Below.drew ?_))⟩
    case round =>
      obtain ⟨k, hk, rfl, hup, hb⟩ := hrel
      by_cases hlt : k < xs.length
      · obtain ⟨x, hx⟩ := some_of_lt hlt
        obtain ⟨y, hy⟩ := some_of_lt (xs := ys) (k := k) (by omega)
        obtain ⟨b, off, rfl, c0, c1, c2, c3, c4, c5, c6⟩ := readStep HR.out hb hx
        obtain ⟨b2, off2, rfl, d0, d1, d2, d3, d4, d5, d6⟩ := readStep HR2.out hb hy
        have p1 : (0 : Int) ≤ (k : Int) := by omega
        have p2 : (k : Int) < (xs.length : Int) := by omega
        have p3 : (k : Int) < (ys.length : Int) := by omega
        cases hxy : same x y
        · have HN := Lib.hid (same_at hx hy hxy)
          clear hx hy
          go_wp2_with fail
          go_region_held3 (fun w' => w'.cell? ⟨b, off + k * 7, none⟩ = some (.int .i64 x.proc) ∧ w'.cell? ⟨b, off + k * 7 + 1, none⟩ = some (.int .i64 x.call.kind) ∧ w'.cell? ⟨b, off + k * 7 + 2, none⟩ = some (.string x.call.name) ∧ w'.cell? ⟨b, off + k * 7 + 3, none⟩ = some (.string x.call.dest) ∧ w'.cell? ⟨b, off + k * 7 + 4, none⟩ = some (.int .i64 x.call.a) ∧ w'.cell? ⟨b, off + k * 7 + 5, none⟩ = some (.int .i64 x.call.b) ∧ w'.cell? ⟨b, off + k * 7 + 6, none⟩ = some (.string x.call.text) ∧ w'.cell? ⟨b2, off2 + k * 7, none⟩ = some (.int .i64 y.proc) ∧ w'.cell? ⟨b2, off2 + k * 7 + 1, none⟩ = some (.int .i64 y.call.kind) ∧ w'.cell? ⟨b2, off2 + k * 7 + 2, none⟩ = some (.string y.call.name) ∧ w'.cell? ⟨b2, off2 + k * 7 + 3, none⟩ = some (.string y.call.dest) ∧ w'.cell? ⟨b2, off2 + k * 7 + 4, none⟩ = some (.int .i64 y.call.a) ∧ w'.cell? ⟨b2, off2 + k * 7 + 5, none⟩ = some (.int .i64 y.call.b) ∧ w'.cell? ⟨b2, off2 + k * 7 + 6, none⟩ = some (.string y.call.text)) ((go_split_ands; (repeat' apply And.intro) <;> first | assumption | exact keepS (by assumption) (by assumption)))
            (first | (go_at_call 78; refine (eqStep_c x y _).mono ?_; rintro e w' ⟨rfl, hb3⟩))
          try rw [hxy]
          go_wp2
          go_ret
          exact ⟨by rw [HN.out]; rfl, (by repeat (first | exact Below.refl _ _ | refine Below.drew ?_ | refine Below.allocC ?_ _ | refine Below.setCell ?_ (by first | (simp; done) | (simp; omega)) _ | refine Below.chain ?_ (by assumption)))⟩
        · have hs := upTo_succ hup hx hy hxy
          clear hx hy
          go_wp2_with fail
          go_region_held3 (fun w' => w'.cell? ⟨b, off + k * 7, none⟩ = some (.int .i64 x.proc) ∧ w'.cell? ⟨b, off + k * 7 + 1, none⟩ = some (.int .i64 x.call.kind) ∧ w'.cell? ⟨b, off + k * 7 + 2, none⟩ = some (.string x.call.name) ∧ w'.cell? ⟨b, off + k * 7 + 3, none⟩ = some (.string x.call.dest) ∧ w'.cell? ⟨b, off + k * 7 + 4, none⟩ = some (.int .i64 x.call.a) ∧ w'.cell? ⟨b, off + k * 7 + 5, none⟩ = some (.int .i64 x.call.b) ∧ w'.cell? ⟨b, off + k * 7 + 6, none⟩ = some (.string x.call.text) ∧ w'.cell? ⟨b2, off2 + k * 7, none⟩ = some (.int .i64 y.proc) ∧ w'.cell? ⟨b2, off2 + k * 7 + 1, none⟩ = some (.int .i64 y.call.kind) ∧ w'.cell? ⟨b2, off2 + k * 7 + 2, none⟩ = some (.string y.call.name) ∧ w'.cell? ⟨b2, off2 + k * 7 + 3, none⟩ = some (.string y.call.dest) ∧ w'.cell? ⟨b2, off2 + k * 7 + 4, none⟩ = some (.int .i64 y.call.a) ∧ w'.cell? ⟨b2, off2 + k * 7 + 5, none⟩ = some (.int .i64 y.call.b) ∧ w'.cell? ⟨b2, off2 + k * 7 + 6, none⟩ = some (.string y.call.text)) ((go_split_ands; (repeat' apply And.intro) <;> first | assumption | exact keepS (by assumption) (by assumption)))
            (first | (go_at_call 78; refine (eqStep_c x y _).mono ?_; rintro e w' ⟨rfl, hb3⟩))
          try rw [hxy]
          go_wp2
          go_roundw
          case rel => exact ⟨k + 1, by omega, by go_num, hs, (by repeat (first | exact Below.refl _ _ | refine Below.drew ?_ | refine Below.allocC ?_ _ | refine Below.setCell ?_ (by first | (simp; done) | (simp; omega)) _ | refine Below.chain ?_ (by assumption)))⟩
          case measure => simp [intOf]; omega
      · have HS := Lib.hid (same_end hup (by omega) (by omega))
        go_wp2
        go_ret
        exact ⟨by rw [HS.out]; rfl, hb⟩
  · have HS := Lib.hid (same_len h1)
    have hq : ((xs.length : Int) != (ys.length : Int)) = true := by simp; omega
    clear h1
    go_enter Try.func53, Try.ntmps53
    go_wp2
    go_ret
    exact ⟨by rw [HS.out]; rfl, (by repeat (first | exact Below.refl _ _ | assumption | refine Below.alloc ?_ (by simp <;> omega) _ | refine Below.setCell ?_ (by simp <;> omega) _ | refine Below.drew ?_))⟩

theorem infoStep : (Try.prog.info? 86).map (fun i => (i.zero, i.size, i.bytes)) = some (some (.agg #[.int .i64 0, .int .i64 0, .string ⟨#[]⟩, .string ⟨#[]⟩, .int .i64 0, .int .i64 0, .string ⟨#[]⟩]), 7, 80) := by kernel_rfl
set_option maxHeartbeats 2000000 in
theorem toStepS_c (a : Option Addr) (cap : Nat) (xs : List Stp) (w : World) (hlen : xs.length ≤ 1048576) (hr : Reads w a 7 encStp xs) :
    Calls Try.prog 51 #[.slice a xs.length cap] w (Fresh 86 7 (xs.flatMap encStp) xs.length w) := by
  have HR := Lib.hid hr
  clear hr
  have hmk := make_eq (P := Try.prog) 61 86 7 80 _ Try.underlying61 infoStep xs.length (by omega) (by omega)
  go_enter Try.func51, Try.ntmps51
  go_wp2
  go_loopw [4] (fun i wr => ∃ k : Nat, k ≤ xs.length ∧ i = .int .i64 k ∧ Filling wr w.heap.size 86 7 xs.length ((xs.take k).flatMap encStp) ∧ Below w.heap.size w wr) (fun i _ => xs.length - (intOf i).toNat)
  case atStart => exact ⟨0, Nat.zero_le _, rfl, by simpa using Filling.made w _ _ 7 xs.length, (by repeat (first | exact Below.refl _ _ | refine Below.drew ?_ | refine Below.allocC ?_ _ | refine Below.setCell ?_ (by first | (simp; done) | (simp; omega)) _ | refine Below.chain ?_ (by assumption)))⟩
  case round =>
    obtain ⟨k, hk, rfl, F, hb⟩ := hrel
    clear hmk
    by_cases hlt : k < xs.length
    · obtain ⟨x, hx⟩ := some_of_lt hlt
      obtain ⟨b, off, rfl, c0, c1, c2, c3, c4, c5, c6⟩ := readStep HR.out hb hx
      have hfm := Lib.hid (flatMap_snoc (enc := encStp) hx)
      have hdl : ((xs.take k).flatMap encStp).length = k * 7 := by rw [length_flatMap_const encStp_len, List.length_take, Nat.min_eq_left (by omega)]
      have HD := Lib.hid hdl
      clear hx hdl
      go_wp2_with fail
      refine (toStep_c x _).mono ?_
      rintro e w2 ⟨rfl, hb2'⟩
      have hb2 := Below.chain hb hb2'
      have F2 := F.below hb2'
      have F3 := F2.stores [.int .i64 x.proc, .int .i64 x.call.kind, .string x.call.name, .string x.call.dest, .int .i64 x.call.a, .int .i64 x.call.b, .string x.call.text] (k * 7) HD.out.symm (by rw [HD.out]; simp; omega)
      have H3 := Lib.hid F3
      have D2 := Lib.hid hb2
      have hB := Lib.hid (below_of_grown (sets_grown [.int .i64 x.proc, .int .i64 x.call.kind, .string x.call.name, .string x.call.dest, .int .i64 x.call.a, .int .i64 x.call.b, .string x.call.text] w2 w.heap.size (k * 7)) (Nat.le_refl w.heap.size) hb2.size)
      have f0 := F2.free (k * 7)
      obtain ⟨o0, z0⟩ := F2.cell (k * 7) (by omega)
      have f1 := F2.free (k * 7 + 1)
      obtain ⟨o1, z1⟩ := F2.cell (k * 7 + 1) (by omega)
      have f2 := F2.free (k * 7 + 2)
      obtain ⟨o2, z2⟩ := F2.cell (k * 7 + 2) (by omega)
      have f3 := F2.free (k * 7 + 3)
      obtain ⟨o3, z3⟩ := F2.cell (k * 7 + 3) (by omega)
      have f4 := F2.free (k * 7 + 4)
      obtain ⟨o4, z4⟩ := F2.cell (k * 7 + 4) (by omega)
      have f5 := F2.free (k * 7 + 5)
      obtain ⟨o5, z5⟩ := F2.cell (k * 7 + 5) (by omega)
      have f6 := F2.free (k * 7 + 6)
      obtain ⟨o6, z6⟩ := F2.cell (k * 7 + 6) (by omega)
      clear F F2 F3
      go_wp2
      go_roundw
      case rel => exact ⟨k + 1, by omega, by go_num, by rw [hfm.out]; exact H3.out, D2.out.trans hB.out⟩
      case measure => simp [intOf]; omega
    · have hd : (xs.take k).flatMap encStp = xs.flatMap encStp := by rw [List.take_of_length_le (by omega)]
      rw [hd] at F
      have hO := Lib.hid (F.owns (base := w.heap.size) (length_flatMap_const encStp_len xs) (Nat.le_refl _) (by unfold maxLen; omega))
      clear F hd
      go_wp2
      go_ret
      exact ⟨_, rfl, hO.out, hb⟩

end Go.Proofs.Ytpfkiiiihmijdaa
