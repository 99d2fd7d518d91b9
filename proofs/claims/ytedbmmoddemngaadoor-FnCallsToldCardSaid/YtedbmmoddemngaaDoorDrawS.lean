/- Contracts of the reference's draws: a cursor is begun; texts, keys and spans are drawn. Conditions: the bytes came in as a slice; the cursor is the run's own. -/
import Derived.Test.YtedbmmoddemngaaDoorBytes
import Derived.Test.YtedbmmoddemngaaDoorHex
namespace Go.Proofs.YtedbmmoddemngaaDoor
open Go.ChangeShapes Go.WideShapes Go.ChangeAt Go.RowKit
attribute [local go_sem ↓] Go.wp_at_zero Go.wp_at_succ
/-- A cursor over the bytes. -/
def Begun (w : World) (e : Ending) (w' : World) : Prop := ∃ c, e = .returned (.pointer (some ⟨c, 0, none⟩)) ∧ Cur w w' c
set_option maxRecDepth 100000 in
set_option maxHeartbeats 2000000 in
theorem new_c (a : Option Addr) (len cap : Nat) (z : List Int) (w : World) (hz : IsRow .u8 w a len cap z) :
    Calls Tryd.prog 61 #[.slice a len cap] w (Begun w) := by
  have HZ := Lib.hid hz
  have hlm := hz.2.2.1
  unfold maxLen at hlm
  have HEND := Lib.hid (fun (h : Int) => (show Begun w (.returned (.pointer (some ⟨w.heap.size, 0, none⟩))) (w.alloc (.cells #[.slice a len cap, .int .i64 0, .int .i64 h] 93)) from
    ⟨w.heap.size, rfl, a, len, cap, z, 0, h, HZ.out, Nat.le_refl _, (by repeat (first | exact Below.refl _ _ | refine Below.drew ?_ | refine below_drewN ?_ _ | refine Below.allocC ?_ _ | refine Below.setCell ?_ (by first | (simp; done) | (simp; omega)) _ | refine Below.chain ?_ (by assumption))), Nat.zero_le _, heap_alloc_new w _⟩))
  clear hz
  go_enter Tryd.func61, Tryd.ntmps61
  go_wp2
  go_loop [3, 4] (fun h i => ∃ (hh : Int) (k : Nat), h = .int .i64 hh ∧ i = .int .i64 k ∧ k ≤ len) (fun _ i => len - (intOf i).toNat)
  case atStart => exact ⟨_, 0, rfl, rfl, Nat.zero_le _⟩
  case round =>
    obtain ⟨hh, k, rfl, rfl, hk⟩ := hrel
    have p0 : (0 : Int) ≤ (k : Int) := by omega
    by_cases hlt : k < len
    · have p1 : (k : Int) < (len : Int) := by omega
      by_cases h4 : (k : Int) < 4000
      · obtain ⟨_, hzl, _, hzr, hzo⟩ := HZ.out
        obtain ⟨x, hx⟩ := some_of_lt (xs := z) (k := k) (by omega)
        have hxo := hzo x (List.mem_of_getElem? hx)
        obtain ⟨b, off, hab, ha⟩ : ∃ b off, a = some ⟨b, off, none⟩ ∧ w.cell? ⟨b, off + k, none⟩ = some (.int .u8 x) := by
          rcases hzr with rfl | ⟨b, off, h1, h2, h3⟩
          · simp at hx
          · exact ⟨b, off, h1, by simpa using h3 k x hx 0 _ rfl⟩
        subst hab
        have x0 := hxo.1
        have x1 := hxo.2
        clear hzl hzr hzo hx hxo
        go_wp2
        go_round
        case rel => exact ⟨_, k + 1, rfl, by go_num, by omega⟩
        case measure => simp [intOf]; omega
      · go_wp2
        go_ret
        exact HEND.out _
    · have p1 : ¬ (k : Int) < (len : Int) := by omega
      go_wp2
      go_ret
      exact HEND.out _
/-- A text of at most n bytes. -/
def IsText (n : Nat) (v : Value) (_ : World) : Prop := ∃ s : ByteArray, v = .string s ∧ s.size ≤ n
/-- The spans that are drawn. -/
def spanList : List ByteArray := [⟨#[97]⟩, ⟨#[98]⟩, ⟨#[110, 47, 120]⟩, ⟨#[110, 47, 121]⟩, ⟨#[110, 47, 121, 121]⟩, ⟨#[110, 47, 42]⟩, ⟨#[110, 47, 121, 42]⟩, ⟨#[105, 47, 49, 47, 42]⟩, ⟨#[105, 47, 49, 47, 115]⟩, ⟨#[105, 47, 42]⟩, ⟨#[42]⟩, ⟨#[105, 47, 49, 50, 47, 115]⟩]
def keyList : List ByteArray := [⟨#[97]⟩, ⟨#[98]⟩, ⟨#[110, 47, 120]⟩, ⟨#[110, 47, 121]⟩, ⟨#[110, 47, 121, 121]⟩, ⟨#[105, 47, 49, 47, 115]⟩, ⟨#[105, 47, 49, 47, 98, 47, 48]⟩, ⟨#[105, 47, 49, 50, 47, 115]⟩, ⟨#[99, 47, 112, 105, 112, 101]⟩, ⟨#[112, 47, 49, 47, 104]⟩]
/-- A row of texts just made. -/
theorem reads_new (w : World) (xs : List ByteArray) (T : TypeId) : Reads (w.alloc (.cells (xs.flatMap encS).toArray T)) (some ⟨w.heap.size, 0, none⟩) 1 encS xs :=
  .inr ⟨w.heap.size, 0, rfl, by simp, fun i x hx j v hv => by
    have hj : j = 0 := by
      have := (List.getElem?_eq_some_iff.1 hv).1
      simp [encS] at this; omega
    subst hj
    have h := getElem_flatMap encS_len xs i 0 x hx (by decide)
    rw [Nat.zero_add]
    exact (Box.new w (xs.flatMap encS) T).cell _ v (h.trans hv)⟩
theorem pickNew_c (w0 w : World) (c : Nat) (xs : List ByteArray) (T : TypeId) (n : Nat) (hn : n = xs.length) (hc : Cur w0 w c) (hlen : 0 < xs.length) (hl2 : xs.length ≤ maxLen) :
    Calls Tryd.prog 92 #[.pointer (some ⟨c, 0, none⟩), .slice (some ⟨w.heap.size, 0, none⟩) n n] (w.alloc (.cells (xs.flatMap encS).toArray T)) (Drawn w0 c (IsOneOf xs) w) := by
  subst hn
  refine (pick_c w0 _ c _ _ xs (hc.below ((Below.refl _ _).alloc (Nat.le_refl _) _)) hlen hl2 (reads_new w xs T) (fun b off e => ?_)).mono fun e w' h => Drawn.from (grownBy_of_below ((Below.refl _ _).alloc (Nat.le_refl _) _) _) h
  cases e
  have := hc.lt
  omega
/-- An own row above the cursor that a draw leaves. -/
theorem own_far {w w' : World} {base T K n c : Nat} {v : Value} {cells : List Value} (h : w.ownsRow base T K v n cells) (hg : w.grownBy w' (some c)) (hc : c < base) : w'.ownsRow base T K v n cells :=
  h.kept hg (by
    cases hv : v.ownBlock with
    | none => simp
    | some b => have := (h.lt b hv).1; simp; omega)
theorem grown_own {w W w' : World} {T K n c : Nat} {v : Value} {cells : List Value} (h1 : w.grownBy W (some c)) (ho : W.ownsRow w.heap.size T K v n cells) (h2 : W.grownBy w' v.ownBlock) : w.grownBy w' (some c) :=
  ⟨h2.os.trans h1.os, h2.tape.trans h1.tape, h2.output.trans h1.output, Nat.le_trans h1.size h2.size, fun k hk hne =>
    (h2.block k (Nat.lt_of_lt_of_le hk h1.size) (fun e => by have := (ho.lt k e.symm).1; omega)).trans (h1.block k hk hne)⟩
theorem Cur.own {w0 w w' : World} {T K n c base : Nat} {v : Value} {cells : List Value} (h : Cur w0 w c) (ho : w.ownsRow base T K v n cells) (hb : c < base) (hg : w.grownBy w' v.ownBlock) : Cur w0 w' c := by
  have hlt := h.lt
  have hge := h.ge
  obtain ⟨a, len, cap, z, i, x, h1, h2, h3, h4, h5⟩ := h
  refine ⟨a, len, cap, z, i, x, h1, h2, ⟨hg.os.trans h3.os, hg.tape.trans h3.tape, hg.output.trans h3.output, Nat.le_trans h3.size hg.size, fun k hk => ?_⟩, h4, (hg.block c hlt (fun e => by have := (ho.lt c e.symm).1; omega)).trans h5⟩
  exact (hg.block k (Nat.lt_of_lt_of_le hk h3.size) (fun e => by have := (ho.lt k e.symm).1; omega)).trans (h3.block k hk)
theorem own_empty (W : World) (T K : Nat) : (W.alloc (.cells #[] T)).ownsRow W.heap.size T K (.slice (some ⟨W.heap.size, 0, none⟩) 0 0) 0 [] :=
  ⟨by simp, .inr ⟨W.heap.size, 0, #[], rfl, Nat.le_refl _, heap_alloc_new W _, Nat.le_refl _, Nat.zero_le _, by simp, by simp⟩⟩

set_option maxRecDepth 100000 in
set_option maxHeartbeats 4000000 in
theorem text_c (w0 w : World) (c : Nat) (n : Int) (hc : Cur w0 w c) (hn : n ≤ 5000) :
    Calls Tryd.prog 103 #[.pointer (some ⟨c, 0, none⟩), .int .i64 n] w (Drawn w0 c (IsText n.toNat) w) := by
  obtain ⟨i0, hi, hzz⟩ := Option.map_eq_some_iff.1 infoByte
  simp only [Prod.mk.injEq] at hzz
  have HI := Lib.hid hi
  have HZ := Lib.hid hzz
  have hcl := hc.lt
  have HC := Lib.hid hc
  have HE0 := Lib.hid (own_empty w 5 1)
  clear hi hzz hc
  have p5 : ¬ (5000 : Int) < n := by omega
  go_enter Tryd.func103, Tryd.ntmps103
  go_wp2
  go_loopw [5, 6] (fun v i wr => ∃ (k : Nat) (E : List UInt8), i = .int .i64 k ∧ k ≤ n.toNat ∧ E.length = k ∧ Hid (wr.ownsRow w.heap.size 5 1 v k (E.flatMap encB)) ∧ Hid (Cur w0 wr c) ∧ Hid (w.grownBy wr (some c))) (fun _ i _ => n.toNat - (intOf i).toNat)
  case atStart => exact ⟨0, [], rfl, Nat.zero_le _, rfl, HE0, Lib.hid (HC.out.below (by repeat (first | exact Below.refl _ _ | refine Below.drew ?_ | refine below_drewN ?_ _ | refine Below.allocC ?_ _ | refine Below.setCell ?_ (by first | (simp; done) | (simp; omega)) _ | refine Below.chain ?_ (by assumption)))), Lib.hid (grownBy_of_below (by repeat (first | exact Below.refl _ _ | refine Below.drew ?_ | refine below_drewN ?_ _ | refine Below.allocC ?_ _ | refine Below.setCell ?_ (by first | (simp; done) | (simp; omega)) _ | refine Below.chain ?_ (by assumption))) _)⟩
  case round =>
    obtain ⟨k, E, rfl, hk, hE, HW, HCr, HG⟩ := hrel
    have HEL := Lib.hid hE
    have p0 : (0 : Int) ≤ (k : Int) := by omega
    by_cases hlt : (k : Int) < n
    · have K := Lib.hid (byte_c w0 wr c HCr.out)
      clear hE
      go_wp2_with fail
      refine K.out.mono ?_
      rintro e w1 ⟨v, rfl, ⟨x, rfl, x0, x1⟩, hc1, hg1⟩
      have HC1 := Lib.hid hc1
      have HG1 := Lib.hid (grownBy_trans HG.out hg1)
      have HW1 := Lib.hid (own_far HW.out hg1 hcl)
      obtain ⟨ch, hch⟩ : ∃ ch, UInt8.ofNat x.toNat = ch := ⟨_, rfl⟩
      have HCH := Lib.hid (show encB ch = [.int .u8 x] by
        unfold encB
        rw [← hch, UInt8.toNat_ofNat', Nat.mod_eq_of_lt (by omega)]
        congr 2
        omega)
      have hs1 : w.heap.size ≤ w1.heap.size := HG1.out.size
      clear hc1 hg1 hch HW HG HCr
      go_wp2_with (at_builtin; refine wpList_append_own2 _ rfl _ _ 37 rfl w.heap.size 5 i0 _ 1 1 Tryd.underlying37 HI.out HZ.out.1 HZ.out.2.1 HZ.out.2.2 rfl (by decide) _ _ _ rfl (HW1.out.alloc _) ⟨w1.heap.size, 0, none⟩ 1 1 [.int .u8 x] rfl rfl (box_news (Box.new _ _ _)) (by intro u hu; simp at hu; subst hu; rfl) (by unfold maxLen; omega) (by omega) (by simp; omega) ?_)
      intro v' w' o2 g2 or2
      have HG2 := Lib.hid (grown_own (grownBy_below2 HG1.out (show Below w1.heap.size w1 (w1.alloc (.cells #[.int .u8 x] 5)) from (by repeat (first | exact Below.refl _ _ | refine Below.drew ?_ | refine below_drewN ?_ _ | refine Below.allocC ?_ _ | refine Below.setCell ?_ (by first | (simp; done) | (simp; omega)) _ | refine Below.chain ?_ (by assumption))))) (HW1.out.alloc _) g2)
      have HC2 := Lib.hid (Cur.own (HC1.out.below (show Below w1.heap.size w1 (w1.alloc (.cells #[.int .u8 x] 5)) from (by repeat (first | exact Below.refl _ _ | refine Below.drew ?_ | refine below_drewN ?_ _ | refine Below.allocC ?_ _ | refine Below.setCell ?_ (by first | (simp; done) | (simp; omega)) _ | refine Below.chain ?_ (by assumption))))) (HW1.out.alloc _) hcl g2)
      have HW2 := Lib.hid (show w'.ownsRow w.heap.size 5 1 v' (k + 1) ((E ++ [ch]).flatMap encB) from by
        rw [List.flatMap_append, List.flatMap_cons, List.flatMap_nil, List.append_nil, HCH.out]; exact o2)
      have HL2 := Lib.hid (show (E ++ [ch]).length = k + 1 from by rw [List.length_append, HEL.out]; rfl)
      clear o2 g2 or2 HW1 HC1 HG1
      go_wp2
      go_roundw
      case rel => exact ⟨k + 1, E ++ [ch], by go_num, by omega, HL2.out, HW2, HC2, HG2⟩
      case measure => simp [intOf]; omega
    · have hcv := convB wr w.heap.size 5 u5 E k hE.symm HW.out
      have HEND := Lib.hid (show Drawn w0 c (IsText n.toNat) w (.returned (.string ⟨E.toArray⟩)) wr from ⟨_, rfl, ⟨_, rfl, by show E.toArray.size ≤ _; rw [List.size_toArray, hE]; exact hk⟩, HCr.out, HG.out⟩)
      clear hE HW HCr HG
      go_wp2
      go_ret
      exact HEND.out

theorem rep_flat (n : Nat) (x : UInt8) : (List.replicate n x).flatMap encB = List.replicate n (.int .u8 (x.toNat : Int)) := by
  induction n with
  | zero => rfl
  | succ n ih => rw [List.replicate_succ, List.flatMap_cons, ih]; rfl
set_option maxHeartbeats 4000000 in
theorem long_c (n : Nat) (x : UInt8) (w : World) (hn : n ≤ 100000) :
    Calls Tryd.prog 93 #[.int .i64 (n : Int), .int .u8 (x.toNat : Int)] w fun e w' => e = .returned (.string ⟨(List.replicate n x).toArray⟩) ∧ Below w.heap.size w w' := by
  have hmk := make_eq (P := Tryd.prog) 37 5 1 1 _ Tryd.underlying37 infoByte n (by omega) (by omega)
  have p0 : (0 : Int) ≤ (n : Int) := by omega
  go_enter Tryd.func93, Tryd.ntmps93
  go_wp2
  go_loopw [6] (fun i wr => ∃ k : Nat, k ≤ n ∧ i = .int .i64 k ∧ Hid (Filling wr w.heap.size 5 1 n ((List.replicate k x).flatMap encB)) ∧ Below w.heap.size w wr) (fun i _ => n - (intOf i).toNat)
  case atStart => exact ⟨0, Nat.zero_le _, rfl, Lib.hid (by simpa using Filling.made w _ _ 1 n), (by repeat (first | exact Below.refl _ _ | refine Below.drew ?_ | refine below_drewN ?_ _ | refine Below.allocC ?_ _ | refine Below.setCell ?_ (by first | (simp; done) | (simp; omega)) _ | refine Below.chain ?_ (by assumption)))⟩
  case round =>
    obtain ⟨k, hk, rfl, HF, hb⟩ := hrel
    clear hmk
    have q0 : (0 : Int) ≤ (k : Int) := by omega
    by_cases hlt : k < n
    · have q1 : (k : Int) < (n : Int) := by omega
      have hdl : ((List.replicate k x).flatMap encB).length = k := by rw [rep_flat]; simp
      have F3 := HF.out.stores [.int .u8 (x.toNat : Int)] k hdl.symm (by rw [hdl]; simp; omega)
      have H3 := Lib.hid (show Filling _ w.heap.size 5 1 n ((List.replicate (k + 1) x).flatMap encB) by
        rw [List.replicate_succ', List.flatMap_append]; exact F3)
      have hB := Lib.hid (below_of_grown (sets_grown [.int .u8 (x.toNat : Int)] wr w.heap.size k) (Nat.le_refl w.heap.size) hb.size)
      have D2 := Lib.hid hb
      have f0 := HF.out.free k
      obtain ⟨o0, z0⟩ := HF.out.cell k (by omega)
      clear F3 HF hdl
      go_wp2
      go_roundw
      case rel => exact ⟨k + 1, by omega, by go_num, H3, D2.out.trans hB.out⟩
      case measure => simp [intOf]; omega
    · obtain rfl : k = n := by omega
      have q1 : ¬ (k : Int) < (k : Int) := by omega
      have hO := HF.out.owns (base := w.heap.size) (by rw [rep_flat]; simp) (Nat.le_refl _) (by unfold maxLen; omega)
      have hcv := convB wr w.heap.size 5 _ (List.replicate k x) k (by simp) hO
      clear HF hO
      go_wp2
      go_ret
      exact ⟨rfl, hb⟩
def longK (n : Nat) (x : UInt8) : ByteArray := ⟨(List.replicate n x).toArray⟩
theorem longK_size (n : Nat) (x : UInt8) : (longK n x).size = n := by show (List.replicate n x).toArray.size = n; simp
/-- The keys that are drawn once in a while. -/
def oddList : List ByteArray := [⟨#[]⟩, ⟨#[97, 32, 98]⟩, ⟨#[110, 47, 42]⟩, ⟨#[127]⟩, longK 40 97, longK 41 97]
def anyList : List ByteArray := oddList ++ keyList
/-- Two texts out of a list each. -/
def TwoOf (xs ys : List ByteArray) (w : World) (e : Ending) (w' : World) : Prop := ∃ s t, e = .returned (.tuple #[.string s, .string t]) ∧ s ∈ xs ∧ t ∈ ys ∧ Below w.heap.size w w'
end Go.Proofs.YtedbmmoddemngaaDoor
