/- Contracts of the methods of *Mach on keys and numbers, up to spawn. Conditions: the machine lies in own rows; the library's variables hold what their texts lay; bounds that any machine of this size meets. -/
import Derived.Test.YtjlmoghifkgehaaDoorMachAt
import Derived.Test.YtjlmoghifkgehaaDoorKeyAt
import Derived.Test.YtjlmoghifkgehaaDoorNumOf
import Derived.Test.YtjlmoghifkgehaaDoorDec
import Derived.Test.YtjlmoghifkgehaaDoorWithin
namespace Go.Proofs.YtjlmoghifkgehaaDoor
open Go.ChangeShapes Go.WideShapes Go.ChangeAt Go.RowKit
attribute [local go_sem ↓] Go.wp_at_zero Go.wp_at_succ
/-- What the figures' library needs. -/
def NumTab (w : World) : Prop := DecTab w ∧ NumErr w
theorem MAt.grow {w w' : World} {p base : Nat} {v1 v2 v3 : Value} {m : Mch} (h : MAt w p base v1 v2 v3 m) (g : Grow3 w w' p v1 v2 v3) : Below base w w' :=
  ⟨g.os, g.tape, g.output, g.size, fun k hk => g.block k (Nat.lt_of_lt_of_le hk h.hb) (by have := h.hp; omega) (fun e => by have := (h.o1.lt k e).1; omega) (fun e => by have := (h.o2.lt k e).1; omega) (fun e => by have := (h.o3.lt k e).1; omega)⟩
/-- The bounds of a machine with n rows at most. -/
structure MOk (n : Nat) (m : Mch) : Prop where
  l1 : m.st.length ≤ n
  l2 : m.rs.length ≤ n
  l3 : m.ws.length ≤ n
  sz : ∀ x ∈ m.st, x.1.size ≤ 1000 ∧ x.2.size ≤ 1000
def lookM (m : Mch) (key : ByteArray) : Mch := ⟨m.st, addS m.rs key, m.ws⟩
def layM (m : Mch) (key val : ByteArray) : Mch := ⟨putKeyS m.st key val, m.rs, addS m.ws key⟩
theorem get_sz {xs : List (ByteArray × ByteArray)} (h : ∀ x ∈ xs, x.1.size ≤ 1000 ∧ x.2.size ≤ 1000) (k : ByteArray) : (getKeyS xs k).size ≤ 1000 := by
  unfold getKeyS
  split
  · rename_i c hc; exact (h c (List.mem_of_getElem? hc)).2
  · exact Nat.zero_le _
theorem MOk.look {n : Nat} {m : Mch} (h : MOk n m) (key : ByteArray) : MOk (n + 1) (lookM m key) :=
  ⟨Nat.le_succ_of_le h.l1, Nat.le_trans (addS_len m.rs key) (Nat.succ_le_succ h.l2), Nat.le_succ_of_le h.l3, h.sz⟩
theorem putKeyS_mem2 {z : ByteArray × ByteArray} {xs : List (ByteArray × ByteArray)} {key val : ByteArray} (h : z ∈ putKeyS xs key val) : z = (key, val) ∨ z ∈ xs := by
  unfold putKeyS at h
  split at h
  · exact .inr h
  · exact putV_mem h
theorem MOk.lay {n : Nat} {m : Mch} (h : MOk n m) {key val : ByteArray} (hk : key.size ≤ 1000) (hv : val.size ≤ 1000) : MOk (n + 1) (layM m key val) :=
  ⟨Nat.le_trans (putKeyS_len m.st key val) (Nat.succ_le_succ h.l1), Nat.le_succ_of_le h.l2, Nat.le_trans (addS_len m.ws key) (Nat.succ_le_succ h.l3), fun x hx => by
    rcases putKeyS_mem2 hx with rfl | hx
    · exact ⟨hk, hv⟩
    · exact h.sz x hx⟩

set_option maxHeartbeats 2000000 in
theorem look_c (p base : Nat) (v1 v2 v3 : Value) (m : Mch) (key : ByteArray) (w : World) (h : MAt w p base v1 v2 v3 m) (ho : MOk 1000000 m) :
    Calls Tryd.prog 29 #[.pointer (some ⟨p, 0, none⟩), .string key] w (MStep p base v1 v2 v3 (lookM m key) (.string (getKeyS m.st key)) w) := by
  have H := Lib.hid h
  have K := Lib.hid (addSpan_c v2 base m.rs key w (by have := ho.l2; omega) h.o2 h.hb)
  have c1 := h.box.cell 1 _ rfl
  have hl := ho.l1
  clear h ho
  go_enter Tryd.func29, Tryd.ntmps29
  go_wp2_with fail
  refine K.out.mono ?_
  rintro e w1 ⟨u, rfl, ho, hg, hor⟩
  obtain ⟨au, ku, hvu, _⟩ := reads_of_owns encS_len ho
  subst hvu
  obtain ⟨hs, hgr, hbx⟩ := H.out.set2 (xs := addS m.rs key) ho hg hor
  have HS := Lib.hid hs
  have HG := Lib.hid hgr
  have HOR := Lib.hid hor
  have d1 := hbx.cell 1 _ rfl
  have z1 := hbx.free 1
  have d0 := hbx.cell 0 _ rfl
  obtain ⟨a1, k1, hv1, hrd⟩ := reads_of_owns encC_len hs.o1
  subst hv1
  have KG := Lib.hid (implGetKey_c a1 k1 m.st key _ (by unfold maxLen; omega) hrd)
  clear ho hg hor hs hgr hbx c1 hrd K
  go_wp2_with fail
  refine KG.out.mono ?_
  rintro e w3 ⟨rfl, hb3⟩
  have HEND := Lib.hid (MStep.next HG.out (.inl rfl) HOR.out (.inl rfl) (HS.out.step hb3 (.string (getKeyS m.st key))))
  clear hb3 HG HS HOR KG d0 d1 z1
  go_wp2
  go_ret
  exact HEND.out

set_option maxHeartbeats 2000000 in
theorem lay_c (p base : Nat) (v1 v2 v3 : Value) (m : Mch) (key val : ByteArray) (w : World) (h : MAt w p base v1 v2 v3 m) (ho : MOk 1000000 m) (hk : key.size ≤ 1000) (hv : val.size ≤ 1000) :
    Calls Tryd.prog 32 #[.pointer (some ⟨p, 0, none⟩), .string key, .string val] w (MStep p base v1 v2 v3 (layM m key val) (.tuple #[]) w) := by
  have H := Lib.hid h
  have K := Lib.hid (addSpan_c v3 base m.ws key w (by have := ho.l3; omega) h.o3 h.hb)
  have c2 := h.box.cell 2 _ rfl
  have hl := ho.l1
  clear h ho
  go_enter Tryd.func32, Tryd.ntmps32
  go_wp2_with fail
  refine K.out.mono ?_
  rintro e w1 ⟨u, rfl, ho, hg, hor⟩
  obtain ⟨au, ku, hvu, _⟩ := reads_of_owns encS_len ho
  subst hvu
  obtain ⟨hs, hgr, hbx⟩ := H.out.set3 (xs := addS m.ws key) ho hg hor
  have HS := Lib.hid hs
  have HG := Lib.hid hgr
  have HOR := Lib.hid hor
  have d2 := hbx.cell 2 _ rfl
  have z2 := hbx.free 2
  have d0 := hbx.cell 0 _ rfl
  have KP := Lib.hid (put_c v1 base m.st key val _ (by omega) hs.o1 hs.hb (by unfold maxLen; omega) (by unfold maxLen; omega))
  clear ho hg hor hs hgr hbx c2 K
  go_wp2_with fail
  refine KP.out.mono ?_
  rintro e w3 ⟨u1, rfl, ho1, hg1, hor1⟩
  obtain ⟨ax, kx, hvx, _⟩ := reads_of_owns encC_len ho1
  subst hvx
  obtain ⟨hs1, hgr1, hbx1⟩ := HS.out.set1 (xs := putKeyS m.st key val) ho1 hg1 hor1
  have e0 := hbx1.cell 0 _ rfl
  have y0 := hbx1.free 0
  have HEND := Lib.hid (MStep.next HG.out (.inl rfl) (.inl rfl) HOR.out (⟨_, v2, _, rfl, hs1, hgr1, hor1, .inl rfl, .inl rfl⟩ : MStep p base v1 v2 (.slice au (addS m.ws key).length ku) (layM m key val) (.tuple #[]) _ (.returned (.tuple #[])) _))
  clear ho1 hg1 hor1 hs1 hgr1 hbx1 d0 d2 z2 HS HG HOR KP
  go_wp2
  exact bodyPost_ret (v := .tuple #[]) (by simp [results, Tryd.results32, go_sem]) rfl HEND.out

set_option maxHeartbeats 2000000 in
theorem num_c (p base : Nat) (v1 v2 v3 : Value) (m : Mch) (key : ByteArray) (w : World) (h : MAt w p base v1 v2 v3 m) (ho : MOk 1000000 m) (HT : ∀ W, Below base w W → NumTab W) :
    Calls Tryd.prog 18 #[.pointer (some ⟨p, 0, none⟩), .string key] w (MStep p base v1 v2 v3 (lookM m key) (.int .i64 (numOfV (getKeyS m.st key))) w) := by
  have H := Lib.hid h
  have K := Lib.hid (look_c p base v1 v2 v3 m key w h ho)
  have hs := get_sz ho.sz key
  have HTT := Lib.hid HT
  clear h ho HT
  generalize getKeyS m.st key = s at *
  have KN := Lib.hid (fun W (h : NumTab W) => implNumOf_c s W (by omega) h.1 h.2)
  generalize numOfV s = n at *
  go_enter Tryd.func18, Tryd.ntmps18
  go_wp2_with fail
  refine K.out.mono ?_
  rintro e w1 ⟨u1, u2, u3, rfl, hm, hg, q1, q2, q3⟩
  have HM := Lib.hid hm
  have HG := Lib.hid hg
  have Q1 := Lib.hid q1
  have Q2 := Lib.hid q2
  have Q3 := Lib.hid q3
  have HW := Lib.hid (HTT.out w1 (H.out.grow hg))
  clear hm hg q1 q2 q3 K
  go_wp2_with fail
  refine (KN.out _ HW.out).mono ?_
  rintro e w2 ⟨rfl, hb⟩
  have HEND := Lib.hid (MStep.next HG.out Q1.out Q2.out Q3.out (HM.out.step hb (.int .i64 n)))
  clear hb
  go_wp2
  go_ret
  exact HEND.out

/-- What is written for a number. -/
def numText (n : Int) : ByteArray := if inB n 1 999 then decS n else ⟨#[]⟩
theorem numText_size (n : Int) : (numText n).size ≤ 1000 := by
  unfold numText
  cases h : inB n 1 999 with
  | false => exact Nat.zero_le _
  | true =>
    have := inB_iff.1 h
    have := decS_size n (by omega) (by omega)
    rw [if_pos rfl]; omega
def setM (m : Mch) (key : ByteArray) (n : Int) : Mch := layM m key (numText n)
theorem MStep.grown {p base : Nat} {v1 v2 v3 : Value} {m m' : Mch} {r : Value} {w w' : World} {e : Ending} (h : MAt w p base v1 v2 v3 m) (h2 : MStep p base v1 v2 v3 m' r w e w') : Below base w w' := by
  obtain ⟨u1, u2, u3, _, _, hg, _⟩ := h2
  exact h.grow hg

set_option maxHeartbeats 2000000 in
theorem setNum_c (p base : Nat) (v1 v2 v3 : Value) (m : Mch) (key : ByteArray) (n : Int) (w : World) (h : MAt w p base v1 v2 v3 m) (ho : MOk 1000000 m) (hk : key.size ≤ 1000) (HT : ∀ W, Below base w W → NumTab W) :
    Calls Tryd.prog 20 #[.pointer (some ⟨p, 0, none⟩), .string key, .int .i64 n] w (MStep p base v1 v2 v3 (setM m key n) (.tuple #[]) w) := by
  have HTT := Lib.hid HT
  have H := Lib.hid h
  cases hb : inB n 1 999 with
  | false =>
    have ht : numText n = ⟨#[]⟩ := by unfold numText; rw [hb]; rfl
    have K := Lib.hid (lay_c p base v1 v2 v3 m key ⟨#[]⟩ w h ho hk (Nat.zero_le _))
    rw [← ht] at K
    have HE := Lib.hid ht
    clear h ho hk HT ht
    go_enter Tryd.func20, Tryd.ntmps20
    go_wp2_with (first | (go_at_call 30; refine (within_c _ _ _ _).mono ?_; rintro e w' ⟨rfl, rfl⟩) | fail)
    have K2 := K.out
    rw [HE.out] at K2
    refine K2.mono ?_
    rintro e w1 hst
    have HST := Lib.hid hst
    obtain ⟨u1, u2, u3, rfl, hm, hg, q1, q2, q3⟩ := hst
    have HEND := Lib.hid (show MStep p base v1 v2 v3 (setM m key n) (.tuple #[]) w (.returned (.tuple #[])) w1 from by
      unfold setM; rw [HE.out]; exact HST.out)
    clear hm hg q1 q2 q3
    go_wp2
    exact bodyPost_ret (v := .tuple #[]) (by simp [results, Tryd.results20, go_sem]) rfl HEND.out
  | true =>
    have hr := inB_iff.1 hb
    have ht : numText n = decS n := by unfold numText; rw [hb]; rfl
    have hs := numText_size n
    rw [ht] at hs
    have KD := Lib.hid (fun W (h : NumTab W) => implDecimal_c n W (by omega) (by omega) h.1)
    obtain ⟨dn, hdn⟩ : ∃ dn, decS n = dn := ⟨_, rfl⟩
    rw [hdn] at KD hs ht
    have HE := Lib.hid ht
    have HS := Lib.hid hs
    have HO := Lib.hid ho
    have HK := Lib.hid hk
    clear h ho hk HT ht hs hdn
    go_enter Tryd.func20, Tryd.ntmps20
    go_wp2_with (first | (go_at_call 30; refine (within_c _ _ _ _).mono ?_; rintro e w' ⟨rfl, rfl⟩) | fail)
    refine (KD.out _ (HTT.out _ (Below.refl _ _))).mono ?_
    rintro e w1 ⟨rfl, hb1⟩
    have HB1 := Lib.hid hb1
    have K := Lib.hid (lay_c p base v1 v2 v3 m key dn w1 (H.out.below hb1) HO.out HK.out HS.out)
    clear hb1
    go_wp2_with fail
    refine K.out.mono ?_
    rintro e w2 ⟨u1, u2, u3, rfl, hm, hg, q1, q2, q3⟩
    have HEND := Lib.hid (show MStep p base v1 v2 v3 (setM m key n) (.tuple #[]) w (.returned (.tuple #[])) w2 from by
      unfold setM; rw [HE.out]
      exact MStep.next (Grow3.of_below HB1.out) (.inl rfl) (.inl rfl) (.inl rfl) ⟨u1, u2, u3, rfl, hm, hg, q1, q2, q3⟩)
    clear hm hg q1 q2 q3 K
    go_wp2
    exact bodyPost_ret (v := .tuple #[]) (by simp [results, Tryd.results20, go_sem]) rfl HEND.out
theorem MOk.mono {n n' : Nat} {m : Mch} (h : MOk n m) (hn : n ≤ n') : MOk n' m := ⟨Nat.le_trans h.l1 hn, Nat.le_trans h.l2 hn, Nat.le_trans h.l3 hn, h.sz⟩
theorem MOk.set {n : Nat} {m : Mch} (h : MOk n m) {key : ByteArray} (hk : key.size ≤ 1000) (x : Int) : MOk (n + 1) (setM m key x) := h.lay hk (numText_size x)
/-- The machine's next number at a key. -/
noncomputable def nextN (m : Mch) (key : ByteArray) : Int := numOfV (getKeyS m.st key) + 1
noncomputable def bumpN (m : Mch) (key : ByteArray) : Int := if 999 < nextN m key then 0 else nextN m key
noncomputable def bumpM (m : Mch) (key : ByteArray) : Mch := if 999 < nextN m key then lookM m key else setM (lookM m key) key (nextN m key)
theorem MOk.bump {n : Nat} {m : Mch} (h : MOk n m) {key : ByteArray} (hk : key.size ≤ 1000) : MOk (n + 2) (bumpM m key) := by
  unfold bumpM
  split
  · exact (h.look key).mono (by omega)
  · exact ((h.look key).set hk _).mono (by omega)
theorem MStep.back {p base : Nat} {v1 v2 v3 : Value} {m' : Mch} {r r2 : Value} {w w' : World} {e : Ending} (h : MStep p base v1 v2 v3 m' r w e w') : MStep p base v1 v2 v3 m' r2 w (.returned r2) w' := by
  obtain ⟨u1, u2, u3, _, h2⟩ := h
  exact ⟨u1, u2, u3, rfl, h2⟩

set_option maxHeartbeats 2000000 in
theorem bump_c (p base : Nat) (v1 v2 v3 : Value) (m : Mch) (key : ByteArray) (w : World) (h : MAt w p base v1 v2 v3 m) (ho : MOk 900000 m) (hk : key.size ≤ 1000) (HT : ∀ W, Below base w W → NumTab W) :
    Calls Tryd.prog 19 #[.pointer (some ⟨p, 0, none⟩), .string key] w (MStep p base v1 v2 v3 (bumpM m key) (.int .i64 (bumpN m key)) w) := by
  have H := Lib.hid h
  have HTT := Lib.hid HT
  have K := Lib.hid (num_c p base v1 v2 v3 m key w h (ho.mono (by omega)) HT)
  have hnb := numOf_bounds (getKeyS m.st key)
  have HOK := Lib.hid ((ho.look key).mono (show 900000 + 1 ≤ 1000000 by omega))
  have HK := Lib.hid hk
  have HBM := Lib.hid (show bumpM m key = if 999 < numOfV (getKeyS m.st key) + 1 then lookM m key else setM (lookM m key) key (numOfV (getKeyS m.st key) + 1) from rfl)
  have HBN := Lib.hid (show bumpN m key = if 999 < numOfV (getKeyS m.st key) + 1 then 0 else numOfV (getKeyS m.st key) + 1 from rfl)
  clear h HT ho hk
  generalize bumpM m key = bm at *
  generalize bumpN m key = bn at *
  generalize numOfV (getKeyS m.st key) = n at *
  have hw : IntKind.i64.wrap (n + 1) = n + 1 := by rw [IntKind.wrap_i64]; omega
  by_cases hp : 999 < n + 1
  · have HBM2 := Lib.hid (HBM.out.trans (if_pos hp))
    have HBN2 := Lib.hid (HBN.out.trans (if_pos hp))
    clear HBM HBN
    go_enter Tryd.func19, Tryd.ntmps19
    go_wp2_with fail
    refine K.out.mono ?_
    rintro e w1 ⟨u1, u2, u3, rfl, hm, hg, q1, q2, q3⟩
    have HEND := Lib.hid (show MStep p base v1 v2 v3 bm (.int .i64 bn) w (.returned (.int .i64 0)) w1 from by
      rw [HBM2.out, HBN2.out]; exact ⟨u1, u2, u3, rfl, hm, hg, q1, q2, q3⟩)
    clear hm hg q1 q2 q3 K
    go_wp2
    go_ret
    exact HEND.out
  · have HBM2 := Lib.hid (HBM.out.trans (if_neg hp))
    have HBN2 := Lib.hid (HBN.out.trans (if_neg hp))
    clear HBM HBN
    go_enter Tryd.func19, Tryd.ntmps19
    go_wp2_with fail
    refine K.out.mono ?_
    rintro e w1 ⟨u1, u2, u3, rfl, hm, hg, q1, q2, q3⟩
    have HG := Lib.hid hg
    have Q1 := Lib.hid q1
    have Q2 := Lib.hid q2
    have Q3 := Lib.hid q3
    have HB := Lib.hid (H.out.grow hg)
    have K2 := Lib.hid (setNum_c p base u1 u2 u3 (lookM m key) key (n + 1) w1 hm HOK.out HK.out (fun W hW => HTT.out W (HB.out.trans hW)))
    clear hm hg q1 q2 q3 K
    go_wp2_with fail
    refine K2.out.mono ?_
    rintro e w2 hst
    have HST := Lib.hid hst
    obtain ⟨x1, x2, x3, rfl, _, _, _, _, _⟩ := hst
    have HEND := Lib.hid (show MStep p base v1 v2 v3 bm (.int .i64 bn) w (.returned (.int .i64 (n + 1))) w2 from by
      rw [HBM2.out, HBN2.out]; exact (MStep.next HG.out Q1.out Q2.out Q3.out HST.out).back)
    clear HST K2
    go_wp2
    go_ret
    exact HEND.out

/-- The key of a cell of a process. -/
def procK (n : Int) (t : ByteArray) : ByteArray := keyNumS ⟨#[114, 47]⟩ n t
theorem procKey_c (n : Int) (t : ByteArray) (w : World) (h0 : -9223372036854775808 ≤ n) (h1 : n ≤ 9223372036854775807) (ht : t.size ≤ 100) (hT : NumTab w) :
    Calls Tryd.prog 21 #[.int .i64 n, .string t] w fun e w' => e = .returned (.string (procK n t)) ∧ Below w.heap.size w w' := by
  have K := Lib.hid (implKeyNum_c ⟨#[114, 47]⟩ n t w h0 h1 (by decide) (by omega) hT.1)
  clear hT
  go_enter Tryd.func21, Tryd.ntmps21
  go_wp2_with fail
  refine K.out.mono ?_
  rintro e w1 ⟨rfl, hb⟩
  go_wp2
  go_ret
  exact ⟨rfl, hb⟩
theorem procK_size (n : Int) (t : ByteArray) (h0 : -9223372036854775808 ≤ n) (h1 : n ≤ 9223372036854775807) (ht : t.size ≤ 100) : (procK n t).size ≤ 1000 := by
  have := keyNumS_size ⟨#[114, 47]⟩ n t h0 h1
  have e : (⟨#[114, 47]⟩ : ByteArray).size = 2 := rfl
  unfold procK; omega
theorem bumpN_bounds (m : Mch) (key : ByteArray) : 0 ≤ bumpN m key ∧ bumpN m key ≤ 999 := by
  have := numOf_bounds (getKeyS m.st key)
  unfold bumpN nextN
  split <;> omega
def kProc : ByteArray := ⟨#[99, 47, 112, 114, 111, 99]⟩
def kS : ByteArray := ⟨#[47, 115]⟩
def kP : ByteArray := ⟨#[47, 112]⟩
/-- May no further process be made? -/
noncomputable def fullB (m : Mch) : Bool := decide (12 ≤ numOfV (getKeyS m.st kProc))
noncomputable def spawnId (m : Mch) : Int := if fullB m then 0 else bumpN (lookM m kProc) kProc
noncomputable def spawnM (m : Mch) (parent : Int) : Mch :=
  if fullB m then lookM m kProc else setM (setM (bumpM (lookM m kProc) kProc) (procK (bumpN (lookM m kProc) kProc) kS) 1) (procK (bumpN (lookM m kProc) kProc) kP) parent
noncomputable def spawnCode (m : Mch) : Int := if fullB m then 3 else 0

set_option maxHeartbeats 4000000 in
theorem spawn_c (p base : Nat) (v1 v2 v3 : Value) (m : Mch) (parent : Int) (w : World) (h : MAt w p base v1 v2 v3 m) (ho : MOk 800000 m) (HT : ∀ W, Below base w W → NumTab W) :
    Calls Tryd.prog 11 #[.pointer (some ⟨p, 0, none⟩), .int .i64 parent] w (MStep p base v1 v2 v3 (spawnM m parent) (.tuple #[.int .i64 (spawnId m), .int .i64 (spawnCode m)]) w) := by
  have H := Lib.hid h
  have HTT := Lib.hid HT
  have K := Lib.hid (num_c p base v1 v2 v3 m kProc w h (ho.mono (by omega)) HT)
  have O1 := Lib.hid (ho.look kProc)
  have hkp : kProc.size ≤ 1000 := by decide
  have O2 := Lib.hid ((ho.look kProc).bump hkp)
  have hid := bumpN_bounds (lookM m kProc) kProc
  have HM := Lib.hid (show ∀ b, fullB m = b → spawnM m parent = if b then lookM m kProc else setM (setM (bumpM (lookM m kProc) kProc) (procK (bumpN (lookM m kProc) kProc) kS) 1) (procK (bumpN (lookM m kProc) kProc) kP) parent from fun b e => by subst e; rfl)
  have HI := Lib.hid (show ∀ b, fullB m = b → spawnId m = if b then 0 else bumpN (lookM m kProc) kProc from fun b e => by subst e; rfl)
  have HC := Lib.hid (show ∀ b, fullB m = b → spawnCode m = if b then 3 else 0 from fun b e => by subst e; rfl)
  have HF := Lib.hid (show fullB m = decide (12 ≤ numOfV (getKeyS m.st kProc)) from rfl)
  generalize spawnM m parent = sm at *
  generalize spawnId m = si at *
  generalize spawnCode m = sc at *
  clear h ho HT
  generalize numOfV (getKeyS m.st kProc) = n at *
  by_cases hp : 12 ≤ n
  · have hf : fullB m = true := HF.out.trans (decide_eq_true hp)
    have HM2 := Lib.hid (HM.out _ hf)
    have HI2 := Lib.hid (HI.out _ hf)
    have HC2 := Lib.hid (HC.out _ hf)
    clear HM HI HC HF hf
    go_enter Tryd.func11, Tryd.ntmps11
    go_wp2_with fail
    refine K.out.mono ?_
    rintro e w1 ⟨u1, u2, u3, rfl, hm, hg, q1, q2, q3⟩
    have HEND := Lib.hid (show MStep p base v1 v2 v3 sm (.tuple #[.int .i64 si, .int .i64 sc]) w (.returned (.tuple #[.int .i64 0, .int .i64 3])) w1 from by
      rw [HM2.out, HI2.out, HC2.out]; exact ⟨u1, u2, u3, rfl, hm, hg, q1, q2, q3⟩)
    clear hm hg q1 q2 q3 K
    go_wp2
    go_ret2
    exact HEND.out
  · have hf : fullB m = false := HF.out.trans (decide_eq_false hp)
    have HM2 := Lib.hid (HM.out _ hf)
    have HI2 := Lib.hid (HI.out _ hf)
    have HC2 := Lib.hid (HC.out _ hf)
    clear HM HI HC HF hf
    obtain ⟨id, hde⟩ : ∃ i, bumpN (lookM m kProc) kProc = i := ⟨_, rfl⟩
    obtain ⟨m2, hm2⟩ : ∃ x, bumpM (lookM m kProc) kProc = x := ⟨_, rfl⟩
    rw [hde] at HM2 HI2 hid
    rw [hm2] at HM2 O2
    have HDE := Lib.hid hde
    have HM2E := Lib.hid hm2
    clear hde hm2
    have hk1 := procK_size id kS (by omega) (by omega) (by decide)
    have hk2 := procK_size id kP (by omega) (by omega) (by decide)
    have KK1 := Lib.hid (fun W (h : NumTab W) => procKey_c id kS W (by omega) (by omega) (by decide) h)
    have KK2 := Lib.hid (fun W (h : NumTab W) => procKey_c id kP W (by omega) (by omega) (by decide) h)
    obtain ⟨k1, e1⟩ : ∃ x, procK id kS = x := ⟨_, rfl⟩
    obtain ⟨k2, e2⟩ : ∃ x, procK id kP = x := ⟨_, rfl⟩
    rw [e1] at hk1 KK1 HM2
    rw [e2] at hk2 KK2 HM2
    have O3 := Lib.hid (O2.out.set hk1 1)
    have HK1 := Lib.hid hk1
    have HK2 := Lib.hid hk2
    clear e1 e2 hk1 hk2 hid
    go_enter Tryd.func11, Tryd.ntmps11
    go_wp2_with fail
    refine K.out.mono ?_
    rintro e w1 ⟨u1, u2, u3, rfl, hm, hg, q1, q2, q3⟩
    have G1 := Lib.hid (show ∀ m' r e w', MStep p base u1 u2 u3 m' r w1 e w' → MStep p base v1 v2 v3 m' r w e w' from fun _ _ _ _ h => MStep.next hg q1 q2 q3 h)
    have B1 := Lib.hid (H.out.grow hg)
    have M1 := Lib.hid hm
    have KB := Lib.hid (bump_c p base u1 u2 u3 (lookM m kProc) kProc w1 hm (O1.out.mono (by omega)) (by decide) (fun W hW => HTT.out W (B1.out.trans hW)))
    rw [HDE.out, HM2E.out] at KB
    clear hm hg q1 q2 q3 K
    go_wp2_with fail
    refine KB.out.mono ?_
    rintro e w2 ⟨x1, x2, x3, rfl, hm, hg, q1, q2, q3⟩
    have G2 := Lib.hid (show ∀ m' r e w', MStep p base x1 x2 x3 m' r w2 e w' → MStep p base v1 v2 v3 m' r w e w' from fun _ _ _ _ h => G1.out _ _ _ _ (MStep.next hg q1 q2 q3 h))
    have B2 := Lib.hid (B1.out.trans (M1.out.grow hg))
    have M2 := Lib.hid hm
    clear hm hg q1 q2 q3 KB G1 M1 B1
    go_wp2_with fail
    refine (KK1.out _ (HTT.out _ B2.out)).mono ?_
    rintro e w3 ⟨rfl, hb3⟩
    have G3 := Lib.hid (show ∀ m' r e w', MStep p base x1 x2 x3 m' r w3 e w' → MStep p base v1 v2 v3 m' r w e w' from fun _ _ _ _ h => G2.out _ _ _ _ (MStep.next (Grow3.of_below hb3) (.inl rfl) (.inl rfl) (.inl rfl) h))
    have M3 := Lib.hid (M2.out.below hb3)
    have B3 := Lib.hid (B2.out.trans (hb3.mono M2.out.hb))
    have KS := Lib.hid (setNum_c p base x1 x2 x3 m2 k1 1 w3 M3.out (O2.out.mono (by omega)) HK1.out (fun W hW => HTT.out W (B3.out.trans hW)))
    clear hb3 G2 M2 B2
    go_wp2_with fail
    refine KS.out.mono ?_
    rintro e w4 ⟨y1, y2, y3, rfl, hm, hg, q1, q2, q3⟩
    have G4 := Lib.hid (show ∀ m' r e w', MStep p base y1 y2 y3 m' r w4 e w' → MStep p base v1 v2 v3 m' r w e w' from fun _ _ _ _ h => G3.out _ _ _ _ (MStep.next hg q1 q2 q3 h))
    have B4 := Lib.hid (B3.out.trans (M3.out.grow hg))
    have M4 := Lib.hid hm
    clear hm hg q1 q2 q3 KS G3 M3 B3
    go_wp2_with fail
    refine (KK2.out _ (HTT.out _ B4.out)).mono ?_
    rintro e w5 ⟨rfl, hb5⟩
    have G5 := Lib.hid (show ∀ m' r e w', MStep p base y1 y2 y3 m' r w5 e w' → MStep p base v1 v2 v3 m' r w e w' from fun _ _ _ _ h => G4.out _ _ _ _ (MStep.next (Grow3.of_below hb5) (.inl rfl) (.inl rfl) (.inl rfl) h))
    have M5 := Lib.hid (M4.out.below hb5)
    have B5 := Lib.hid (B4.out.trans (hb5.mono M4.out.hb))
    have KP := Lib.hid (setNum_c p base y1 y2 y3 (setM m2 k1 1) k2 parent w5 M5.out (O3.out.mono (by omega)) HK2.out (fun W hW => HTT.out W (B5.out.trans hW)))
    clear hb5 G4 M4 B4
    go_wp2_with fail
    refine KP.out.mono ?_
    rintro e w6 hst
    have HST := Lib.hid hst
    obtain ⟨z1, z2, z3, rfl, _, _, _, _, _⟩ := hst
    have HEND := Lib.hid (show MStep p base v1 v2 v3 sm (.tuple #[.int .i64 si, .int .i64 sc]) w (.returned (.tuple #[.int .i64 id, .int .i64 0])) w6 from by
      rw [HM2.out, HI2.out, HC2.out]; exact (G5.out _ _ _ _ HST.out).back)
    clear HST KP G5 M5 B5
    go_wp2
    go_ret2
    exact HEND.out
end Go.Proofs.YtjlmoghifkgehaaDoor
