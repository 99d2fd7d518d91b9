/- Lemmas and contracts that the last text leans on, joined: Kinds, Do1, StoreOk, PutFacts, PgSem, BootK, NumFacts, KidFacts, KidCalls, RegC, RegA. Conditions: as each theorem says. -/
import Derived.Test.YtihghflppegnmaaGreatDoorNk4
import Derived.Test.YtihghflppegnmaaGreatDoorNk7
import Derived.Test.YtihghflppegnmaaGreatDoorNk1
import Derived.Test.YtihghflppegnmaaGreatDoorNk2
import Derived.BigQuiet
import Derived.Test.YtihghflppegnmaaGreatDoorNk3
import Derived.Test.YtihghflppegnmaaGreatDoorNk6
import Derived.Test.YtihghflppegnmaaGreatDoorNk5
set_option linter.unusedSimpArgs false
set_option linter.unusedVariables false
namespace Go.Proofs.YtihghflppegnmaaGreatDoor
theorem kind1 {p : Int} {c : Cal} (h : c.kind = 1) : kindP p c = (do let x ← makeP c.name; pure (ansN x)) := by unfold kindP; simp [h]
theorem kind2 {p : Int} {c : Cal} (h : c.kind = 2) : kindP p c = (do let x ← linkP c.name c.dest; pure (ansC x)) := by unfold kindP; simp [h]
theorem kind3 {p : Int} {c : Cal} (h : c.kind = 3) : kindP p c = (do let x ← unlinkP c.name; pure (ansC x)) := by unfold kindP; simp [h]
theorem kind4 {p : Int} {c : Cal} (h : c.kind = 4) : kindP p c = (do let x ← renameP c.name c.dest; pure (ansC x)) := by unfold kindP; simp [h]
theorem kind5 {p : Int} {c : Cal} (h : c.kind = 5) : kindP p c = (do let x ← namesP; pure ⟨0, 0, wordsS x⟩) := by unfold kindP; simp [h]
theorem kind6 {p : Int} {c : Cal} (h : c.kind = 6) : kindP p c = fileP c := by unfold kindP; simp [h]
theorem kind7 {p : Int} {c : Cal} (h : c.kind = 7) : kindP p c = fileP c := by unfold kindP; simp [h]
theorem kind8 {p : Int} {c : Cal} (h : c.kind = 8) : kindP p c = fileP c := by unfold kindP; simp [h]
theorem kind9 {p : Int} {c : Cal} (h : c.kind = 9) : kindP p c = (do let x ← mkPipeP; pure (ansN x)) := by unfold kindP; simp [h]
theorem kind10 {p : Int} {c : Cal} (h : c.kind = 10) : kindP p c = (do let x ← putPipeP c.a c.text; pure (ansC x)) := by unfold kindP; simp [h]
theorem kind11 {p : Int} {c : Cal} (h : c.kind = 11) : kindP p c = (do let x ← takePipeP c.a; pure (ansT x)) := by unfold kindP; simp [h]
theorem kind12 {p : Int} {c : Cal} (h : c.kind = 12) : kindP p c = spawnAllP p := by unfold kindP; simp [h]
theorem kind13 {p : Int} {c : Cal} (h : c.kind = 13) : kindP p c = endAllP p c.a := by unfold kindP; simp [h]
theorem kind14 {p : Int} {c : Cal} (h : c.kind = 14) : kindP p c = (do let x ← reapP p c.a; pure (ansN x)) := by unfold kindP; simp [h]
theorem kind15 {p : Int} {c : Cal} (h : c.kind = 15) : kindP p c = (do let x ← kidsP p; pure ⟨0, 0, wordsS (x.map decS)⟩) := by unfold kindP; simp [h]
theorem kind16 {p : Int} {c : Cal} (h : c.kind = 16) : kindP p c = (do let x ← sendP c.a c.b; pure (ansC x)) := by unfold kindP; simp [h]
theorem kind17 {p : Int} {c : Cal} (h : c.kind = 17) : kindP p c = (do let x ← takeSigP p; pure (ansN x)) := by unfold kindP; simp [h]
theorem kind18 {p : Int} {c : Cal} (h : c.kind = 18) : kindP p c = (do let x ← timerP p c.a; pure (ansC x)) := by unfold kindP; simp [h]
theorem kind19 {p : Int} {c : Cal} (h : c.kind = 19) : kindP p c = (do let x ← tickP c.a; pure (ansN x)) := by unfold kindP; simp [h]
theorem kind20 {p : Int} {c : Cal} (h : c.kind = 20) : kindP p c = (do let x ← storeP p c.a c.text; pure (ansC x)) := by unfold kindP; simp [h]
theorem kind21 {p : Int} {c : Cal} (h : c.kind = 21) : kindP p c = (do let x ← loadP p c.a; pure (ansT x)) := by unfold kindP; simp [h]
theorem kind22 {p : Int} {c : Cal} (h : c.kind = 22) : kindP p c = (do let x ← putOutP c.text; pure (ansC x)) := by unfold kindP; simp [h]
theorem spawn_bounds {m m' : Mch} {p x y : Int} (E : (spawnP p).run m = (m', (x, y))) : 0 ≤ x ∧ x ≤ 999 := by
  unfold spawnP at E
  rw [Pg.run_bind] at E
  split at E
  · obtain ⟨_, e2⟩ := Prod.mk.inj E
    obtain ⟨e2, _⟩ := Prod.mk.inj e2
    omega
  · simp only [Pg.run_bind, Pg.run_pure] at E
    obtain ⟨_, e2⟩ := Prod.mk.inj E
    obtain ⟨e2, _⟩ := Prod.mk.inj e2
    have h := bumpP_bounds (m := ((numP cProc).run m).1) (m' := ((bumpP cProc).run ((numP cProc).run m).1).1) (k := cProc) (x := ((bumpP cProc).run ((numP cProc).run m).1).2) rfl
    rw [e2] at h
    exact h
end Go.Proofs.YtihghflppegnmaaGreatDoor
namespace Go.Proofs.YtihghflppegnmaaGreatDoor
open Go.ChangeShapes Go.WideShapes Go.ChangeAt Go.RowKit
attribute [local go_sem ↓] Go.wp_at_zero Go.wp_at_succ
theorem three_of {ys : List Value} (h : ys.length = 3) : ∃ a b c, ys = [a, b, c] := by
  match ys, h with
  | [a, b, c], _ => exact ⟨a, b, c, rfl⟩
set_option maxRecDepth 100000 in
set_option maxHeartbeats 8000000 in
theorem kdoNone_c (p base : Nat) (v1 v2 v3 : Value) (m m' : Mch) (a : Ans) (proc : Int) (c : Cal) (w : World) (h : MAt w p base v1 v2 v3 m) (ho : MOk 100000000000 m) (hp : I64 proc) (hc : COk c) (HT : ∀ W, Below base w W → Tabs W) (hs : ∀ m1 s, (stateP proc).run m = (m1, s) → s ≠ 1) (E : (callP proc c).run m = (m', a)) :
    Calls Tryz.prog 60 #[.pointer (some ⟨p, 0, none⟩), .int .i64 proc, .agg #[.int .i64 c.kind, .string c.name, .string c.dest, .int .i64 c.a, .int .i64 c.b, .string c.text]] w (MStep p base v1 v2 v3 m' (.agg #[.int .i64 a.code, .int .i64 a.n, .string a.text]) w) := by
  have D0 := Lib.hid (DAt.first h [.int .i64 c.kind, .string c.name, .string c.dest, .int .i64 c.a, .int .i64 c.b, .string c.text] 36 28 28)
  have H := Lib.hid h
  have HTT := Lib.hid (fun W (b : Below base w W) => HT W b)
  have O0 := Lib.hid ho
  obtain ⟨m1, s1, E1⟩ : ∃ aa bb, (stateP proc).run m = (aa, bb) := ⟨_, _, rfl⟩
  have O1 := Lib.hid ((stateP_cost _).okE O0.out E1)
  have K1 := Lib.hid (pState_c p base v1 v2 v3 m m1 s1 proc _ D0.out.at_ (O0.out.mono (by omega)) hp (fun W hW => HT W ((D0.out.bel h).trans hW)) E1)
  have HE1 := Lib.hid E1
  clear h ho HT E1
  have hn := hs _ _ HE1.out
  obtain ⟨e1, e2⟩ := Prod.mk.inj ((show (m1, (⟨2, 0, ⟨#[]⟩⟩ : Ans)) = (callP proc c).run m from by
    unfold callP
    simp only [Pg.run_bind, HE1.out, hn, ↓reduceIte, Pg.run_pure]; rfl).trans E)
  subst e1 e2
  clear E hs hc
  go_enter Tryz.func60, Tryz.ntmps60
  go_wp2_with fail
  refine K1.out.mono ?_
  rintro e w1 ⟨u1, u2, u3, rfl, hm, hg, q1, q2, q3⟩
  have D1 := Lib.hid (D0.out.next hm hg q1 q2 q3)
  clear hm hg q1 q2 q3 K1 D0 H
  obtain ⟨ys1, hy1, by1⟩ := DAt.br D1.out
  obtain ⟨r01, r11, r21, hys1⟩ := three_of hy1
  subst hys1
  have r10c := by1.cell 0 _ rfl
  have r11c := by1.cell 1 _ rfl
  have r12c := by1.cell 2 _ rfl
  have r10f := by1.free 0
  have r11f := by1.free 1
  have r12f := by1.free 2
  go_wp2
  exact bodyPost_ret (v := .agg #[.int .i64 2, .int .i64 0, .string ⟨#[]⟩]) (by simp [results, Tryz.results60, go_sem, *]) rfl (D1.out.done _ _ _ _)

set_option maxRecDepth 100000 in
set_option maxHeartbeats 8000000 in
theorem kdoBad_c (p base : Nat) (v1 v2 v3 : Value) (m m' : Mch) (a : Ans) (proc : Int) (c : Cal) (w : World) (h : MAt w p base v1 v2 v3 m) (ho : MOk 100000000000 m) (hp : I64 proc) (hc : COk c) (HT : ∀ W, Below base w W → Tabs W) (hs : ∀ m1 s, (stateP proc).run m = (m1, s) → s = 1) (hk : callOkB c = false) (E : (callP proc c).run m = (m', a)) :
    Calls Tryz.prog 60 #[.pointer (some ⟨p, 0, none⟩), .int .i64 proc, .agg #[.int .i64 c.kind, .string c.name, .string c.dest, .int .i64 c.a, .int .i64 c.b, .string c.text]] w (MStep p base v1 v2 v3 m' (.agg #[.int .i64 a.code, .int .i64 a.n, .string a.text]) w) := by
  have D0 := Lib.hid (DAt.first h [.int .i64 c.kind, .string c.name, .string c.dest, .int .i64 c.a, .int .i64 c.b, .string c.text] 36 28 28)
  have H := Lib.hid h
  have HTT := Lib.hid (fun W (b : Below base w W) => HT W b)
  have O0 := Lib.hid ho
  obtain ⟨m1, s1, E1⟩ : ∃ aa bb, (stateP proc).run m = (aa, bb) := ⟨_, _, rfl⟩
  have O1 := Lib.hid ((stateP_cost _).okE O0.out E1)
  have K1 := Lib.hid (pState_c p base v1 v2 v3 m m1 s1 proc _ D0.out.at_ (O0.out.mono (by omega)) hp (fun W hW => HT W ((D0.out.bel h).trans hW)) E1)
  have HE1 := Lib.hid E1
  clear h ho HT E1
  have hs1 := hs _ _ HE1.out
  subst hs1
  have KC := Lib.hid (fun W => implCallOk_c c hc.n hc.d hc.t W)
  rw [hk] at KC
  obtain ⟨e1, e2⟩ := Prod.mk.inj ((show (m1, (⟨4, 0, ⟨#[]⟩⟩ : Ans)) = (callP proc c).run m from by
    unfold callP
    simp only [Pg.run_bind, HE1.out, hk, Bool.false_eq_true, ↓reduceIte, Pg.run_pure]; rfl).trans E)
  subst e1 e2
  clear E hs hc
  go_enter Tryz.func60, Tryz.ntmps60
  go_wp2_with fail
  refine K1.out.mono ?_
  rintro e w1 ⟨u1, u2, u3, rfl, hm, hg, q1, q2, q3⟩
  have D1 := Lib.hid (D0.out.next hm hg q1 q2 q3)
  clear hm hg q1 q2 q3 K1 D0 H
  have k10 := (DAt.bc D1.out).cell 0 _ rfl
  have k11 := (DAt.bc D1.out).cell 1 _ rfl
  have k12 := (DAt.bc D1.out).cell 2 _ rfl
  have k13 := (DAt.bc D1.out).cell 3 _ rfl
  have k14 := (DAt.bc D1.out).cell 4 _ rfl
  have k15 := (DAt.bc D1.out).cell 5 _ rfl
  go_wp2_with fail
  refine (KC.out _).mono ?_
  rintro e w2 ⟨rfl, hb⟩
  clear k10 k11 k12 k13 k14 k15
  have D2 := Lib.hid (D1.out.below hb)
  clear hb D1
  obtain ⟨ys2, hy2, by2⟩ := DAt.br D2.out
  obtain ⟨r02, r12, r22, hys2⟩ := three_of hy2
  subst hys2
  have r20c := by2.cell 0 _ rfl
  have r21c := by2.cell 1 _ rfl
  have r22c := by2.cell 2 _ rfl
  have r20f := by2.free 0
  have r21f := by2.free 1
  have r22f := by2.free 2
  go_wp2
  exact bodyPost_ret (v := .agg #[.int .i64 4, .int .i64 0, .string ⟨#[]⟩]) (by simp [results, Tryz.results60, go_sem, *]) rfl (D2.out.done _ _ _ _)

set_option maxRecDepth 100000 in
set_option maxHeartbeats 8000000 in
theorem kdo14_c (p base : Nat) (v1 v2 v3 : Value) (m m' : Mch) (a : Ans) (proc : Int) (c : Cal) (w : World) (h : MAt w p base v1 v2 v3 m) (ho : MOk 100000000000 m) (hp : I64 proc) (hc : COk c) (HT : ∀ W, Below base w W → Tabs W) (hs : ∀ m1 s, (stateP proc).run m = (m1, s) → s = 1) (hko : callOkB c = true) (hkk : c.kind = 14) (E : (callP proc c).run m = (m', a)) :
    Calls Tryz.prog 60 #[.pointer (some ⟨p, 0, none⟩), .int .i64 proc, .agg #[.int .i64 c.kind, .string c.name, .string c.dest, .int .i64 c.a, .int .i64 c.b, .string c.text]] w (MStep p base v1 v2 v3 m' (.agg #[.int .i64 a.code, .int .i64 a.n, .string a.text]) w) := by
  have D0 := Lib.hid (DAt.first h [.int .i64 c.kind, .string c.name, .string c.dest, .int .i64 c.a, .int .i64 c.b, .string c.text] 36 28 28)
  have H := Lib.hid h
  have HTT := Lib.hid (fun W (b : Below base w W) => HT W b)
  have O0 := Lib.hid ho
  obtain ⟨m1, s1, E1⟩ : ∃ aa bb, (stateP proc).run m = (aa, bb) := ⟨_, _, rfl⟩
  have O1 := Lib.hid ((stateP_cost _).okE O0.out E1)
  have K1 := Lib.hid (pState_c p base v1 v2 v3 m m1 s1 proc _ D0.out.at_ (O0.out.mono (by omega)) hp (fun W hW => HT W ((D0.out.bel h).trans hW)) E1)
  have HE1 := Lib.hid E1
  clear h ho HT E1
  have hs1 := hs _ _ HE1.out
  subst hs1
  have HKK := Lib.hid hkk
  clear hkk
  have hz := ok_sizes hko
  have KC := Lib.hid (fun W => implCallOk_c c hc.n hc.d hc.t W)
  rw [hko] at KC
  obtain ⟨m2, ⟨x, y⟩, E2⟩ : ∃ aa bb, (reapP proc c.a).run m1 = (aa, bb) := ⟨_, _, rfl⟩
  obtain ⟨e1, e2⟩ := Prod.mk.inj ((show (m2, (⟨y, x, noB⟩ : Ans)) = (callP proc c).run m from by
    unfold callP
    simp only [Pg.run_bind, HE1.out, hko, ↓reduceIte, kind14 HKK.out, E2, Pg.run_pure]; rfl).trans E)
  subst e1 e2
  have HE2 := Lib.hid E2
  have KM := Lib.hid (fun W u1 u2 u3 (d : DAt p base v1 v2 v3 w [.int .i64 c.kind, .string c.name, .string c.dest, .int .i64 c.a, .int .i64 c.b, .string c.text] [.int .i64 0, .int .i64 0, .string ⟨#[]⟩] W u1 u2 u3 m1) => pReap_c p base u1 u2 u3 m1 m2 x y proc c.a W d.at_ (O1.out.mono (by omega)) hc.a (fun X hX => HTT.out X ((d.bel H.out).trans hX)) HE2.out)
  clear E E2 hs
  go_enter Tryz.func60, Tryz.ntmps60
  go_wp2_with fail
  refine K1.out.mono ?_
  rintro e w1 ⟨u1, u2, u3, rfl, hm, hg, q1, q2, q3⟩
  have D1 := Lib.hid (D0.out.next hm hg q1 q2 q3)
  clear hm hg q1 q2 q3 K1 D0
  have k10 := (DAt.bc D1.out).cell 0 _ rfl
  have k11 := (DAt.bc D1.out).cell 1 _ rfl
  have k12 := (DAt.bc D1.out).cell 2 _ rfl
  have k13 := (DAt.bc D1.out).cell 3 _ rfl
  have k14 := (DAt.bc D1.out).cell 4 _ rfl
  have k15 := (DAt.bc D1.out).cell 5 _ rfl
  go_wp2_with fail
  refine (KC.out _).mono ?_
  rintro e w2 ⟨rfl, hb⟩
  clear k10 k11 k12 k13 k14 k15
  have D2 := Lib.hid (D1.out.below hb)
  clear hb D1
  have k20 := (DAt.bc D2.out).cell 0 _ rfl
  have k21 := (DAt.bc D2.out).cell 1 _ rfl
  have k22 := (DAt.bc D2.out).cell 2 _ rfl
  have k23 := (DAt.bc D2.out).cell 3 _ rfl
  have k24 := (DAt.bc D2.out).cell 4 _ rfl
  have k25 := (DAt.bc D2.out).cell 5 _ rfl
  rw [HKK.out] at k20
  go_wp2_with fail
  refine (KM.out _ _ _ _ D2.out).mono ?_
  rintro e w3 ⟨u4, u5, u6, rfl, hm, hg, q1, q2, q3⟩
  clear k20 k21 k22 k23 k24 k25
  have D3 := Lib.hid (D2.out.next hm hg q1 q2 q3)
  clear hm hg q1 q2 q3 KM D2 H
  have a30 := (DAt.ba D3.out).cell 0 _ rfl
  have a31 := (DAt.ba D3.out).cell 1 _ rfl
  have a32 := (DAt.ba D3.out).cell 2 _ rfl
  have f30 := (DAt.ba D3.out).free 0
  have f31 := (DAt.ba D3.out).free 1
  have f32 := (DAt.ba D3.out).free 2
  obtain ⟨ys3, hy3, by3⟩ := DAt.br D3.out
  obtain ⟨r03, r13, r23, hys3⟩ := three_of hy3
  subst hys3
  have r30c := by3.cell 0 _ rfl
  have r31c := by3.cell 1 _ rfl
  have r32c := by3.cell 2 _ rfl
  have r30f := by3.free 0
  have r31f := by3.free 1
  have r32f := by3.free 2
  have D4 := Lib.hid ((D3.out.seta 1 (.int .i64 x)).seta 0 (.int .i64 y))
  have HEND := Lib.hid (D4.out.done (.agg #[.int .i64 y, .int .i64 x, .string ⟨#[]⟩]) (.int .i64 y) (.int .i64 x) (.string ⟨#[]⟩))
  clear D3 D4
  go_wp2
  exact bodyPost_ret (v := .agg #[.int .i64 y, .int .i64 x, .string ⟨#[]⟩]) (by simp [results, Tryz.results60, go_sem, *]) rfl HEND.out

set_option maxRecDepth 100000 in
set_option maxHeartbeats 8000000 in
theorem kdo20_c (p base : Nat) (v1 v2 v3 : Value) (m m' : Mch) (a : Ans) (proc : Int) (c : Cal) (w : World) (h : MAt w p base v1 v2 v3 m) (ho : MOk 100000000000 m) (hp : I64 proc) (hc : COk c) (HT : ∀ W, Below base w W → Tabs W) (hs : ∀ m1 s, (stateP proc).run m = (m1, s) → s = 1) (hko : callOkB c = true) (hkk : c.kind = 20) (E : (callP proc c).run m = (m', a)) :
    Calls Tryz.prog 60 #[.pointer (some ⟨p, 0, none⟩), .int .i64 proc, .agg #[.int .i64 c.kind, .string c.name, .string c.dest, .int .i64 c.a, .int .i64 c.b, .string c.text]] w (MStep p base v1 v2 v3 m' (.agg #[.int .i64 a.code, .int .i64 a.n, .string a.text]) w) := by
  have D0 := Lib.hid (DAt.first h [.int .i64 c.kind, .string c.name, .string c.dest, .int .i64 c.a, .int .i64 c.b, .string c.text] 36 28 28)
  have H := Lib.hid h
  have HTT := Lib.hid (fun W (b : Below base w W) => HT W b)
  have O0 := Lib.hid ho
  obtain ⟨m1, s1, E1⟩ : ∃ aa bb, (stateP proc).run m = (aa, bb) := ⟨_, _, rfl⟩
  have O1 := Lib.hid ((stateP_cost _).okE O0.out E1)
  have K1 := Lib.hid (pState_c p base v1 v2 v3 m m1 s1 proc _ D0.out.at_ (O0.out.mono (by omega)) hp (fun W hW => HT W ((D0.out.bel h).trans hW)) E1)
  have HE1 := Lib.hid E1
  clear h ho HT E1
  have hs1 := hs _ _ HE1.out
  subst hs1
  have HKK := Lib.hid hkk
  clear hkk
  have hz := ok_sizes hko
  have KC := Lib.hid (fun W => implCallOk_c c hc.n hc.d hc.t W)
  rw [hko] at KC
  obtain ⟨m2, x, E2⟩ : ∃ aa bb, (storeP proc c.a c.text).run m1 = (aa, bb) := ⟨_, _, rfl⟩
  obtain ⟨e1, e2⟩ := Prod.mk.inj ((show (m2, (⟨x, 0, noB⟩ : Ans)) = (callP proc c).run m from by
    unfold callP
    simp only [Pg.run_bind, HE1.out, hko, ↓reduceIte, kind20 HKK.out, E2, Pg.run_pure]; rfl).trans E)
  subst e1 e2
  have HE2 := Lib.hid E2
  have KM := Lib.hid (fun W u1 u2 u3 (d : DAt p base v1 v2 v3 w [.int .i64 c.kind, .string c.name, .string c.dest, .int .i64 c.a, .int .i64 c.b, .string c.text] [.int .i64 0, .int .i64 0, .string ⟨#[]⟩] W u1 u2 u3 m1) => pStore_c p base u1 u2 u3 m1 m2 x proc c.a c.text W d.at_ (O1.out.mono (by omega)) hp (fun X hX => HTT.out X ((d.bel H.out).trans hX)) HE2.out)
  clear E E2 hs
  go_enter Tryz.func60, Tryz.ntmps60
  go_wp2_with fail
  refine K1.out.mono ?_
  rintro e w1 ⟨u1, u2, u3, rfl, hm, hg, q1, q2, q3⟩
  have D1 := Lib.hid (D0.out.next hm hg q1 q2 q3)
  clear hm hg q1 q2 q3 K1 D0
  have k10 := (DAt.bc D1.out).cell 0 _ rfl
  have k11 := (DAt.bc D1.out).cell 1 _ rfl
  have k12 := (DAt.bc D1.out).cell 2 _ rfl
  have k13 := (DAt.bc D1.out).cell 3 _ rfl
  have k14 := (DAt.bc D1.out).cell 4 _ rfl
  have k15 := (DAt.bc D1.out).cell 5 _ rfl
  go_wp2_with fail
  refine (KC.out _).mono ?_
  rintro e w2 ⟨rfl, hb⟩
  clear k10 k11 k12 k13 k14 k15
  have D2 := Lib.hid (D1.out.below hb)
  clear hb D1
  have k20 := (DAt.bc D2.out).cell 0 _ rfl
  have k21 := (DAt.bc D2.out).cell 1 _ rfl
  have k22 := (DAt.bc D2.out).cell 2 _ rfl
  have k23 := (DAt.bc D2.out).cell 3 _ rfl
  have k24 := (DAt.bc D2.out).cell 4 _ rfl
  have k25 := (DAt.bc D2.out).cell 5 _ rfl
  rw [HKK.out] at k20
  go_wp2_with fail
  refine (KM.out _ _ _ _ D2.out).mono ?_
  rintro e w3 ⟨u4, u5, u6, rfl, hm, hg, q1, q2, q3⟩
  clear k20 k21 k22 k23 k24 k25
  have D3 := Lib.hid (D2.out.next hm hg q1 q2 q3)
  clear hm hg q1 q2 q3 KM D2 H
  have a30 := (DAt.ba D3.out).cell 0 _ rfl
  have a31 := (DAt.ba D3.out).cell 1 _ rfl
  have a32 := (DAt.ba D3.out).cell 2 _ rfl
  have f30 := (DAt.ba D3.out).free 0
  have f31 := (DAt.ba D3.out).free 1
  have f32 := (DAt.ba D3.out).free 2
  obtain ⟨ys3, hy3, by3⟩ := DAt.br D3.out
  obtain ⟨r03, r13, r23, hys3⟩ := three_of hy3
  subst hys3
  have r30c := by3.cell 0 _ rfl
  have r31c := by3.cell 1 _ rfl
  have r32c := by3.cell 2 _ rfl
  have r30f := by3.free 0
  have r31f := by3.free 1
  have r32f := by3.free 2
  have D4 := Lib.hid (D3.out.seta 0 (.int .i64 x))
  have HEND := Lib.hid (D4.out.done (.agg #[.int .i64 x, .int .i64 0, .string ⟨#[]⟩]) (.int .i64 x) (.int .i64 0) (.string ⟨#[]⟩))
  clear D3 D4
  go_wp2
  exact bodyPost_ret (v := .agg #[.int .i64 x, .int .i64 0, .string ⟨#[]⟩]) (by simp [results, Tryz.results60, go_sem, *]) rfl HEND.out

set_option maxRecDepth 100000 in
set_option maxHeartbeats 8000000 in
theorem kdo21_c (p base : Nat) (v1 v2 v3 : Value) (m m' : Mch) (a : Ans) (proc : Int) (c : Cal) (w : World) (h : MAt w p base v1 v2 v3 m) (ho : MOk 100000000000 m) (hp : I64 proc) (hc : COk c) (HT : ∀ W, Below base w W → Tabs W) (hs : ∀ m1 s, (stateP proc).run m = (m1, s) → s = 1) (hko : callOkB c = true) (hkk : c.kind = 21) (E : (callP proc c).run m = (m', a)) :
    Calls Tryz.prog 60 #[.pointer (some ⟨p, 0, none⟩), .int .i64 proc, .agg #[.int .i64 c.kind, .string c.name, .string c.dest, .int .i64 c.a, .int .i64 c.b, .string c.text]] w (MStep p base v1 v2 v3 m' (.agg #[.int .i64 a.code, .int .i64 a.n, .string a.text]) w) := by
  have D0 := Lib.hid (DAt.first h [.int .i64 c.kind, .string c.name, .string c.dest, .int .i64 c.a, .int .i64 c.b, .string c.text] 36 28 28)
  have H := Lib.hid h
  have HTT := Lib.hid (fun W (b : Below base w W) => HT W b)
  have O0 := Lib.hid ho
  obtain ⟨m1, s1, E1⟩ : ∃ aa bb, (stateP proc).run m = (aa, bb) := ⟨_, _, rfl⟩
  have O1 := Lib.hid ((stateP_cost _).okE O0.out E1)
  have K1 := Lib.hid (pState_c p base v1 v2 v3 m m1 s1 proc _ D0.out.at_ (O0.out.mono (by omega)) hp (fun W hW => HT W ((D0.out.bel h).trans hW)) E1)
  have HE1 := Lib.hid E1
  clear h ho HT E1
  have hs1 := hs _ _ HE1.out
  subst hs1
  have HKK := Lib.hid hkk
  clear hkk
  have hz := ok_sizes hko
  have KC := Lib.hid (fun W => implCallOk_c c hc.n hc.d hc.t W)
  rw [hko] at KC
  obtain ⟨m2, ⟨x, y⟩, E2⟩ : ∃ aa bb, (loadP proc c.a).run m1 = (aa, bb) := ⟨_, _, rfl⟩
  obtain ⟨e1, e2⟩ := Prod.mk.inj ((show (m2, (⟨y, 0, x⟩ : Ans)) = (callP proc c).run m from by
    unfold callP
    simp only [Pg.run_bind, HE1.out, hko, ↓reduceIte, kind21 HKK.out, E2, Pg.run_pure]; rfl).trans E)
  subst e1 e2
  have HE2 := Lib.hid E2
  have KM := Lib.hid (fun W u1 u2 u3 (d : DAt p base v1 v2 v3 w [.int .i64 c.kind, .string c.name, .string c.dest, .int .i64 c.a, .int .i64 c.b, .string c.text] [.int .i64 0, .int .i64 0, .string ⟨#[]⟩] W u1 u2 u3 m1) => pLoad_c p base u1 u2 u3 m1 m2 x y proc c.a W d.at_ (O1.out.mono (by omega)) hp (fun X hX => HTT.out X ((d.bel H.out).trans hX)) HE2.out)
  clear E E2 hs
  go_enter Tryz.func60, Tryz.ntmps60
  go_wp2_with fail
  refine K1.out.mono ?_
  rintro e w1 ⟨u1, u2, u3, rfl, hm, hg, q1, q2, q3⟩
  have D1 := Lib.hid (D0.out.next hm hg q1 q2 q3)
  clear hm hg q1 q2 q3 K1 D0
  have k10 := (DAt.bc D1.out).cell 0 _ rfl
  have k11 := (DAt.bc D1.out).cell 1 _ rfl
  have k12 := (DAt.bc D1.out).cell 2 _ rfl
  have k13 := (DAt.bc D1.out).cell 3 _ rfl
  have k14 := (DAt.bc D1.out).cell 4 _ rfl
  have k15 := (DAt.bc D1.out).cell 5 _ rfl
  go_wp2_with fail
  refine (KC.out _).mono ?_
  rintro e w2 ⟨rfl, hb⟩
  clear k10 k11 k12 k13 k14 k15
  have D2 := Lib.hid (D1.out.below hb)
  clear hb D1
  have k20 := (DAt.bc D2.out).cell 0 _ rfl
  have k21 := (DAt.bc D2.out).cell 1 _ rfl
  have k22 := (DAt.bc D2.out).cell 2 _ rfl
  have k23 := (DAt.bc D2.out).cell 3 _ rfl
  have k24 := (DAt.bc D2.out).cell 4 _ rfl
  have k25 := (DAt.bc D2.out).cell 5 _ rfl
  rw [HKK.out] at k20
  go_wp2_with fail
  refine (KM.out _ _ _ _ D2.out).mono ?_
  rintro e w3 ⟨u4, u5, u6, rfl, hm, hg, q1, q2, q3⟩
  clear k20 k21 k22 k23 k24 k25
  have D3 := Lib.hid (D2.out.next hm hg q1 q2 q3)
  clear hm hg q1 q2 q3 KM D2 H
  have a30 := (DAt.ba D3.out).cell 0 _ rfl
  have a31 := (DAt.ba D3.out).cell 1 _ rfl
  have a32 := (DAt.ba D3.out).cell 2 _ rfl
  have f30 := (DAt.ba D3.out).free 0
  have f31 := (DAt.ba D3.out).free 1
  have f32 := (DAt.ba D3.out).free 2
  obtain ⟨ys3, hy3, by3⟩ := DAt.br D3.out
  obtain ⟨r03, r13, r23, hys3⟩ := three_of hy3
  subst hys3
  have r30c := by3.cell 0 _ rfl
  have r31c := by3.cell 1 _ rfl
  have r32c := by3.cell 2 _ rfl
  have r30f := by3.free 0
  have r31f := by3.free 1
  have r32f := by3.free 2
  have D4 := Lib.hid ((D3.out.seta 2 (.string x)).seta 0 (.int .i64 y))
  have HEND := Lib.hid (D4.out.done (.agg #[.int .i64 y, .int .i64 0, .string x]) (.int .i64 y) (.int .i64 0) (.string x))
  clear D3 D4
  go_wp2
  exact bodyPost_ret (v := .agg #[.int .i64 y, .int .i64 0, .string x]) (by simp [results, Tryz.results60, go_sem, *]) rfl HEND.out

set_option maxRecDepth 100000 in
set_option maxHeartbeats 8000000 in
theorem kdo12_c (p base : Nat) (v1 v2 v3 : Value) (m m' : Mch) (a : Ans) (proc : Int) (c : Cal) (w : World) (h : MAt w p base v1 v2 v3 m) (ho : MOk 100000000000 m) (hp : I64 proc) (hc : COk c) (HT : ∀ W, Below base w W → Tabs W) (hs : ∀ m1 s, (stateP proc).run m = (m1, s) → s = 1) (hko : callOkB c = true) (hkk : c.kind = 12) (E : (callP proc c).run m = (m', a)) :
    Calls Tryz.prog 60 #[.pointer (some ⟨p, 0, none⟩), .int .i64 proc, .agg #[.int .i64 c.kind, .string c.name, .string c.dest, .int .i64 c.a, .int .i64 c.b, .string c.text]] w (MStep p base v1 v2 v3 m' (.agg #[.int .i64 a.code, .int .i64 a.n, .string a.text]) w) := by
  have D0 := Lib.hid (DAt.first h [.int .i64 c.kind, .string c.name, .string c.dest, .int .i64 c.a, .int .i64 c.b, .string c.text] 36 28 28)
  have H := Lib.hid h
  have HTT := Lib.hid (fun W (b : Below base w W) => HT W b)
  have O0 := Lib.hid ho
  obtain ⟨m1, s1, E1⟩ : ∃ aa bb, (stateP proc).run m = (aa, bb) := ⟨_, _, rfl⟩
  have O1 := Lib.hid ((stateP_cost _).okE O0.out E1)
  have K1 := Lib.hid (pState_c p base v1 v2 v3 m m1 s1 proc _ D0.out.at_ (O0.out.mono (by omega)) hp (fun W hW => HT W ((D0.out.bel h).trans hW)) E1)
  have HE1 := Lib.hid E1
  clear h ho HT E1
  have hs1 := hs _ _ HE1.out
  subst hs1
  have HKK := Lib.hid hkk
  clear hkk
  have hz := ok_sizes hko
  have KC := Lib.hid (fun W => implCallOk_c c hc.n hc.d hc.t W)
  rw [hko] at KC
  obtain ⟨m2, ⟨x, y⟩, E2⟩ : ∃ aa bb, (spawnP proc).run m1 = (aa, bb) := ⟨_, _, rfl⟩
  have hx := spawn_bounds E2
  have O2 := Lib.hid ((spawnP_cost _).okE O1.out E2)
  have HE2 := Lib.hid E2
  have KM := Lib.hid (fun W u1 u2 u3 (d : DAt p base v1 v2 v3 w [.int .i64 c.kind, .string c.name, .string c.dest, .int .i64 c.a, .int .i64 c.b, .string c.text] [.int .i64 0, .int .i64 0, .string ⟨#[]⟩] W u1 u2 u3 m1) => pSpawn_c p base u1 u2 u3 m1 m2 x y proc W d.at_ (O1.out.mono (by omega)) (fun X hX => HTT.out X ((d.bel H.out).trans hX)) HE2.out)
  clear E2 hs
  by_cases hy0 : y = 0
  · subst hy0
    obtain ⟨m3, u, E3⟩ : ∃ aa bb, (forkP proc x).run m2 = (aa, bb) := ⟨_, _, rfl⟩
    obtain ⟨e1, e2⟩ := Prod.mk.inj ((show (m3, (⟨0, x, noB⟩ : Ans)) = (callP proc c).run m from by
      unfold callP
      simp only [Pg.run_bind, HE1.out, hko, ↓reduceIte, kind12 HKK.out]
      unfold spawnAllP
      simp only [Pg.run_bind, HE2.out, ↓reduceIte, E3, Pg.run_pure]; rfl).trans E)
    subst e1 e2
    have HE3 := Lib.hid E3
    have KF := Lib.hid (fun W u1 u2 u3 (d : DAt p base v1 v2 v3 w [.int .i64 c.kind, .string c.name, .string c.dest, .int .i64 c.a, .int .i64 c.b, .string c.text] [.int .i64 0, .int .i64 x, .string ⟨#[]⟩] W u1 u2 u3 m2) => pFork_c p base u1 u2 u3 m2 m3 u proc x W d.at_ (O2.out.mono (by omega)) hp (i64_of hx) (fun X hX => HTT.out X ((d.bel H.out).trans hX)) HE3.out)
    clear E E3
    go_enter Tryz.func60, Tryz.ntmps60
    go_wp2_with fail
    refine K1.out.mono ?_
    rintro e w1 ⟨u1, u2, u3, rfl, hm, hg, q1, q2, q3⟩
    have D1 := Lib.hid (D0.out.next hm hg q1 q2 q3)
    clear hm hg q1 q2 q3 K1 D0
    have k10 := (DAt.bc D1.out).cell 0 _ rfl
    have k11 := (DAt.bc D1.out).cell 1 _ rfl
    have k12 := (DAt.bc D1.out).cell 2 _ rfl
    have k13 := (DAt.bc D1.out).cell 3 _ rfl
    have k14 := (DAt.bc D1.out).cell 4 _ rfl
    have k15 := (DAt.bc D1.out).cell 5 _ rfl
    go_wp2_with fail
    refine (KC.out _).mono ?_
    rintro e w2 ⟨rfl, hb⟩
    clear k10 k11 k12 k13 k14 k15
    have D2 := Lib.hid (D1.out.below hb)
    clear hb D1
    have k20 := (DAt.bc D2.out).cell 0 _ rfl
    have k21 := (DAt.bc D2.out).cell 1 _ rfl
    have k22 := (DAt.bc D2.out).cell 2 _ rfl
    have k23 := (DAt.bc D2.out).cell 3 _ rfl
    have k24 := (DAt.bc D2.out).cell 4 _ rfl
    have k25 := (DAt.bc D2.out).cell 5 _ rfl
    rw [HKK.out] at k20
    go_wp2_with fail
    refine (KM.out _ _ _ _ D2.out).mono ?_
    rintro e w3 ⟨u4, u5, u6, rfl, hm, hg, q1, q2, q3⟩
    clear k20 k21 k22 k23 k24 k25
    have D3 := Lib.hid (D2.out.next hm hg q1 q2 q3)
    clear hm hg q1 q2 q3 KM D2
    have a30 := (DAt.ba D3.out).cell 0 _ rfl
    have a31 := (DAt.ba D3.out).cell 1 _ rfl
    have a32 := (DAt.ba D3.out).cell 2 _ rfl
    have f30 := (DAt.ba D3.out).free 0
    have f31 := (DAt.ba D3.out).free 1
    have f32 := (DAt.ba D3.out).free 2
    have D4 := Lib.hid ((D3.out.seta 1 (.int .i64 x)).seta 0 (.int .i64 0))
    clear D3
    go_wp2_with fail
    refine (KF.out _ _ _ _ D4.out).mono ?_
    rintro e w5 ⟨u7, u8, u9, rfl, hm, hg, q1, q2, q3⟩
    clear a30 a31 a32 f30 f31 f32
    have D5 := Lib.hid (D4.out.next hm hg q1 q2 q3)
    clear hm hg q1 q2 q3 KF D4 H
    have a50 := (DAt.ba D5.out).cell 0 _ rfl
    have a51 := (DAt.ba D5.out).cell 1 _ rfl
    have a52 := (DAt.ba D5.out).cell 2 _ rfl
    have f50 := (DAt.ba D5.out).free 0
    have f51 := (DAt.ba D5.out).free 1
    have f52 := (DAt.ba D5.out).free 2
    obtain ⟨ys5, hy5, by5⟩ := DAt.br D5.out
    obtain ⟨r05, r15, r25, hys5⟩ := three_of hy5
    subst hys5
    have r50c := by5.cell 0 _ rfl
    have r51c := by5.cell 1 _ rfl
    have r52c := by5.cell 2 _ rfl
    have r50f := by5.free 0
    have r51f := by5.free 1
    have r52f := by5.free 2
    have HEND := Lib.hid (D5.out.done (.agg #[.int .i64 0, .int .i64 x, .string ⟨#[]⟩]) (.int .i64 0) (.int .i64 x) (.string ⟨#[]⟩))
    clear D5
    go_wp2
    exact bodyPost_ret (v := .agg #[.int .i64 0, .int .i64 x, .string ⟨#[]⟩]) (by simp [results, Tryz.results60, go_sem, *]) rfl HEND.out
  · obtain ⟨e1, e2⟩ := Prod.mk.inj ((show (m2, (⟨y, x, noB⟩ : Ans)) = (callP proc c).run m from by
      unfold callP
      simp only [Pg.run_bind, HE1.out, hko, ↓reduceIte, kind12 HKK.out]
      unfold spawnAllP
      simp only [Pg.run_bind, HE2.out, hy0, ↓reduceIte, Pg.run_pure]; rfl).trans E)
    subst e1 e2
    clear E
    go_enter Tryz.func60, Tryz.ntmps60
    go_wp2_with fail
    refine K1.out.mono ?_
    rintro e w1 ⟨u1, u2, u3, rfl, hm, hg, q1, q2, q3⟩
    have D1 := Lib.hid (D0.out.next hm hg q1 q2 q3)
    clear hm hg q1 q2 q3 K1 D0
    have k10 := (DAt.bc D1.out).cell 0 _ rfl
    have k11 := (DAt.bc D1.out).cell 1 _ rfl
    have k12 := (DAt.bc D1.out).cell 2 _ rfl
    have k13 := (DAt.bc D1.out).cell 3 _ rfl
    have k14 := (DAt.bc D1.out).cell 4 _ rfl
    have k15 := (DAt.bc D1.out).cell 5 _ rfl
    go_wp2_with fail
    refine (KC.out _).mono ?_
    rintro e w2 ⟨rfl, hb⟩
    clear k10 k11 k12 k13 k14 k15
    have D2 := Lib.hid (D1.out.below hb)
    clear hb D1
    have k20 := (DAt.bc D2.out).cell 0 _ rfl
    have k21 := (DAt.bc D2.out).cell 1 _ rfl
    have k22 := (DAt.bc D2.out).cell 2 _ rfl
    have k23 := (DAt.bc D2.out).cell 3 _ rfl
    have k24 := (DAt.bc D2.out).cell 4 _ rfl
    have k25 := (DAt.bc D2.out).cell 5 _ rfl
    rw [HKK.out] at k20
    go_wp2_with fail
    refine (KM.out _ _ _ _ D2.out).mono ?_
    rintro e w3 ⟨u4, u5, u6, rfl, hm, hg, q1, q2, q3⟩
    clear k20 k21 k22 k23 k24 k25
    have D3 := Lib.hid (D2.out.next hm hg q1 q2 q3)
    clear hm hg q1 q2 q3 KM D2
    have a30 := (DAt.ba D3.out).cell 0 _ rfl
    have a31 := (DAt.ba D3.out).cell 1 _ rfl
    have a32 := (DAt.ba D3.out).cell 2 _ rfl
    have f30 := (DAt.ba D3.out).free 0
    have f31 := (DAt.ba D3.out).free 1
    have f32 := (DAt.ba D3.out).free 2
    obtain ⟨ys3, hy3, by3⟩ := DAt.br D3.out
    obtain ⟨r03, r13, r23, hys3⟩ := three_of hy3
    subst hys3
    have r30c := by3.cell 0 _ rfl
    have r31c := by3.cell 1 _ rfl
    have r32c := by3.cell 2 _ rfl
    have r30f := by3.free 0
    have r31f := by3.free 1
    have r32f := by3.free 2
    have HEND := Lib.hid (((D3.out.seta 1 (.int .i64 x)).seta 0 (.int .i64 y)).done (.agg #[.int .i64 y, .int .i64 x, .string ⟨#[]⟩]) (.int .i64 y) (.int .i64 x) (.string ⟨#[]⟩))
    clear D3 H
    go_wp2
    exact bodyPost_ret (v := .agg #[.int .i64 y, .int .i64 x, .string ⟨#[]⟩]) (by simp [results, Tryz.results60, go_sem, *]) rfl HEND.out

set_option maxRecDepth 100000 in
set_option maxHeartbeats 8000000 in
theorem kdo13_c (p base : Nat) (v1 v2 v3 : Value) (m m' : Mch) (a : Ans) (proc : Int) (c : Cal) (w : World) (h : MAt w p base v1 v2 v3 m) (ho : MOk 100000000000 m) (hp : I64 proc) (hc : COk c) (HT : ∀ W, Below base w W → Tabs W) (hs : ∀ m1 s, (stateP proc).run m = (m1, s) → s = 1) (hko : callOkB c = true) (hkk : c.kind = 13) (E : (callP proc c).run m = (m', a)) :
    Calls Tryz.prog 60 #[.pointer (some ⟨p, 0, none⟩), .int .i64 proc, .agg #[.int .i64 c.kind, .string c.name, .string c.dest, .int .i64 c.a, .int .i64 c.b, .string c.text]] w (MStep p base v1 v2 v3 m' (.agg #[.int .i64 a.code, .int .i64 a.n, .string a.text]) w) := by
  have D0 := Lib.hid (DAt.first h [.int .i64 c.kind, .string c.name, .string c.dest, .int .i64 c.a, .int .i64 c.b, .string c.text] 36 28 28)
  have H := Lib.hid h
  have HTT := Lib.hid (fun W (b : Below base w W) => HT W b)
  have O0 := Lib.hid ho
  obtain ⟨m1, s1, E1⟩ : ∃ aa bb, (stateP proc).run m = (aa, bb) := ⟨_, _, rfl⟩
  have O1 := Lib.hid ((stateP_cost _).okE O0.out E1)
  have K1 := Lib.hid (pState_c p base v1 v2 v3 m m1 s1 proc _ D0.out.at_ (O0.out.mono (by omega)) hp (fun W hW => HT W ((D0.out.bel h).trans hW)) E1)
  have HE1 := Lib.hid E1
  clear h ho HT E1
  have hs1 := hs _ _ HE1.out
  subst hs1
  have HKK := Lib.hid hkk
  clear hkk
  have hz := ok_sizes hko
  have KC := Lib.hid (fun W => implCallOk_c c hc.n hc.d hc.t W)
  rw [hko] at KC
  obtain ⟨m2, y, E2⟩ : ∃ aa bb, (endP proc c.a).run m1 = (aa, bb) := ⟨_, _, rfl⟩
  have O2 := Lib.hid ((endP_cost _ _).okE O1.out E2)
  have HE2 := Lib.hid E2
  have KM := Lib.hid (fun W u1 u2 u3 (d : DAt p base v1 v2 v3 w [.int .i64 c.kind, .string c.name, .string c.dest, .int .i64 c.a, .int .i64 c.b, .string c.text] [.int .i64 0, .int .i64 0, .string ⟨#[]⟩] W u1 u2 u3 m1) => pEnd_c p base u1 u2 u3 m1 m2 y proc c.a W d.at_ (O1.out.mono (by omega)) hp (fun X hX => HTT.out X ((d.bel H.out).trans hX)) HE2.out)
  clear E2 hs
  by_cases hy0 : y = 0
  · subst hy0
    obtain ⟨m3, u, E3⟩ : ∃ aa bb, (dropPagesP proc).run m2 = (aa, bb) := ⟨_, _, rfl⟩
    obtain ⟨e1, e2⟩ := Prod.mk.inj ((show (m3, (⟨0, 0, noB⟩ : Ans)) = (callP proc c).run m from by
      unfold callP
      simp only [Pg.run_bind, HE1.out, hko, ↓reduceIte, kind13 HKK.out]
      unfold endAllP
      simp only [Pg.run_bind, HE2.out, ↓reduceIte, E3, Pg.run_pure]; rfl).trans E)
    subst e1 e2
    have HE3 := Lib.hid E3
    have KF := Lib.hid (fun W u1 u2 u3 (d : DAt p base v1 v2 v3 w [.int .i64 c.kind, .string c.name, .string c.dest, .int .i64 c.a, .int .i64 c.b, .string c.text] [.int .i64 0, .int .i64 0, .string ⟨#[]⟩] W u1 u2 u3 m2) => pDrop_c p base u1 u2 u3 m2 m3 u proc W d.at_ (O2.out.mono (by omega)) hp (fun X hX => HTT.out X ((d.bel H.out).trans hX)) HE3.out)
    clear E E3
    go_enter Tryz.func60, Tryz.ntmps60
    go_wp2_with fail
    refine K1.out.mono ?_
    rintro e w1 ⟨u1, u2, u3, rfl, hm, hg, q1, q2, q3⟩
    have D1 := Lib.hid (D0.out.next hm hg q1 q2 q3)
    clear hm hg q1 q2 q3 K1 D0
    have k10 := (DAt.bc D1.out).cell 0 _ rfl
    have k11 := (DAt.bc D1.out).cell 1 _ rfl
    have k12 := (DAt.bc D1.out).cell 2 _ rfl
    have k13 := (DAt.bc D1.out).cell 3 _ rfl
    have k14 := (DAt.bc D1.out).cell 4 _ rfl
    have k15 := (DAt.bc D1.out).cell 5 _ rfl
    go_wp2_with fail
    refine (KC.out _).mono ?_
    rintro e w2 ⟨rfl, hb⟩
    clear k10 k11 k12 k13 k14 k15
    have D2 := Lib.hid (D1.out.below hb)
    clear hb D1
    have k20 := (DAt.bc D2.out).cell 0 _ rfl
    have k21 := (DAt.bc D2.out).cell 1 _ rfl
    have k22 := (DAt.bc D2.out).cell 2 _ rfl
    have k23 := (DAt.bc D2.out).cell 3 _ rfl
    have k24 := (DAt.bc D2.out).cell 4 _ rfl
    have k25 := (DAt.bc D2.out).cell 5 _ rfl
    rw [HKK.out] at k20
    go_wp2_with fail
    refine (KM.out _ _ _ _ D2.out).mono ?_
    rintro e w3 ⟨u4, u5, u6, rfl, hm, hg, q1, q2, q3⟩
    clear k20 k21 k22 k23 k24 k25
    have D3 := Lib.hid (D2.out.next hm hg q1 q2 q3)
    clear hm hg q1 q2 q3 KM D2
    have a30 := (DAt.ba D3.out).cell 0 _ rfl
    have a31 := (DAt.ba D3.out).cell 1 _ rfl
    have a32 := (DAt.ba D3.out).cell 2 _ rfl
    have f30 := (DAt.ba D3.out).free 0
    have f31 := (DAt.ba D3.out).free 1
    have f32 := (DAt.ba D3.out).free 2
    have D4 := Lib.hid (D3.out.seta 0 (.int .i64 0))
    clear D3
    go_wp2_with fail
    refine (KF.out _ _ _ _ D4.out).mono ?_
    rintro e w5 ⟨u7, u8, u9, rfl, hm, hg, q1, q2, q3⟩
    clear a30 a31 a32 f30 f31 f32
    have D5 := Lib.hid (D4.out.next hm hg q1 q2 q3)
    clear hm hg q1 q2 q3 KF D4 H
    have a50 := (DAt.ba D5.out).cell 0 _ rfl
    have a51 := (DAt.ba D5.out).cell 1 _ rfl
    have a52 := (DAt.ba D5.out).cell 2 _ rfl
    have f50 := (DAt.ba D5.out).free 0
    have f51 := (DAt.ba D5.out).free 1
    have f52 := (DAt.ba D5.out).free 2
    obtain ⟨ys5, hy5, by5⟩ := DAt.br D5.out
    obtain ⟨r05, r15, r25, hys5⟩ := three_of hy5
    subst hys5
    have r50c := by5.cell 0 _ rfl
    have r51c := by5.cell 1 _ rfl
    have r52c := by5.cell 2 _ rfl
    have r50f := by5.free 0
    have r51f := by5.free 1
    have r52f := by5.free 2
    have HEND := Lib.hid (D5.out.done (.agg #[.int .i64 0, .int .i64 0, .string ⟨#[]⟩]) (.int .i64 0) (.int .i64 0) (.string ⟨#[]⟩))
    clear D5
    go_wp2
    exact bodyPost_ret (v := .agg #[.int .i64 0, .int .i64 0, .string ⟨#[]⟩]) (by simp [results, Tryz.results60, go_sem, *]) rfl HEND.out
  · obtain ⟨e1, e2⟩ := Prod.mk.inj ((show (m2, (⟨y, 0, noB⟩ : Ans)) = (callP proc c).run m from by
      unfold callP
      simp only [Pg.run_bind, HE1.out, hko, ↓reduceIte, kind13 HKK.out]
      unfold endAllP
      simp only [Pg.run_bind, HE2.out, hy0, ↓reduceIte, Pg.run_pure]; rfl).trans E)
    subst e1 e2
    clear E
    go_enter Tryz.func60, Tryz.ntmps60
    go_wp2_with fail
    refine K1.out.mono ?_
    rintro e w1 ⟨u1, u2, u3, rfl, hm, hg, q1, q2, q3⟩
    have D1 := Lib.hid (D0.out.next hm hg q1 q2 q3)
    clear hm hg q1 q2 q3 K1 D0
    have k10 := (DAt.bc D1.out).cell 0 _ rfl
    have k11 := (DAt.bc D1.out).cell 1 _ rfl
    have k12 := (DAt.bc D1.out).cell 2 _ rfl
    have k13 := (DAt.bc D1.out).cell 3 _ rfl
    have k14 := (DAt.bc D1.out).cell 4 _ rfl
    have k15 := (DAt.bc D1.out).cell 5 _ rfl
    go_wp2_with fail
    refine (KC.out _).mono ?_
    rintro e w2 ⟨rfl, hb⟩
    clear k10 k11 k12 k13 k14 k15
    have D2 := Lib.hid (D1.out.below hb)
    clear hb D1
    have k20 := (DAt.bc D2.out).cell 0 _ rfl
    have k21 := (DAt.bc D2.out).cell 1 _ rfl
    have k22 := (DAt.bc D2.out).cell 2 _ rfl
    have k23 := (DAt.bc D2.out).cell 3 _ rfl
    have k24 := (DAt.bc D2.out).cell 4 _ rfl
    have k25 := (DAt.bc D2.out).cell 5 _ rfl
    rw [HKK.out] at k20
    go_wp2_with fail
    refine (KM.out _ _ _ _ D2.out).mono ?_
    rintro e w3 ⟨u4, u5, u6, rfl, hm, hg, q1, q2, q3⟩
    clear k20 k21 k22 k23 k24 k25
    have D3 := Lib.hid (D2.out.next hm hg q1 q2 q3)
    clear hm hg q1 q2 q3 KM D2
    have a30 := (DAt.ba D3.out).cell 0 _ rfl
    have a31 := (DAt.ba D3.out).cell 1 _ rfl
    have a32 := (DAt.ba D3.out).cell 2 _ rfl
    have f30 := (DAt.ba D3.out).free 0
    have f31 := (DAt.ba D3.out).free 1
    have f32 := (DAt.ba D3.out).free 2
    obtain ⟨ys3, hy3, by3⟩ := DAt.br D3.out
    obtain ⟨r03, r13, r23, hys3⟩ := three_of hy3
    subst hys3
    have r30c := by3.cell 0 _ rfl
    have r31c := by3.cell 1 _ rfl
    have r32c := by3.cell 2 _ rfl
    have r30f := by3.free 0
    have r31f := by3.free 1
    have r32f := by3.free 2
    have HEND := Lib.hid ((D3.out.seta 0 (.int .i64 y)).done (.agg #[.int .i64 y, .int .i64 0, .string ⟨#[]⟩]) (.int .i64 y) (.int .i64 0) (.string ⟨#[]⟩))
    clear D3 H
    go_wp2
    exact bodyPost_ret (v := .agg #[.int .i64 y, .int .i64 0, .string ⟨#[]⟩]) (by simp [results, Tryz.results60, go_sem, *]) rfl HEND.out
end Go.Proofs.YtihghflppegnmaaGreatDoor
namespace Go.Proofs.YtihghflppegnmaaGreatDoor
open Go.RowKit
attribute [local go_sem ↓] Go.wp_at_zero Go.wp_at_succ
/-- c is not behind p. -/
def leB (c p : ByteArray) : Bool := Op.bytesLess c.toList p.toList || c.toList == p.toList
theorem less_tot : ∀ x y : List UInt8, (!(Op.bytesLess x y)) = (Op.bytesLess y x || y == x)
  | [], [] => rfl
  | [], b :: y => by simp [Op.bytesLess]
  | a :: x, [] => by simp [Op.bytesLess]
  | a :: x, b :: y => by
    have ih := less_tot x y
    unfold Op.bytesLess
    rcases Nat.lt_trichotomy a.toNat b.toNat with h | h | h
    · have h1 : a < b := UInt8.lt_iff_toNat_lt.2 h
      have h2 : ¬ b < a := by rw [UInt8.lt_iff_toNat_lt]; omega
      have h3 : b ≠ a := by rintro rfl; omega
      simp [h1, h2, h3]
    · have h0 : a = b := UInt8.toNat_inj.1 h
      subst h0
      have h1 : ¬ a < a := by rw [UInt8.lt_iff_toNat_lt]; omega
      simp [h1, ih]
    · have h1 : ¬ a < b := by rw [UInt8.lt_iff_toNat_lt]; omega
      have h2 : b < a := UInt8.lt_iff_toNat_lt.2 h
      have h3 : a ≠ b := by rintro rfl; omega
      simp [h1, h2, h3]
theorem leB_spec (c p : ByteArray) : (!(Op.bytesLess p.toList c.toList)) = leB c p := less_tot _ _
/-- The key of the cell ahead does not come before this cell's. -/
def fallB (xs : List (ByteArray × ByteArray)) (k : Nat) (c : ByteArray) : Bool := match k with | 0 => false | j + 1 => (match xs[j]? with | none => false | some d => leB c d.1)
def badCell (xs : List (ByteArray × ByteArray)) (k : Nat) : Bool := match xs[k]? with | none => false | some c => !(keyOkB c.1) || !(inB (c.2.size : Int) 1 60) || fallB xs k c.1
def goodUp (xs : List (ByteArray × ByteArray)) (k : Nat) : Prop := ∀ j, j < k → badCell xs j = false
/-- A store is well formed. -/
def storeOkB (xs : List (ByteArray × ByteArray)) : Bool := (List.range xs.length).all (fun j => !(badCell xs j)) && decide ((xs.length : Int) ≤ 900)
theorem goodUp_zero (xs : List (ByteArray × ByteArray)) : goodUp xs 0 := fun _ h => absurd h (Nat.not_lt_zero _)
theorem bad_is {xs : List (ByteArray × ByteArray)} {k : Nat} {x : ByteArray × ByteArray} (hx : xs[k]? = some x) : badCell xs k = (!(keyOkB x.1) || !(inB (x.2.size : Int) 1 60) || fallB xs k x.1) := by unfold badCell; rw [hx]
theorem goodUp_succ {xs : List (ByteArray × ByteArray)} {k : Nat} (h : goodUp xs k) (hb : badCell xs k = false) : goodUp xs (k + 1) := by
  intro j hj
  by_cases e : j = k
  · subst e; exact hb
  · exact h j (by omega)
theorem store_no {xs : List (ByteArray × ByteArray)} {k : Nat} (hk : k < xs.length) (hb : badCell xs k = true) : storeOkB xs = false := by
  have : (List.range xs.length).all (fun j => !(badCell xs j)) = false := by
    rw [List.all_eq_false]
    exact ⟨k, List.mem_range.2 hk, by simp [hb]⟩
  simp [storeOkB, this]
theorem store_end {xs : List (ByteArray × ByteArray)} {k : Nat} (h : goodUp xs k) (hk : xs.length ≤ k) : storeOkB xs = decide ((xs.length : Int) ≤ 900) := by
  have : (List.range xs.length).all (fun j => !(badCell xs j)) = true := by
    rw [List.all_eq_true]
    intro j hj
    simp [h j (by have := List.mem_range.1 hj; omega)]
  simp [storeOkB, this]

theorem fall_zero {xs : List (ByteArray × ByteArray)} {c : ByteArray} : fallB xs 0 c = false := rfl
theorem fall_succ {xs : List (ByteArray × ByteArray)} {j : Nat} {d : ByteArray × ByteArray} {c : ByteArray} (hd : xs[j]? = some d) : fallB xs (j + 1) c = leB c d.1 := by simp [fallB, hd]

set_option maxRecDepth 100000 in
set_option maxHeartbeats 4000000 in
theorem specStoreOk_c (a : Option Addr) (cap : Nat) (xs : List (ByteArray × ByteArray)) (w : World) (hlen : xs.length ≤ maxLen) (hr : Reads w a 2 encC xs) (ho : ∀ x ∈ xs, x.1.size ≤ maxLen ∧ x.2.size ≤ maxLen) :
    Calls Tryz.prog 19 #[.slice a xs.length cap] w fun e w' => e = .returned (.bool (storeOkB xs)) ∧ Below w.heap.size w w' := by
  have HR := Lib.hid hr
  have HO := Lib.hid ho
  clear hr ho
  unfold maxLen at hlen
  go_enter Tryz.func19, Tryz.ntmps19
  go_wp2
  go_loopw [3] (fun i wr => ∃ k : Nat, k ≤ xs.length ∧ i = .int .i64 k ∧ goodUp xs k ∧ Below w.heap.size w wr) (fun i _ => xs.length - (intOf i).toNat)
  case atStart => exact ⟨0, Nat.zero_le _, rfl, goodUp_zero _, (by repeat (first | exact Below.refl _ _ | assumption | refine Below.alloc ?_ (by simp <;> omega) _ | refine Below.setCell ?_ (by simp <;> omega) _ | refine Below.drew ?_))⟩
  case round =>
    obtain ⟨k, hk, rfl, hup, hb⟩ := hrel
    by_cases hlt : k < xs.length
    · obtain ⟨x, hx⟩ := some_of_lt hlt
      obtain ⟨b, off, rfl, c0, c1⟩ := readFC HR.out hb hx
      have p1 : (0 : Int) ≤ (k : Int) := by omega
      have p2 : (k : Int) < (xs.length : Int) := by omega
      have HX1 := Lib.hid (HO.out x (List.mem_of_getElem? hx)).1
      have HB := Lib.hid (bad_is hx)
      clear hx
      obtain ⟨x0, x1⟩ := x
      dsimp only at c0 c1 HB HX1
      cases hq : keyOkB x0 with
      | false =>
        have HN := Lib.hid (store_no hlt (HB.out.trans (by simp [hq])))
        have HK := Lib.hid (show ∀ W, Calls Tryz.prog 69 #[.string x0] W fun e w' => e = .returned (.bool false) ∧ W = w' from fun W => by rw [← hq]; exact specKeyOk_c x0 W HX1.out)
        clear hq hup
        go_wp2_with fail
        go_quiet (first | (go_at_call 69; exact Calls.quiet_of_same ((HK.out _).mono fun e w' h => ⟨h.1, h.2.symm⟩)))
        go_wp2
        go_ret
        exact ⟨by rw [HN.out]; rfl, (by repeat (first | exact Below.refl _ _ | refine Below.drew ?_ | refine below_drewN ?_ _ | refine Below.allocC ?_ _ | refine Below.setCell ?_ (by first | (simp; done) | (simp; omega)) _ | refine Below.chain ?_ (by assumption)))⟩
      | true =>
        cases hi : inB (x1.size : Int) 1 60 with
        | false =>
          have HN := Lib.hid (store_no hlt (HB.out.trans (by simp [hi])))
          have HK := Lib.hid (show ∀ W, Calls Tryz.prog 69 #[.string x0] W fun e w' => e = .returned (.bool true) ∧ W = w' from fun W => by rw [← hq]; exact specKeyOk_c x0 W HX1.out)
          have HI := Lib.hid (show ∀ W, Calls Tryz.prog 70 #[.int .i64 (x1.size : Int), .int .i64 1, .int .i64 60] W fun e w' => e = .returned (.bool false) ∧ W = w' from fun W => by rw [← hi]; exact l01In_c _ _ _ W)
          clear hq hi hup
          go_wp2_with fail
          go_quiet (first | (go_at_call 69; exact Calls.quiet_of_same ((HK.out _).mono fun e w' h => ⟨h.1, h.2.symm⟩)) | (go_at_call 70; exact Calls.quiet_of_same ((HI.out _).mono fun e w' h => ⟨h.1, h.2.symm⟩)))
          go_wp2
          go_ret
          exact ⟨by rw [HN.out]; rfl, (by repeat (first | exact Below.refl _ _ | refine Below.drew ?_ | refine below_drewN ?_ _ | refine Below.allocC ?_ _ | refine Below.setCell ?_ (by first | (simp; done) | (simp; omega)) _ | refine Below.chain ?_ (by assumption)))⟩
        | true =>
          rcases Nat.eq_zero_or_pos k with hz | hpos
          · have hs := goodUp_succ hup (HB.out.trans (by rw [hq, hi, hz, fall_zero]; rfl))
            have pz : decide ((0 : Int) < (k : Int)) = false := by simp; omega
            have pz2 : decide (0 < k) = false := by simp; omega
            clear hz
            have HK := Lib.hid (show ∀ W, Calls Tryz.prog 69 #[.string x0] W fun e w' => e = .returned (.bool true) ∧ W = w' from fun W => by rw [← hq]; exact specKeyOk_c x0 W HX1.out)
            have HI := Lib.hid (show ∀ W, Calls Tryz.prog 70 #[.int .i64 (x1.size : Int), .int .i64 1, .int .i64 60] W fun e w' => e = .returned (.bool true) ∧ W = w' from fun W => by rw [← hi]; exact l01In_c _ _ _ W)
            clear hq hi
            go_wp2_with fail
            go_quiet (first | (go_at_call 69; exact Calls.quiet_of_same ((HK.out _).mono fun e w' h => ⟨h.1, h.2.symm⟩)) | (go_at_call 70; exact Calls.quiet_of_same ((HI.out _).mono fun e w' h => ⟨h.1, h.2.symm⟩)))
            go_wp2
            go_roundw
            case rel => exact ⟨k + 1, by omega, by go_num, hs, (by repeat (first | exact Below.refl _ _ | refine Below.drew ?_ | refine below_drewN ?_ _ | refine Below.allocC ?_ _ | refine Below.setCell ?_ (by first | (simp; done) | (simp; omega)) _ | refine Below.chain ?_ (by assumption)))⟩
            case measure => simp [intOf]; omega
          · obtain ⟨j, rfl⟩ : ∃ j, k = j + 1 := ⟨k - 1, by omega⟩
            obtain ⟨d, hd⟩ := some_of_lt (xs := xs) (k := j) (by omega)
            obtain ⟨b', off', hab, e0, e1⟩ := readFC HR.out hb hd
            cases hab
            have p3 : (0 : Int) < ((j + 1 : Nat) : Int) := by omega
            have p4 : (j : Int) < (xs.length : Int) := by omega
            have p5 : (0 : Int) ≤ (j : Int) := by omega
            have p6 : ((j + 1 : Nat) : Int) - 1 = (j : Int) := by omega
            have p7 : (j : Int) + 1 - 1 = (j : Int) := by omega
            have pw : IntKind.i64.wrap (j : Int) = (j : Int) := by rw [IntKind.wrap_i64]; omega
            have HF := Lib.hid (fall_succ (c := x0) hd)
            clear hd
            obtain ⟨d0, d1⟩ := d
            dsimp only at e0 e1 HF
            have HL := Lib.hid (leB_spec x0 d0)
            have HK := Lib.hid (show ∀ W, Calls Tryz.prog 69 #[.string x0] W fun e w' => e = .returned (.bool true) ∧ W = w' from fun W => by rw [← hq]; exact specKeyOk_c x0 W HX1.out)
            have HI := Lib.hid (show ∀ W, Calls Tryz.prog 70 #[.int .i64 (x1.size : Int), .int .i64 1, .int .i64 60] W fun e w' => e = .returned (.bool true) ∧ W = w' from fun W => by rw [← hi]; exact l01In_c _ _ _ W)
            cases hl : leB x0 d0 with
            | true =>
              have HN := Lib.hid (store_no hlt (HB.out.trans (by rw [HF.out, hl]; simp)))
              have ql : Op.bytesLess d0.toList x0.toList = false := by simpa [hl] using HL.out
              clear hq hi hup hl
              go_wp2_with fail
              go_quiet (first | (go_at_call 69; exact Calls.quiet_of_same ((HK.out _).mono fun e w' h => ⟨h.1, h.2.symm⟩)) | (go_at_call 70; exact Calls.quiet_of_same ((HI.out _).mono fun e w' h => ⟨h.1, h.2.symm⟩)))
              go_wp2
              go_ret
              exact ⟨by rw [HN.out]; rfl, (by repeat (first | exact Below.refl _ _ | refine Below.drew ?_ | refine below_drewN ?_ _ | refine Below.allocC ?_ _ | refine Below.setCell ?_ (by first | (simp; done) | (simp; omega)) _ | refine Below.chain ?_ (by assumption)))⟩
            | false =>
              have hs := goodUp_succ hup (HB.out.trans (by rw [HF.out, hl, hq, hi]; rfl))
              have ql : Op.bytesLess d0.toList x0.toList = true := by simpa [hl] using HL.out
              clear hq hi hl
              go_wp2_with fail
              go_quiet (first | (go_at_call 69; exact Calls.quiet_of_same ((HK.out _).mono fun e w' h => ⟨h.1, h.2.symm⟩)) | (go_at_call 70; exact Calls.quiet_of_same ((HI.out _).mono fun e w' h => ⟨h.1, h.2.symm⟩)))
              go_wp2
              go_roundw
              case rel => exact ⟨j + 1 + 1, by omega, by go_num, hs, (by repeat (first | exact Below.refl _ _ | refine Below.drew ?_ | refine below_drewN ?_ _ | refine Below.allocC ?_ _ | refine Below.setCell ?_ (by first | (simp; done) | (simp; omega)) _ | refine Below.chain ?_ (by assumption)))⟩
              case measure => simp [intOf]; omega
    · have HS := Lib.hid (store_end hup (by omega))
      have p2 : ¬ (k : Int) < (xs.length : Int) := by omega
      go_wp2
      go_ret
      exact ⟨by rw [HS.out]; rfl, hb⟩

end Go.Proofs.YtihghflppegnmaaGreatDoor
namespace Go.Proofs.YtihghflppegnmaaGreatDoor
abbrev Sto := List (ByteArray × ByteArray)
theorem getKey_nil (k : ByteArray) : getKeyS [] k = ByteArray.empty := rfl
theorem getKey_cons (y : ByteArray × ByteArray) (ys : Sto) (k : ByteArray) : getKeyS (y :: ys) k = if eqB y.1 k then y.2 else getKeyS ys k := by
  unfold getKeyS
  rw [List.findIdx_cons]
  cases h : eqB y.1 k with
  | true => rw [show keyP k y = true from h]; rfl
  | false => rw [show keyP k y = false from h]; rfl
theorem delK_cons (y : ByteArray × ByteArray) (ys : Sto) (k : ByteArray) : delK (y :: ys) k = if eqB y.1 k then delK ys k else y :: delK ys k := by
  unfold delK
  rw [List.filter_cons]
  cases eqB y.1 k <;> rfl
theorem insK_cons (c y : ByteArray × ByteArray) (ys : Sto) : insK c (y :: ys) = if ltB c.1 y.1 then c :: y :: ys else y :: insK c ys := by rw [insK]
theorem delK_none' {xs : Sto} {k : ByteArray} : ∀ x ∈ delK xs k, x.1 ≠ k := fun x hx => by
  have := (List.mem_filter.1 hx).2
  simp only [Bool.not_eq_true'] at this
  exact eqB_false.1 this
theorem getKey_del (xs : Sto) {key k : ByteArray} (h : k ≠ key) : getKeyS (delK xs key) k = getKeyS xs k := by
  induction xs with
  | nil => rfl
  | cons y ys ih =>
    rw [delK_cons, getKey_cons]
    by_cases e : y.1 = key
    · rw [if_pos (eqB_iff.2 e), ih, if_neg (fun a => h ((eqB_iff.1 a).symm.trans e))]
    · rw [if_neg (fun a => e (eqB_iff.1 a)), getKey_cons, ih]
theorem getKey_ins (xs : Sto) {c : ByteArray × ByteArray} {k : ByteArray} (h : k ≠ c.1) : getKeyS (insK c xs) k = getKeyS xs k := by
  induction xs with
  | nil =>
    show getKeyS [c] k = _
    rw [getKey_cons, if_neg (fun a => h (eqB_iff.1 a).symm)]
  | cons y ys ih =>
    rw [insK_cons]
    split
    · rw [getKey_cons, if_neg (fun a => h (eqB_iff.1 a).symm)]
    · rw [getKey_cons, getKey_cons, ih]
theorem getKey_put (xs : Sto) {key val k : ByteArray} (h : k ≠ key) : getKeyS (putV xs key val) k = getKeyS xs k := by
  unfold putV
  split
  · exact getKey_del xs h
  · rw [getKey_ins _ h, getKey_del xs h]
theorem getKey_ins_self (xs : Sto) {c : ByteArray × ByteArray} (h : ∀ x ∈ xs, x.1 ≠ c.1) : getKeyS (insK c xs) c.1 = c.2 := by
  induction xs with
  | nil =>
    show getKeyS [c] c.1 = _
    rw [getKey_cons, if_pos (eqB_self _)]
  | cons y ys ih =>
    rw [insK_cons]
    split
    · rw [getKey_cons, if_pos (eqB_self _)]
    · rw [getKey_cons, if_neg (fun a => h y List.mem_cons_self (eqB_iff.1 a)), ih (fun x hx => h x (List.mem_cons_of_mem _ hx))]
theorem getKey_not (xs : Sto) {k : ByteArray} (h : ∀ x ∈ xs, x.1 ≠ k) : getKeyS xs k = ByteArray.empty := by
  induction xs with
  | nil => rfl
  | cons y ys ih => rw [getKey_cons, if_neg (fun a => h y List.mem_cons_self (eqB_iff.1 a)), ih (fun x hx => h x (List.mem_cons_of_mem _ hx))]
theorem size_zero {v : ByteArray} (h : v.size = 0) : v = ByteArray.empty := by
  apply ByteArray.ext
  exact Array.eq_empty_of_size_eq_zero h
/-- What was put is read. -/
theorem getKey_put_self (xs : Sto) (key val : ByteArray) : getKeyS (putV xs key val) key = val := by
  unfold putV
  split
  · rename_i h
    rw [getKey_not _ delK_none', size_zero h]
  · exact getKey_ins_self _ delK_none'
theorem any_ins (c : ByteArray × ByteArray) (xs : Sto) : (insK c xs).any (keyP c.1) = true := by
  rw [List.any_eq_true]
  refine ⟨c, ?_, eqB_self c.1⟩
  rw [insK_is]
  simp
/-- The key is there just when a value was put. -/
theorem any_put (xs : Sto) (key val : ByteArray) : (putV xs key val).any (keyP key) = !(decide (val.size = 0)) := by
  unfold putV
  split
  · rename_i h
    rw [decide_eq_true h, List.any_eq_false.2]
    · rfl
    · intro x hx e
      exact delK_none' x hx (eqB_iff.1 e)
  · rename_i h
    rw [decide_eq_false h, any_ins (key, val)]
    rfl
theorem delK_same {xs : Sto} {k : ByteArray} (h : ∀ x ∈ xs, x.1 ≠ k) : delK xs k = xs := by
  unfold delK
  rw [List.filter_eq_self]
  intro x hx
  rw [eqB_false.2 (h x hx)]
  rfl
theorem delK_ins_self {xs : Sto} {c : ByteArray × ByteArray} (h : ∀ x ∈ xs, x.1 ≠ c.1) : delK (insK c xs) c.1 = xs := by
  induction xs with
  | nil =>
    show delK [c] c.1 = _
    rw [delK_cons, if_pos (eqB_self _)]
    rfl
  | cons y ys ih =>
    have h1 := h y List.mem_cons_self
    have h2 := fun x hx => h x (List.mem_cons_of_mem y hx)
    rw [insK_cons]
    split
    · rw [delK_cons, if_pos (eqB_self _), delK_same h]
    · rw [delK_cons, if_neg (fun a => h1 (eqB_iff.1 a)), ih h2]
/-- Put twice is put once. -/
theorem putV_twice (xs : Sto) (key val : ByteArray) : putV (putV xs key val) key val = putV xs key val := by
  unfold putV
  split
  · exact delK_same delK_none'
  · rw [delK_ins_self (c := (key, val)) delK_none']
theorem putKeyS_twice (xs : Sto) (key val : ByteArray) : putKeyS (putKeyS xs key val) key val = putKeyS xs key val := by
  unfold putKeyS
  split
  · rfl
  · exact putV_twice xs key val
theorem delK_comm (xs : Sto) (k l : ByteArray) : delK (delK xs k) l = delK (delK xs l) k := by
  unfold delK
  rw [List.filter_filter, List.filter_filter]
  congr 1
  funext c
  exact Bool.and_comm _ _
theorem insK_comm (xs : Sto) {c d : ByteArray × ByteArray} (h : c.1 ≠ d.1) : insK c (insK d xs) = insK d (insK c xs) := by
  induction xs with
  | nil =>
    show insK c [d] = insK d [c]
    rw [insK_cons, insK_cons]
    cases e : ltB c.1 d.1 with
    | true => rw [ltB_asym e]; rfl
    | false => rw [ltB_tri' e h]; rfl
  | cons y ys ih =>
    rw [insK_cons c, insK_cons d]
    cases e1 : ltB d.1 y.1 with
    | true =>
      cases e2 : ltB c.1 y.1 with
      | true =>
        rw [if_pos rfl, if_pos rfl, insK_cons c d, insK_cons d c, insK_cons c y, insK_cons d y, e1, e2]
        cases e : ltB c.1 d.1 with
        | true => rw [ltB_asym e]; rfl
        | false => rw [ltB_tri' e h]; rfl
      | false =>
        rw [if_pos rfl, if_neg (by simp), insK_cons, insK_cons, insK_cons, e1, e2]
        have : ltB c.1 d.1 = false := by
          rw [← Bool.not_eq_true]; intro k
          rw [ltB_trans k e1] at e2; cases e2
        rw [this]
        rfl
    | false =>
      cases e2 : ltB c.1 y.1 with
      | true =>
        rw [if_neg (by simp), if_pos rfl, insK_cons, insK_cons, insK_cons, e1, e2]
        have : ltB d.1 c.1 = false := by
          rw [← Bool.not_eq_true]; intro k
          rw [ltB_trans k e2] at e1; cases e1
        rw [this]
        rfl
      | false =>
        rw [if_neg (by simp), if_neg (by simp), insK_cons, insK_cons, e1, e2, if_neg (by simp), if_neg (by simp), ih]
def Rising (xs : Sto) : Prop := xs.Pairwise (fun a b => ltB a.1 b.1 = true)
theorem rising_del {xs : Sto} (h : Rising xs) (k : ByteArray) : Rising (delK xs k) := List.Pairwise.filter _ h
theorem insK_head {c : ByteArray × ByteArray} {xs : Sto} (h : ∀ x ∈ xs, ltB c.1 x.1 = true) : insK c xs = c :: xs := by
  cases xs with
  | nil => rfl
  | cons y ys => rw [insK_cons, if_pos (h y List.mem_cons_self)]
theorem delK_ins (xs : Sto) {c : ByteArray × ByteArray} {k : ByteArray} (hs : Rising xs) (h : c.1 ≠ k) : delK (insK c xs) k = insK c (delK xs k) := by
  induction xs with
  | nil =>
    show delK [c] k = [c]
    rw [delK_cons, if_neg (fun a => h (eqB_iff.1 a))]
    rfl
  | cons y ys ih =>
    have h1 := List.pairwise_cons.1 hs
    rw [insK_cons]
    cases e : ltB c.1 y.1 with
    | true =>
      rw [if_pos rfl, delK_cons, if_neg (fun a => h (eqB_iff.1 a)), insK_head]
      intro x hx
      rcases List.mem_cons.1 (List.mem_filter.1 hx).1 with rfl | hx
      · exact e
      · exact ltB_trans e (h1.1 x hx)
    | false =>
      rw [if_neg (by simp), delK_cons, delK_cons, ih h1.2]
      split
      · rfl
      · rw [insK_cons, if_neg (by simp [e])]
theorem putV_comm {xs : Sto} (hs : Rising xs) {k l v u : ByteArray} (h : k ≠ l) : putV (putV xs k v) l u = putV (putV xs l u) k v := by
  unfold putV
  split <;> split
  · exact delK_comm xs k l
  · rw [delK_ins (c := (k, v)) _ (rising_del hs k) h, delK_comm]
  · rw [delK_ins (c := (l, u)) _ (rising_del hs l) h.symm, delK_comm]
  · rw [delK_ins (c := (k, v)) _ (rising_del hs k) h, delK_ins (c := (l, u)) _ (rising_del hs l) h.symm, insK_comm _ (c := (l, u)) (d := (k, v)) h.symm, delK_comm]
theorem putKeyS_comm {xs : Sto} (hs : Rising xs) {k l v u : ByteArray} (h : k ≠ l) : putKeyS (putKeyS xs k v) l u = putKeyS (putKeyS xs l u) k v := by
  unfold putKeyS
  split <;> split <;> first | rfl | exact putV_comm hs h
theorem rising_ins {xs : Sto} {c : ByteArray × ByteArray} (hs : Rising xs) (h : ∀ x ∈ xs, x.1 ≠ c.1) : Rising (insK c xs) := by
  induction xs with
  | nil => exact List.pairwise_singleton _ _
  | cons y ys ih =>
    have h1 := List.pairwise_cons.1 hs
    rw [insK_cons]
    cases e : ltB c.1 y.1 with
    | true =>
      rw [if_pos rfl]
      refine List.pairwise_cons.2 ⟨fun x hx => ?_, hs⟩
      rcases List.mem_cons.1 hx with rfl | hx
      · exact e
      · exact ltB_trans e (h1.1 x hx)
    | false =>
      rw [if_neg (by simp)]
      refine List.pairwise_cons.2 ⟨fun x hx => ?_, ih h1.2 (fun x hx => h x (List.mem_cons_of_mem _ hx))⟩
      rcases insK_mem hx with rfl | hx
      · exact ltB_tri' e (h y List.mem_cons_self).symm
      · exact h1.1 x hx
theorem rising_put {xs : Sto} (hs : Rising xs) (key val : ByteArray) : Rising (putV xs key val) := by
  unfold putV
  split
  · exact rising_del hs _
  · exact rising_ins (rising_del hs _) delK_none'
/-- A cell by itself is right. -/
def cellOk (x : ByteArray × ByteArray) : Prop := keyOkB x.1 = true ∧ inB (x.2.size : Int) 1 60 = true
theorem leB_lt (c p : ByteArray) : leB c p = !(ltB p c) := (leB_spec c p).symm
/-- What a right store is. -/
theorem storeOk_iff (xs : Sto) : storeOkB xs = true ↔ (∀ x ∈ xs, cellOk x) ∧ Rising xs ∧ (xs.length : Int) ≤ 900 := by
  unfold storeOkB
  rw [Bool.and_eq_true, decide_eq_true_iff, List.all_eq_true]
  constructor
  · rintro ⟨h, hl⟩
    have H : ∀ (j : Nat) x, xs[j]? = some x → badCell xs j = false := fun j x hx => by
      have := h j (List.mem_range.2 (lt_of_some hx))
      simpa using this
    have G : ∀ (j : Nat) x, xs[j]? = some x → cellOk x ∧ fallB xs j x.1 = false := fun j x hx => by
      have := H j x hx
      rw [bad_is hx, Bool.or_eq_false_iff, Bool.or_eq_false_iff] at this
      exact ⟨⟨by simpa using this.1.1, by simpa using this.1.2⟩, this.2⟩
    refine ⟨fun x hx => ?_, ?_, hl⟩
    · obtain ⟨j, hj⟩ := List.mem_iff_getElem?.1 hx
      exact (G j x hj).1
    · have step : ∀ (d i : Nat) (hj : i + d + 1 < xs.length), ltB (xs[i]'(by omega)).1 (xs[i + d + 1]'hj).1 = true := by
        intro d
        induction d with
        | zero =>
          intro i hj
          have := (G (i + 1) _ (List.getElem?_eq_getElem hj)).2
          rw [fall_succ (List.getElem?_eq_getElem (by omega)), leB_lt] at this
          simpa using this
        | succ d ih =>
          intro i hj
          have a := ih i (by omega)
          have := (G (i + d + 1 + 1) _ (List.getElem?_eq_getElem hj)).2
          rw [fall_succ (List.getElem?_eq_getElem (by omega)), leB_lt] at this
          exact ltB_trans a (by simpa using this)
      exact List.pairwise_iff_getElem.2 fun i j hi hj hij => by
        have := step (j - i - 1) i (by omega)
        simpa [show i + (j - i - 1) + 1 = j by omega] using this
  · rintro ⟨h, hr, hl⟩
    refine ⟨fun j hj => ?_, hl⟩
    have hj := List.mem_range.1 hj
    rw [bad_is (List.getElem?_eq_getElem hj)]
    have hc := h _ (List.getElem_mem hj)
    rw [hc.1, hc.2]
    cases j with
    | zero => rfl
    | succ j =>
      rw [fall_succ (List.getElem?_eq_getElem (by omega)), leB_lt, List.pairwise_iff_getElem.1 hr j (j + 1) (by omega) hj (by omega)]
      rfl
/-- A right store with room stays right. -/
theorem storeOk_put {xs : Sto} (h : storeOkB xs = true) (hl : xs.length < 900) (key val : ByteArray) : storeOkB (putKeyS xs key val) = true := by
  have ⟨h1, h2, _⟩ := (storeOk_iff xs).1 h
  unfold putKeyS
  split
  · exact h
  · rename_i hk
    rw [not_or] at hk
    refine (storeOk_iff _).2 ⟨fun x hx => ?_, rising_put h2 key val, by have := putV_len xs key val; omega⟩
    by_cases hz : val.size = 0
    · rw [putV_del hz] at hx
      exact h1 x (List.mem_filter.1 hx).1
    · rcases putV_mem hx with rfl | hx
      · exact ⟨by simpa using hk.1, inB_yes (by dsimp only; omega) (by dsimp only; omega)⟩
      · exact h1 x hx
end Go.Proofs.YtihghflppegnmaaGreatDoor
namespace Go.Proofs.YtihghflppegnmaaGreatDoor
open Go.RowKit
namespace Pg
variable {α β : Type}
/-- The store behind the tree, and the value. -/
def sem : Pg α → Sto → Sto × α
  | .ret a, s => (s, a)
  | .look k f, s => sem (f (getKeyS s k)) s
  | .lay k v f, s => sem f (putKeyS s k v)
  | .under p f, s => sem (f (keysU s p)) s
theorem run_sem (x : Pg α) : ∀ m : Mch, (x.run m).1.st = (x.sem m.st).1 ∧ (x.run m).2 = (x.sem m.st).2 := by
  induction x with
  | ret a => intro m; exact ⟨rfl, rfl⟩
  | look k f ih => intro m; exact ih _ _
  | lay k v f ih => intro m; exact ih _
  | under p f ih => intro m; exact ih _ _
theorem sem_ret (a : α) (s : Sto) : (Pg.ret a).sem s = (s, a) := rfl
theorem sem_pure (a : α) (s : Sto) : (pure a : Pg α).sem s = (s, a) := rfl
theorem sem_bind' (x : Pg α) (g : α → Pg β) : ∀ s : Sto, (Pg.bind x g).sem s = (g (x.sem s).2).sem (x.sem s).1 := by
  induction x with
  | ret a => intro s; rfl
  | look k f ih => intro s; exact ih _ _
  | lay k v f ih => intro s; exact ih _
  | under p f ih => intro s; exact ih _ _
theorem sem_bind (x : Pg α) (g : α → Pg β) (s : Sto) : (x >>= g).sem s = (g (x.sem s).2).sem (x.sem s).1 := sem_bind' x g s
theorem sem_look (k : ByteArray) (f : ByteArray → Pg α) (s : Sto) : (Pg.look k f).sem s = (f (getKeyS s k)).sem s := rfl
theorem sem_lay (k v : ByteArray) (f : Pg α) (s : Sto) : (Pg.lay k v f).sem s = f.sem (putKeyS s k v) := rfl
theorem sem_under (p : ByteArray) (f : List ByteArray → Pg α) (s : Sto) : (Pg.under p f).sem s = (f (keysU s p)).sem s := rfl
end Pg
theorem sem_num (k : ByteArray) (s : Sto) : (numP k).sem s = (s, numOfV (getKeyS s k)) := rfl
theorem sem_set (k : ByteArray) (n : Int) (s : Sto) : (setP k n).sem s = (putKeyS s k (numText n), ()) := rfl
theorem sem_layP (k v : ByteArray) (s : Sto) : (layP k v).sem s = (putKeyS s k v, ()) := rfl
theorem sem_msg (k : ByteArray) (s : Sto) : (msgP k).sem s = (s, msgV (getKeyS s k)) := rfl
theorem sem_state (id : Int) (s : Sto) : (stateP id).sem s = (s, numOfV (getKeyS s (procK id tS))) := rfl
theorem sem_bump (k : ByteArray) (s : Sto) : (bumpP k).sem s = if 999 < numOfV (getKeyS s k) + 1 then (s, 0) else (putKeyS s k (numText (numOfV (getKeyS s k) + 1)), numOfV (getKeyS s k) + 1) := by
  unfold bumpP
  rw [Pg.sem_bind, sem_num]
  show Pg.sem (if 999 < numOfV (getKeyS s k) + 1 then _ else _) s = _
  split
  · rfl
  · rfl
end Go.Proofs.YtihghflppegnmaaGreatDoor
namespace Go.Proofs.YtihghflppegnmaaGreatDoor
open Go.ChangeShapes Go.WideShapes Go.ChangeAt Go.RowKit
attribute [local go_sem ↓] Go.wp_at_zero Go.wp_at_succ
noncomputable def bootS : Sto := ((Pg.run (spawnP 0) ⟨[], [], []⟩).1).st
theorem none_at (w : World) : MAt (w.alloc (.cells #[.slice none 0 0, .slice none 0 0, .slice none 0 0] 87)) w.heap.size w.heap.size (.slice none 0 0) (.slice none 0 0) (.slice none 0 0) ⟨[], [], []⟩ := by
  have on : ∀ T K, (w.alloc (.cells #[.slice none 0 0, .slice none 0 0, .slice none 0 0] 87)).ownsRow w.heap.size T K (.slice none 0 0) 0 [] := fun T K => ⟨by simp, .inl ⟨rfl, rfl⟩⟩
  exact ⟨Box.new w [.slice none 0 0, .slice none 0 0, .slice none 0 0] _, on _ _, on _ _, on _ _, by simp [Value.ownBlock], by simp [Value.ownBlock], by simp [Value.ownBlock], by simp [Value.ownBlock], by simp [Value.ownBlock], by simp [Value.ownBlock], Nat.le_refl _, by simp⟩
theorem mNone_ok (n : Nat) : MOk n ⟨[], [], []⟩ := ⟨Nat.zero_le _, Nat.zero_le _, Nat.zero_le _, fun x h => by cases h⟩

set_option maxHeartbeats 2000000 in
theorem bootI_c (w : World) (HT : ∀ W, Below w.heap.size w W → Tabs W) :
    Calls Tryz.prog 14 #[] w (Fresh 99 2 (bootS.flatMap encC) bootS.length w) := by
  have HB := Lib.hid (show Below w.heap.size w (w.alloc (.cells #[.slice none 0 0, .slice none 0 0, .slice none 0 0] 87)) from (by repeat (first | exact Below.refl _ _ | refine Below.drew ?_ | refine below_drewN ?_ _ | refine Below.allocC ?_ _ | refine Below.setCell ?_ (by first | (simp; done) | (simp; omega)) _ | refine Below.chain ?_ (by assumption))))
  have H0 := Lib.hid (none_at w)
  obtain ⟨bm, ⟨x, y⟩, E⟩ : ∃ aa bb, (spawnP 0).run ⟨[], [], []⟩ = (aa, bb) := ⟨_, _, rfl⟩
  have e : bootS = bm.st := by unfold bootS; rw [E]
  rw [e]
  have K := Lib.hid (pSpawn_c w.heap.size w.heap.size (.slice none 0 0) (.slice none 0 0) (.slice none 0 0) ⟨[], [], []⟩ bm x y 0 _ (none_at w) (mNone_ok _) (fun W hW => HT W (HB.out.trans hW)) E)
  clear HT e E
  go_enter Tryz.func14, Tryz.ntmps14
  go_wp2_with fail
  refine K.out.mono ?_
  rintro e w1 ⟨u1, u2, u3, rfl, hm, hg, _, _, _⟩
  have c0 := hm.box.cell 0 _ rfl
  have HEND := Lib.hid (show Fresh 99 2 (bm.st.flatMap encC) bm.st.length w (.returned u1) w1 from ⟨u1, rfl, hm.o1, HB.out.trans (H0.out.grow hg)⟩)
  clear hm hg K
  go_wp2
  go_ret
  exact HEND.out
theorem run_of_sem {α : Type} {x : Pg α} {s s' : Sto} {a : α} (h : x.sem s = (s', a)) : ∃ m', x.run ⟨s, [], []⟩ = (m', a) ∧ m'.st = s' := by
  obtain ⟨h1, h2⟩ := x.run_sem ⟨s, [], []⟩
  refine ⟨(x.run ⟨s, [], []⟩).1, Prod.ext rfl ?_, ?_⟩
  · rw [h2]; show (x.sem s).2 = a; rw [h]
  · rw [h1]; show (x.sem s).1 = s'; rw [h]
theorem state_is {s : Sto} {id n : Int} (h : numOfV (getKeyS s (procK id tS)) = n) : ∀ m1 x, (stateP id).run ⟨s, [], []⟩ = (m1, x) → x = n := fun m1 x E => by
  have e : numOfV (getKeyS s (procK id tS)) = x := congrArg Prod.snd E
  omega
theorem reads_set {α : Type} {W : World} {a : Option Addr} {k : Nat} {enc : α → List Value} {xs : List α} (h : Reads W a k enc xs) {c : Nat} (hc : ∀ b o, a = some ⟨b, o, none⟩ → b ≠ c) (i : Nat) (v : Value) : Reads (W.setCell ⟨c, i, none⟩ v) a k enc xs := by
  have gs := grownBy_setCell W c i v
  rcases h with h | ⟨b', o', h', hlt, h2⟩
  · exact .inl h
  · refine Reads.grow (.inr ⟨b', o', h', hlt, h2⟩) gs.size (fun b o e => ?_)
    rw [h'] at e
    have hb : b' = b := by cases e; rfl
    exact gs.block b (hb ▸ hlt) (fun e2 => hc b o (by rw [h', e]) (Option.some.inj e2))
theorem mok_st {n : Nat} {m : Mch} (h : MOk n m) : MOk n ⟨m.st, [], []⟩ := ⟨h.l1, Nat.zero_le _, Nat.zero_le _, h.sz⟩
end Go.Proofs.YtihghflppegnmaaGreatDoor
namespace Go.Proofs.YtihghflppegnmaaGreatDoor
theorem numOf_dec {n : Int} (h1 : 1 ≤ n) (h2 : n ≤ 999) : numOfV (decS n) = n := by
  obtain ⟨k, rfl⟩ : ∃ k : Nat, n = (k : Int) := ⟨n.toNat, by omega⟩
  have h := (read_yes (s := decS (k : Int)) (n := k) (numIs_of (by omega) rfl)).2
  unfold numOfV
  rw [h, if_neg (by omega)]
theorem numOf_text {n : Int} (h1 : 1 ≤ n) (h2 : n ≤ 999) : numOfV (numText n) = n := by
  unfold numText
  rw [inB_iff.2 ⟨h1, h2⟩, if_pos rfl]
  exact numOf_dec h1 h2
theorem numOf_empty : numOfV ⟨#[]⟩ = 0 := by
  have h := (read_no (s := ⟨#[]⟩) (fun n hn => by
    have h1 : (Lib.decDigits n).toArray = #[] := by
      have := numIs_dec hn
      rw [decS_nat] at this
      exact congrArg ByteArray.data this
    have h2 : Lib.decDigits n = [] := by simpa using h1
    rw [Lib.decDigits] at h2
    split at h2 <;> simp at h2)).2
  unfold numOfV
  rw [h]; rfl
end Go.Proofs.YtihghflppegnmaaGreatDoor
namespace Go.Proofs.YtihghflppegnmaaGreatDoor
open Go.RowKit
def abcS : ByteArray := ⟨#[97, 98, 99]⟩
def callA (kind a : Int) (text : ByteArray) : Cal := ⟨kind, ⟨#[]⟩, ⟨#[]⟩, a, 0, text⟩
theorem num1 : numOfV (decS 1) = 1 := numOf_dec (by omega) (by omega)
theorem num2 : numOfV (decS 2) = 2 := numOf_dec (by omega) (by omega)
theorem text1 : numText 1 = decS 1 := rfl
theorem text2 : numText 2 = decS 2 := rfl
theorem text0 : numText 0 = ⟨#[]⟩ := rfl
theorem textN {n : Int} (h0 : 1 ≤ n) (h1 : n ≤ 999) : numText n = decS n := by unfold numText; rw [inB_iff.2 ⟨h0, h1⟩]; rfl
theorem msg_abc : msgV (hyphenS (hexV abcS)) = abcS := by
  unfold msgV
  rw [if_pos (by kernel_rfl)]
  have h := (unhex_yes (s := (hyphenS (hexV abcS)).extract 1 (hyphenS (hexV abcS)).size) (r := [97, 98, 99]) (by kernel_rfl) (by decide)).2
  rw [h]; rfl
theorem put_ins {s : Sto} {k v : ByteArray} (hk : keyOkB k = true) (hv : v.size ≤ 60) (h0 : 0 < v.size) : putKeyS s k v = insK (k, v) (delK s k) := by
  unfold putKeyS putV
  rw [if_neg (by rw [hk]; simp; omega), if_neg (by omega)]
theorem put_del {s : Sto} {k : ByteArray} (hk : keyOkB k = true) : putKeyS s k noB = delK s k := by
  unfold putKeyS putV
  rw [if_neg (fun h => by
    rcases h with h | h
    · rw [hk] at h; cases h
    · exact absurd h (by decide)), if_pos (show noB.size = 0 from rfl)]
theorem boot_is : bootS = [(cProc, decS 1), (procK 1 tS, decS 1)] := by
  unfold bootS
  rw [(Pg.run_sem _ _).1]
  unfold spawnP
  rw [Pg.sem_bind, sem_num, show numOfV (getKeyS [] cProc) = 0 from numOf_empty]
  dsimp only
  rw [if_neg (by decide), Pg.sem_bind, sem_bump, show numOfV (getKeyS [] cProc) = 0 from numOf_empty, if_neg (by decide)]
  dsimp only
  rw [show (0 : Int) + 1 = 1 from rfl, text1, show putKeyS [] cProc (decS 1) = [(cProc, decS 1)] from put_ins (by kernel_rfl) (Nat.le_of_ble_eq_true (by kernel_rfl)) (Nat.le_of_ble_eq_true (by kernel_rfl)), Pg.sem_bind, sem_set]
  dsimp only
  rw [text1, show putKeyS [(cProc, decS 1)] (procK 1 tS) (decS 1) = [(cProc, decS 1), (procK 1 tS, decS 1)] from (put_ins (by kernel_rfl) (Nat.le_of_ble_eq_true (by kernel_rfl)) (Nat.le_of_ble_eq_true (by kernel_rfl))).trans (by kernel_rfl), Pg.sem_bind, sem_set]
  dsimp only
  rw [text0, show (⟨#[]⟩ : ByteArray) = noB from rfl, put_del (by kernel_rfl)]
  kernel_rfl
def sto0 : Sto := [(cProc, decS 1), (procK 1 tS, decS 1)]
def sto1 (k : Int) : Sto := [(cProc, decS 1), (pageK 1 k, hyphenS (hexV abcS)), (procK 1 tS, decS 1)]
def sto2 (k : Int) : Sto := [(cProc, decS 2), (pageK 1 k, hyphenS (hexV abcS)), (procK 1 tS, decS 1)]
def sto3 (k : Int) : Sto := [(cProc, decS 2), (pageK 1 k, hyphenS (hexV abcS)), (procK 1 tS, decS 1), (procK 2 tS, decS 1)]
def sto4 (k : Int) : Sto := [(cProc, decS 2), (pageK 1 k, hyphenS (hexV abcS)), (procK 1 tS, decS 1), (procK 2 tP, decS 1), (procK 2 tS, decS 1)]
def sto5 (k : Int) : Sto := [(cProc, decS 2), (pageK 1 k, hyphenS (hexV abcS)), (pageK 2 k, hyphenS (hexV abcS)), (procK 1 tS, decS 1), (procK 2 tP, decS 1), (procK 2 tS, decS 1)]
def sto6 (k : Int) : Sto := [(cProc, decS 2), (pageK 1 k, hyphenS (hexV abcS)), (pageK 2 k, hyphenS (hexV abcS)), (procK 1 tS, decS 1), (procK 2 tP, decS 1), (procK 2 tS, decS 2)]
def sto7 (k : Int) (y : ByteArray) : Sto := [(cProc, decS 2), (pageK 1 k, hyphenS (hexV abcS)), (pageK 2 k, hyphenS (hexV abcS)), (procK 1 tS, decS 1), (procK 2 tP, decS 1), (procK 2 tS, decS 2), (procK 2 tX, y)]
def sto8 (k : Int) (y : ByteArray) : Sto := [(cProc, decS 2), (pageK 1 k, hyphenS (hexV abcS)), (procK 1 tS, decS 1), (procK 2 tP, decS 1), (procK 2 tS, decS 2), (procK 2 tX, y)]
theorem kid_of {k : Int} (hk : k = 0 ∨ k = 1 ∨ k = 2 ∨ k = 3) {n : Int} (h0 : 0 ≤ n) (h1 : n ≤ 100) :
    ((callP 1 (callA 20 k abcS)).sem sto0 = (sto1 k, ⟨0, 0, noB⟩)) ∧ ((callP 1 (callA 12 0 ⟨#[]⟩)).sem (sto1 k) = (sto5 k, ⟨0, 2, noB⟩)) ∧ ((callP 2 (callA 21 k ⟨#[]⟩)).sem (sto5 k) = (sto5 k, ⟨0, 0, abcS⟩)) ∧
    ((callP 2 (callA 13 n ⟨#[]⟩)).sem (sto5 k) = (sto8 k (decS (n + 1)), ⟨0, 0, noB⟩)) ∧ ((callP 2 (callA 5 0 ⟨#[]⟩)).sem (sto8 k (decS (n + 1))) = (sto8 k (decS (n + 1)), ⟨2, 0, noB⟩)) ∧ ((callP 1 (callA 14 2 ⟨#[]⟩)).sem (sto8 k (decS (n + 1)))).2 = ⟨0, n, noB⟩ := by
  have hy := decS_size (n + 1) (by omega) (by omega)
  have hy0 : 0 < (decS (n + 1)).size := by
    rcases Nat.eq_zero_or_pos (decS (n + 1)).size with h | h
    · have h2 := numOf_dec (n := n + 1) (by omega) (by omega)
      rw [show decS (n + 1) = ⟨#[]⟩ from size_zero h, numOf_empty] at h2
      omega
    · exact h
  have hny := numOf_dec (n := n + 1) (by omega) (by omega)
  have hty := textN (n := n + 1) (by omega) (by omega)
  obtain ⟨y, hyy⟩ : ∃ y, decS (n + 1) = y := ⟨_, rfl⟩
  rw [hyy] at hy hy0 hny hty ⊢
  have hin : inB n 0 100 = true := inB_iff.2 ⟨h0, h1⟩
  clear hyy
  refine ⟨?_, ?_⟩
  · unfold callP
    rw [Pg.sem_bind, sem_state, show getKeyS sto0 (procK 1 tS) = decS 1 from (by rcases hk with rfl | rfl | rfl | rfl <;> kernel_rfl), num1]
    dsimp only
    rw [if_pos rfl, if_pos (by kernel_rfl), kind20 rfl, Pg.sem_bind]
    unfold storeP callA
    dsimp only
    rw [if_pos (by rcases hk with rfl | rfl | rfl | rfl <;> kernel_rfl), Pg.sem_bind, sem_layP]
    dsimp only
    rw [if_neg (by decide), show putKeyS sto0 (pageK 1 k) (hyphenS (hexV abcS)) = sto1 k from (put_ins (by rcases hk with rfl | rfl | rfl | rfl <;> kernel_rfl) (Nat.le_of_ble_eq_true (by kernel_rfl)) (Nat.le_of_ble_eq_true (by kernel_rfl))).trans (by rcases hk with rfl | rfl | rfl | rfl <;> kernel_rfl)]
    rfl
  refine ⟨?_, ?_⟩
  · unfold callP
    rw [Pg.sem_bind, sem_state, show getKeyS (sto1 k) (procK 1 tS) = decS 1 from (by rcases hk with rfl | rfl | rfl | rfl <;> kernel_rfl), num1]
    dsimp only
    rw [if_pos rfl, if_pos (by kernel_rfl), kind12 rfl]
    unfold spawnAllP spawnP
    rw [Pg.sem_bind, Pg.sem_bind, sem_num, show getKeyS (sto1 k) cProc = decS 1 from (by rcases hk with rfl | rfl | rfl | rfl <;> kernel_rfl), num1]
    dsimp only
    rw [if_neg (show ¬ (12 : Int) ≤ 1 by decide), Pg.sem_bind, sem_bump, show getKeyS (sto1 k) cProc = decS 1 from (by rcases hk with rfl | rfl | rfl | rfl <;> kernel_rfl), num1, if_neg (show ¬ (999 : Int) < 1 + 1 by decide)]
    dsimp only
    rw [show (1 : Int) + 1 = 2 from rfl, text2, show putKeyS (sto1 k) cProc (decS 2) = sto2 k from (put_ins (by kernel_rfl) (Nat.le_of_ble_eq_true (by kernel_rfl)) (Nat.le_of_ble_eq_true (by kernel_rfl))).trans (by rcases hk with rfl | rfl | rfl | rfl <;> kernel_rfl), Pg.sem_bind, sem_set]
    dsimp only
    rw [text1, show putKeyS (sto2 k) (procK 2 tS) (decS 1) = sto3 k from (put_ins (by kernel_rfl) (Nat.le_of_ble_eq_true (by kernel_rfl)) (Nat.le_of_ble_eq_true (by kernel_rfl))).trans (by rcases hk with rfl | rfl | rfl | rfl <;> kernel_rfl), Pg.sem_bind, sem_set]
    dsimp only
    rw [text1, show putKeyS (sto3 k) (procK 2 tP) (decS 1) = sto4 k from (put_ins (by kernel_rfl) (Nat.le_of_ble_eq_true (by kernel_rfl)) (Nat.le_of_ble_eq_true (by kernel_rfl))).trans (by rcases hk with rfl | rfl | rfl | rfl <;> kernel_rfl), Pg.sem_pure]
    dsimp only
    rw [if_pos rfl, Pg.sem_bind]
    unfold forkP
    rw [Pg.sem_under, show keysU (sto4 k) (pagesK 1) = [pageK 1 k] from (by rcases hk with rfl | rfl | rfl | rfl <;> kernel_rfl)]
    unfold forkL
    rw [Pg.sem_look, show getKeyS (sto4 k) (pageK 1 k) = hyphenS (hexV abcS) from (by rcases hk with rfl | rfl | rfl | rfl <;> kernel_rfl), Pg.sem_lay, show putKeyS (sto4 k) (pagesK 2 ++ (pageK 1 k).extract (pagesK 1).size (pageK 1 k).size) (hyphenS (hexV abcS)) = sto5 k from (put_ins (by rcases hk with rfl | rfl | rfl | rfl <;> kernel_rfl) (Nat.le_of_ble_eq_true (by kernel_rfl)) (Nat.le_of_ble_eq_true (by kernel_rfl))).trans (by rcases hk with rfl | rfl | rfl | rfl <;> kernel_rfl)]
    rfl
  refine ⟨?_, ?_⟩
  · unfold callP
    rw [Pg.sem_bind, sem_state, show getKeyS (sto5 k) (procK 2 tS) = decS 1 from (by rcases hk with rfl | rfl | rfl | rfl <;> kernel_rfl), num1]
    dsimp only
    rw [if_pos rfl, if_pos (by kernel_rfl), kind21 rfl, Pg.sem_bind]
    unfold loadP callA
    dsimp only
    rw [if_pos (by rcases hk with rfl | rfl | rfl | rfl <;> kernel_rfl), Pg.sem_bind, sem_msg, show getKeyS (sto5 k) (pageK 2 k) = hyphenS (hexV abcS) from (by rcases hk with rfl | rfl | rfl | rfl <;> kernel_rfl), msg_abc]
    rfl
  refine ⟨?_, ?_⟩
  · unfold callP
    rw [Pg.sem_bind, sem_state, show getKeyS (sto5 k) (procK 2 tS) = decS 1 from (by rcases hk with rfl | rfl | rfl | rfl <;> kernel_rfl), num1]
    dsimp only
    rw [if_pos rfl, if_pos (by kernel_rfl), kind13 rfl]
    unfold endAllP endP callA
    dsimp only
    rw [Pg.sem_bind, Pg.sem_bind, sem_state, show getKeyS (sto5 k) (procK 2 tS) = decS 1 from (by rcases hk with rfl | rfl | rfl | rfl <;> kernel_rfl), num1]
    dsimp only
    rw [if_pos rfl, if_pos hin, Pg.sem_bind, sem_set, text2, show putKeyS (sto5 k) (procK 2 tS) (decS 2) = sto6 k from (put_ins (by kernel_rfl) (Nat.le_of_ble_eq_true (by kernel_rfl)) (Nat.le_of_ble_eq_true (by kernel_rfl))).trans (by rcases hk with rfl | rfl | rfl | rfl <;> kernel_rfl)]
    dsimp only
    rw [Pg.sem_bind, sem_set, hty, show putKeyS (sto6 k) (procK 2 tX) y = sto7 k y from (put_ins (by kernel_rfl) (by omega) hy0).trans (by rcases hk with rfl | rfl | rfl | rfl <;> kernel_rfl), Pg.sem_pure]
    dsimp only
    rw [if_pos rfl, Pg.sem_bind]
    unfold dropPagesP wipeP
    rw [Pg.sem_under, show keysU (sto7 k y) (pagesK 2) = [pageK 2 k] from (by rcases hk with rfl | rfl | rfl | rfl <;> kernel_rfl)]
    unfold layAll
    rw [Pg.sem_lay, put_del (by rcases hk with rfl | rfl | rfl | rfl <;> kernel_rfl), show delK (sto7 k y) (pageK 2 k) = sto8 k y from (by rcases hk with rfl | rfl | rfl | rfl <;> kernel_rfl)]
    rfl
  refine ⟨?_, ?_⟩
  · unfold callP
    rw [Pg.sem_bind, sem_state, show getKeyS (sto8 k y) (procK 2 tS) = decS 2 from (by rcases hk with rfl | rfl | rfl | rfl <;> kernel_rfl), num2]
    dsimp only
    rw [if_neg (by decide)]
    rfl
  unfold callP
  rw [Pg.sem_bind, sem_state, show getKeyS (sto8 k y) (procK 1 tS) = decS 1 from (by rcases hk with rfl | rfl | rfl | rfl <;> kernel_rfl), num1]
  dsimp only
  rw [if_pos rfl, if_pos (by kernel_rfl), kind14 rfl, Pg.sem_bind]
  unfold reapP callA
  dsimp only
  rw [Pg.sem_bind, sem_num, show getKeyS (sto8 k y) (procK 2 tP) = decS 1 from (by rcases hk with rfl | rfl | rfl | rfl <;> kernel_rfl), num1]
  dsimp only
  rw [if_neg (by decide), Pg.sem_bind, sem_state, show getKeyS (sto8 k y) (procK 2 tS) = decS 2 from (by rcases hk with rfl | rfl | rfl | rfl <;> kernel_rfl), num2]
  dsimp only
  rw [if_neg (by decide), if_pos rfl, Pg.sem_bind, sem_num, show getKeyS (sto8 k y) (procK 2 tX) = y from (by rcases hk with rfl | rfl | rfl | rfl <;> kernel_rfl), hny]
  dsimp only
  rw [Pg.sem_bind, Pg.sem_pure]
  show (⟨0, n + 1 - 1, noB⟩ : Ans) = _
  rw [show n + 1 - 1 = n by omega]
theorem kid_states {k : Int} (hk : k = 0 ∨ k = 1 ∨ k = 2 ∨ k = 3) (y : ByteArray) : numOfV (getKeyS sto0 (procK 1 tS)) = 1 ∧ numOfV (getKeyS (sto1 k) (procK 1 tS)) = 1 ∧ numOfV (getKeyS (sto5 k) (procK 2 tS)) = 1 ∧ numOfV (getKeyS (sto8 k y) (procK 2 tS)) = 2 ∧ numOfV (getKeyS (sto8 k y) (procK 1 tS)) = 1 := by
  refine ⟨?_, ?_, ?_, ?_, ?_⟩
  · rw [show getKeyS sto0 (procK 1 tS) = decS 1 from (by rcases hk with rfl | rfl | rfl | rfl <;> kernel_rfl)]; exact num1
  · rw [show getKeyS (sto1 k) (procK 1 tS) = decS 1 from (by rcases hk with rfl | rfl | rfl | rfl <;> kernel_rfl)]; exact num1
  · rw [show getKeyS (sto5 k) (procK 2 tS) = decS 1 from (by rcases hk with rfl | rfl | rfl | rfl <;> kernel_rfl)]; exact num1
  · rw [show getKeyS (sto8 k y) (procK 2 tS) = decS 2 from (by rcases hk with rfl | rfl | rfl | rfl <;> kernel_rfl)]; exact num2
  · rw [show getKeyS (sto8 k y) (procK 1 tS) = decS 1 from (by rcases hk with rfl | rfl | rfl | rfl <;> kernel_rfl)]; exact num1
end Go.Proofs.YtihghflppegnmaaGreatDoor
namespace Go.Proofs.YtihghflppegnmaaGreatDoor
open Go.ChangeShapes Go.WideShapes Go.ChangeAt Go.RowKit
theorem kid_calls {k : Int} (hk : k = 0 ∨ k = 1 ∨ k = 2 ∨ k = 3) {n : Int} (h0 : 0 ≤ n) (h1 : n ≤ 100) : ∃ m1 m2 m3 m4 m5 m6 : Mch, m1.st = sto1 k ∧ m2.st = sto5 k ∧ m3.st = sto5 k ∧ m4.st = sto8 k (decS (n + 1)) ∧ m5.st = sto8 k (decS (n + 1)) ∧
    (∀ (w : World) (a : Option Addr) (cap : Nat), (∀ W, Below w.heap.size w W → Tabs W) → Reads w a 2 encC sto0 → Calls Tryz.prog 13 #[.slice a sto0.length cap, .int .i64 1, .agg #[.int .i64 20, .string ⟨#[]⟩, .string ⟨#[]⟩, .int .i64 k, .int .i64 0, .string abcS]] w (CRet m1 ⟨0, 0, noB⟩ w)) ∧
    (∀ (w : World) (a : Option Addr) (cap : Nat), (∀ W, Below w.heap.size w W → Tabs W) → Reads w a 2 encC (sto1 k) → Calls Tryz.prog 13 #[.slice a (sto1 k).length cap, .int .i64 1, .agg #[.int .i64 12, .string ⟨#[]⟩, .string ⟨#[]⟩, .int .i64 0, .int .i64 0, .string ⟨#[]⟩]] w (CRet m2 ⟨0, 2, noB⟩ w)) ∧
    (∀ (w : World) (a : Option Addr) (cap : Nat), (∀ W, Below w.heap.size w W → Tabs W) → Reads w a 2 encC (sto5 k) → Calls Tryz.prog 13 #[.slice a (sto5 k).length cap, .int .i64 2, .agg #[.int .i64 21, .string ⟨#[]⟩, .string ⟨#[]⟩, .int .i64 k, .int .i64 0, .string ⟨#[]⟩]] w (CRet m3 ⟨0, 0, abcS⟩ w)) ∧
    (∀ (w : World) (a : Option Addr) (cap : Nat), (∀ W, Below w.heap.size w W → Tabs W) → Reads w a 2 encC (sto5 k) → Calls Tryz.prog 13 #[.slice a (sto5 k).length cap, .int .i64 2, .agg #[.int .i64 13, .string ⟨#[]⟩, .string ⟨#[]⟩, .int .i64 n, .int .i64 0, .string ⟨#[]⟩]] w (CRet m4 ⟨0, 0, noB⟩ w)) ∧
    (∀ (w : World) (a : Option Addr) (cap : Nat), (∀ W, Below w.heap.size w W → Tabs W) → Reads w a 2 encC (sto8 k (decS (n + 1))) → Calls Tryz.prog 13 #[.slice a (sto8 k (decS (n + 1))).length cap, .int .i64 2, .agg #[.int .i64 5, .string ⟨#[]⟩, .string ⟨#[]⟩, .int .i64 0, .int .i64 0, .string ⟨#[]⟩]] w (CRet m5 ⟨2, 0, noB⟩ w)) ∧
    (∀ (w : World) (a : Option Addr) (cap : Nat), (∀ W, Below w.heap.size w W → Tabs W) → Reads w a 2 encC (sto8 k (decS (n + 1))) → Calls Tryz.prog 13 #[.slice a (sto8 k (decS (n + 1))).length cap, .int .i64 1, .agg #[.int .i64 14, .string ⟨#[]⟩, .string ⟨#[]⟩, .int .i64 2, .int .i64 0, .string ⟨#[]⟩]] w (CRet m6 ⟨0, n, noB⟩ w)) := by
  obtain ⟨f1, f2, f3, f4, f5, f6⟩ := kid_of hk h0 h1
  obtain ⟨s1, s2, s3, s4, s5⟩ := kid_states hk (decS (n + 1))
  have b0 : MOk 5 ⟨sto0, [], []⟩ := by
    have h := mok_st ((spawnP_cost (N := 0) 0).ok (mNone_ok 0))
    rw [show ((spawnP 0).run ⟨[], [], []⟩).1.st = sto0 from boot_is] at h
    exact h
  have hka : I64 k := by rcases hk with rfl | rfl | rfl | rfl <;> exact ⟨by omega, by omega⟩
  have hna : I64 n := ⟨by omega, by omega⟩
  have hz : I64 0 := ⟨by omega, by omega⟩
  have h2a : I64 2 := ⟨by omega, by omega⟩
  have h1a : I64 1 := ⟨by omega, by omega⟩
  obtain ⟨m1, E1, e1⟩ := run_of_sem f1
  have b1 := mok_st ((callP_cost (N := 5) 1 (callA 20 k abcS)).okE b0 E1)
  rw [e1] at b1
  obtain ⟨m2, E2, e2⟩ := run_of_sem f2
  have b2 := mok_st ((callP_cost (N := 348) 1 (callA 12 0 ⟨#[]⟩)).okE b1 E2)
  rw [e2] at b2
  obtain ⟨m3, E3, e3⟩ := run_of_sem f3
  obtain ⟨m4, E4, e4⟩ := run_of_sem f4
  have b4 := mok_st ((callP_cost (N := 3092) 2 (callA 13 n ⟨#[]⟩)).okE b2 E4)
  rw [e4] at b4
  obtain ⟨m5, E5, e5⟩ := run_of_sem f5
  obtain ⟨m6, E6, e6⟩ := run_of_sem (show (callP 1 (callA 14 2 ⟨#[]⟩)).sem (sto8 k (decS (n + 1))) = (_, ⟨0, n, noB⟩) from Prod.ext rfl f6)
  refine ⟨m1, m2, m3, m4, m5, m6, e1, e2, e3, e4, e5, ?_, ?_, ?_, ?_, ?_, ?_⟩
  · intro w a cap hT hr
    exact callOnI_c a cap sto0 1 (callA 20 k abcS) m1 ⟨0, 0, noB⟩ w (Nat.le_of_ble_eq_true (by kernel_rfl)) hr (fun p v1 v2 v3 W hm hb => kdo20_c p w.heap.size v1 v2 v3 ⟨sto0, [], []⟩ m1 ⟨0, 0, noB⟩ 1 (callA 20 k abcS) W hm (b0.mono (by omega)) h1a ⟨hka, hz, (Nat.le_of_ble_eq_true (by kernel_rfl)), (Nat.le_of_ble_eq_true (by kernel_rfl)), (Nat.le_of_ble_eq_true (by kernel_rfl))⟩ (fun W' hW' => hT W' (hb.trans hW')) (state_is s1) (by kernel_rfl) rfl E1)
  · intro w a cap hT hr
    exact callOnI_c a cap (sto1 k) 1 (callA 12 0 ⟨#[]⟩) m2 ⟨0, 2, noB⟩ w (Nat.le_of_ble_eq_true (by kernel_rfl)) hr (fun p v1 v2 v3 W hm hb => kdo12_c p w.heap.size v1 v2 v3 ⟨(sto1 k), [], []⟩ m2 ⟨0, 2, noB⟩ 1 (callA 12 0 ⟨#[]⟩) W hm (b1.mono (by omega)) h1a ⟨hz, hz, (Nat.le_of_ble_eq_true (by kernel_rfl)), (Nat.le_of_ble_eq_true (by kernel_rfl)), (Nat.le_of_ble_eq_true (by kernel_rfl))⟩ (fun W' hW' => hT W' (hb.trans hW')) (state_is s2) (by kernel_rfl) rfl E2)
  · intro w a cap hT hr
    exact callOnI_c a cap (sto5 k) 2 (callA 21 k ⟨#[]⟩) m3 ⟨0, 0, abcS⟩ w (Nat.le_of_ble_eq_true (by kernel_rfl)) hr (fun p v1 v2 v3 W hm hb => kdo21_c p w.heap.size v1 v2 v3 ⟨(sto5 k), [], []⟩ m3 ⟨0, 0, abcS⟩ 2 (callA 21 k ⟨#[]⟩) W hm (b2.mono (by omega)) h2a ⟨hka, hz, (Nat.le_of_ble_eq_true (by kernel_rfl)), (Nat.le_of_ble_eq_true (by kernel_rfl)), (Nat.le_of_ble_eq_true (by kernel_rfl))⟩ (fun W' hW' => hT W' (hb.trans hW')) (state_is s3) (by kernel_rfl) rfl E3)
  · intro w a cap hT hr
    exact callOnI_c a cap (sto5 k) 2 (callA 13 n ⟨#[]⟩) m4 ⟨0, 0, noB⟩ w (Nat.le_of_ble_eq_true (by kernel_rfl)) hr (fun p v1 v2 v3 W hm hb => kdo13_c p w.heap.size v1 v2 v3 ⟨(sto5 k), [], []⟩ m4 ⟨0, 0, noB⟩ 2 (callA 13 n ⟨#[]⟩) W hm (b2.mono (by omega)) h2a ⟨hna, hz, (Nat.le_of_ble_eq_true (by kernel_rfl)), (Nat.le_of_ble_eq_true (by kernel_rfl)), (Nat.le_of_ble_eq_true (by kernel_rfl))⟩ (fun W' hW' => hT W' (hb.trans hW')) (state_is s3) (by kernel_rfl) rfl E4)
  · intro w a cap hT hr
    exact callOnI_c a cap (sto8 k (decS (n + 1))) 2 (callA 5 0 ⟨#[]⟩) m5 ⟨2, 0, noB⟩ w (Nat.le_of_ble_eq_true (by kernel_rfl)) hr (fun p v1 v2 v3 W hm hb => kdoNone_c p w.heap.size v1 v2 v3 ⟨(sto8 k (decS (n + 1))), [], []⟩ m5 ⟨2, 0, noB⟩ 2 (callA 5 0 ⟨#[]⟩) W hm (b4.mono (by omega)) h2a ⟨hz, hz, (Nat.le_of_ble_eq_true (by kernel_rfl)), (Nat.le_of_ble_eq_true (by kernel_rfl)), (Nat.le_of_ble_eq_true (by kernel_rfl))⟩ (fun W' hW' => hT W' (hb.trans hW')) (fun m1 x E => by rw [state_is s4 _ _ E]; decide) E5)
  · intro w a cap hT hr
    exact callOnI_c a cap (sto8 k (decS (n + 1))) 1 (callA 14 2 ⟨#[]⟩) m6 ⟨0, n, noB⟩ w (Nat.le_of_ble_eq_true (by kernel_rfl)) hr (fun p v1 v2 v3 W hm hb => kdo14_c p w.heap.size v1 v2 v3 ⟨(sto8 k (decS (n + 1))), [], []⟩ m6 ⟨0, n, noB⟩ 1 (callA 14 2 ⟨#[]⟩) W hm (b4.mono (by omega)) h1a ⟨h2a, hz, (Nat.le_of_ble_eq_true (by kernel_rfl)), (Nat.le_of_ble_eq_true (by kernel_rfl)), (Nat.le_of_ble_eq_true (by kernel_rfl))⟩ (fun W' hW' => hT W' (hb.trans hW')) (state_is s5) (by kernel_rfl) rfl E6)
end Go.Proofs.YtihghflppegnmaaGreatDoor
namespace Go.Proofs.YtihghflppegnmaaGreatDoor
open Go
theorem sq1 {α : Type _} {xs : List α} {i : Nat} (h : i < xs.toArray.size) : xs.toArray[i] = xs[i]'(by simpa using h) := List.getElem_toArray h
theorem sq2 {α : Type _} {a : α} {ys : List α} {h : 0 < (a :: ys).length} : (a :: ys)[0] = a := List.getElem_cons_zero _ _ _
theorem sq3 {α : Type _} {i : Nat} {a : α} {ys : List α} {h : i + 1 < (a :: ys).length} : (a :: ys)[i + 1] = ys[i]'(Nat.lt_of_succ_lt_succ h) := List.getElem_cons_succ _ _ _ _
theorem sq4 {α : Type _} (l : List α) (i : Nat) (a : α) : l.toArray.setIfInBounds i a = (l.set i a).toArray := List.setIfInBounds_toArray ..
theorem sq5 {α : Type _} {x : α} {xs : List α} {a : α} : (x :: xs).set 0 a = a :: xs := List.set_cons_zero
theorem sq6 {α : Type _} {x : α} {xs : List α} {i : Nat} {a : α} : (x :: xs).set (i + 1) a = x :: xs.set i a := List.set_cons_succ
section
variable {P : Program} {ops : Array Oper} {Q : Exit → Act → World → Prop} {md : Region.Mode} {S : World → Prop} {Y : List Nat}
theorem wpL (i : Nat) {oi : Oper} {v : Value} {fuel : Nat} {listed : Array Bool} {a : Act} {w : World} (hS : S w) (hy : ∀ w, S w → (execOp a.eval oi).run P w = .ok (.value v) w)
    (h : S w → wpAnyY P md ops Q S Y fuel (listed.setIfInBounds i true) (a.put oi.dst v) w) (hi : ops[i]? = some oi := by rfl)
    (hs : Region.noSelect ops = true := by kernel_rfl) (hf : Region.free md ops listed i = true := by kernel_rfl) (hr : (Region.ready md ops listed).contains i = true := by kernel_rfl)
    (hst : (!(Y.contains i) && Y.all (fun y => waits md ops 12 y i) && closedB md ops listed && !(anyOf Y listed)) = true := by kernel_rfl)
    (hQ : ∀ c a w, Q (.panic c) (a.put oi.dst v) w → Q (.panic c) a w := by exact fun _ _ _ h => h) (hg : Region.wanted oi (yielded ops a.tmps) = true := by rfl) : wpAnyY P md ops Q S Y (fuel + 1) listed a w :=
  wpAnyY_load 12 hi hs hf hr hst hQ (Or.inl ⟨hg, hy⟩) hS h
theorem wpU (i : Nat) {oi : Oper} {v : Value} {fuel : Nat} {listed : Array Bool} {a : Act} {w : World} (hS : anyOf Y listed = true ∨ S w) (hy : ∀ w, (fun _ => True) w → (execOp a.eval oi).run P w = .ok (.value v) w)
    (h : wpAnyY P md ops Q S Y fuel (listed.setIfInBounds i true) (a.put oi.dst v) w) (hi : ops[i]? = some oi := by rfl)
    (hs : Region.noSelect ops = true := by kernel_rfl) (hf : Region.free md ops listed i = true := by kernel_rfl) (hr : (Region.ready md ops listed).contains i = true := by kernel_rfl)
    (hst : Y.contains i = false := by kernel_rfl)
    (hQ : ∀ c a w, Q (.panic c) (a.put oi.dst v) w → Q (.panic c) a w := by exact fun _ _ _ h => h) (hg : Region.wanted oi (yielded ops a.tmps) = true := by rfl) : wpAnyY P md ops Q S Y (fuel + 1) listed a w :=
  wpAnyY_pure hi hs hf hr hst hQ (Or.inl ⟨hg, hy⟩) hS h
theorem wpO (i : Nat) {o : Oper} {fuel : Nat} {listed : Array Bool} {a : Act} {w : World}
    (h : ∀ K' : Act → World → Prop, Shut (∀ a w, (anyOf Y (listed.setIfInBounds i true) = true ∨ S w) → wpAnyY P md ops Q S Y fuel (listed.setIfInBounds i true) a w → K' a w) → if Region.wanted o (yielded ops a.tmps) = true then Oper.wp P o a w K' Q else K' (a.put o.dst undef) w)
    (hr : Region.ready md ops listed = [i] := by kernel_rfl) (ho : ops[i]? = some o := by rfl) : wpAnyY P md ops Q S Y (fuel + 1) listed a w := wpAnyY_one hr ho h
end
end Go.Proofs.YtihghflppegnmaaGreatDoor
namespace Go.Proofs.YtihghflppegnmaaGreatDoor
open Go Go.ChangeShapes Go.WideShapes Go.ChangeAt Go.RowKit
abbrev ptr0 (b : Nat) : Value := .pointer (some ⟨b, 0, none⟩)
def vb : Option Nat → Value
  | none => undef
  | some b => ptr0 b
def pA (a : Act) (tp tq : Nat) (x y : Value) : Act := (a.put (some tp) x).put (some tq) y
def mk1 (l : Array Bool) (p : Nat) : Option Nat → Array Bool
  | none => l
  | some _ => l.setIfInBounds p true
def mk2 (l : Array Bool) (p q : Nat) (o1 o2 : Option Nat) : Array Bool := mk1 (mk1 l p o1) q o2
def need : Option Nat → Nat
  | none => 1
  | some _ => 0
theorem set_comm {α : Type} (xs : Array α) {i j : Nat} (h : i ≠ j) (x y : α) : (xs.setIfInBounds i x).setIfInBounds j y = (xs.setIfInBounds j y).setIfInBounds i x := by
  apply Array.ext_getElem?
  intro k
  simp only [Array.getElem?_setIfInBounds, Array.size_setIfInBounds]
  by_cases h1 : i = k
  · by_cases h2 : j = k
    · omega
    · simp [h1, h2]
  · by_cases h2 : j = k <;> simp [h1, h2]
theorem put_comm (a : Act) {i j : Nat} (h : i ≠ j) (x y : Value) : (a.put (some i) x).put (some j) y = (a.put (some j) y).put (some i) x := by
  unfold Act.put
  simp only
  rw [set_comm _ h]
theorem put_same (a : Act) (i : Nat) (x y : Value) : (a.put (some i) x).put (some i) y = a.put (some i) y := by
  unfold Act.put
  simp only
  rw [Array.setIfInBounds_setIfInBounds]
section
variable {a : Act} {tp tq d : Nat} {x y v : Value} {l : Array Bool} {p q i b : Nat} {o1 o2 : Option Nat}
theorem pA_p (h : tp ≠ tq) : (pA a tp tq x y).put (some tp) v = pA a tp tq v y := by
  unfold pA
  rw [put_comm _ (fun e => h e.symm), put_same]
theorem pA_q : (pA a tp tq x y).put (some tq) v = pA a tp tq x v := put_same _ _ _ _
theorem pA_o (h1 : d ≠ tp) (h2 : d ≠ tq) : (pA a tp tq x y).put (some d) v = pA (a.put (some d) v) tp tq x y := by
  unfold pA
  rw [put_comm _ (fun e => h2 e.symm), put_comm _ (fun e => h1 e.symm)]
theorem mk_o (h1 : i ≠ p) (h2 : i ≠ q) : (mk2 l p q o1 o2).setIfInBounds i true = mk2 (l.setIfInBounds i true) p q o1 o2 := by
  unfold mk2
  cases o1 <;> cases o2 <;> simp only [mk1]
  · rw [set_comm _ (fun e => h2 e.symm)]
  · rw [set_comm _ (fun e => h1 e.symm)]
  · rw [set_comm _ (fun e => h2 e.symm), set_comm _ (fun e => h1 e.symm)]
theorem mk_p (h : p ≠ q) : (mk2 l p q none o2).setIfInBounds p true = mk2 l p q (some b) o2 := by
  unfold mk2
  cases o2 <;> simp only [mk1]
  rw [set_comm _ (fun e => h e.symm)]
theorem mk_q : (mk2 l p q o1 none).setIfInBounds q true = mk2 l p q o1 (some b) := rfl
def chk4 (g : Array Bool → Bool) (l : Array Bool) (p q : Nat) : Bool := g l && g (l.setIfInBounds p true) && g (l.setIfInBounds q true) && g ((l.setIfInBounds p true).setIfInBounds q true)
theorem chk4_mk {g : Array Bool → Bool} (h : chk4 g l p q = true) : g (mk2 l p q o1 o2) = true := by
  unfold chk4 at h
  simp only [Bool.and_eq_true] at h
  obtain ⟨⟨⟨h1, h2⟩, h3⟩, h4⟩ := h
  cases o1 <;> cases o2 <;> assumption
end
structure Made (W : World) (B : Nat) (Z : List Value) (F : Nat → Prop) (o : Option Nat) : Prop where
  h : ∀ b, o = some b → Box W b Z ∧ B ≤ b ∧ ¬ F b
theorem Made.none {W : World} {B : Nat} {Z : List Value} {F : Nat → Prop} : Made W B Z F none := ⟨fun b e => by cases e⟩
theorem Made.below {W W' : World} {B : Nat} {Z : List Value} {F : Nat → Prop} {o : Option Nat} (h : Made W B Z F o) (hb : Below W.heap.size W W') : Made W' B Z F o := ⟨fun b e => by obtain ⟨h1, h2⟩ := h.h b e; exact ⟨h1.below hb, h2⟩⟩
section
variable (P : Program) (ops : Array Oper) (Q : Exit → Act → World → Prop) (S : World → Prop) (p q tp tq : Nat) (Zp Zq : List Value)
/-- The rest of the region goes well, whichever of the two blocks has been made. -/
def GA (B f : Nat) (l : Array Bool) (a : Act) (F : Nat → Prop) (Inv : World → Prop) : Prop :=
  ∀ (o1 o2 : Option Nat) (W : World), Inv W → (∀ k, F k → k < W.heap.size) → B ≤ W.heap.size → Made W B Zp F o1 → Made W B Zq F o2 → (∀ b, o1 = some b → o2 ≠ some b) → wpAnyY P .any ops Q S [] (f + need o1 + need o2) (mk2 l p q o1 o2) (pA a tp tq (vb o1) (vb o2)) W
/-- The two operations that make blocks. -/
structure TwoAl (Tp Tq : TypeId) : Prop where
  pq : p ≠ q
  tpq : tp ≠ tq
  hp : ∀ (K : Act → World → Prop) (a : Act) (W : World), K (a.put (some tp) (ptr0 W.heap.size)) (W.alloc (.cells Zp.toArray Tp)) → wpOp P ops Q p K a W
  hq : ∀ (K : Act → World → Prop) (a : Act) (W : World), K (a.put (some tq) (ptr0 W.heap.size)) (W.alloc (.cells Zq.toArray Tq)) → wpOp P ops Q q K a W
end
section
variable {P : Program} {ops : Array Oper} {Q : Exit → Act → World → Prop} {S : World → Prop} {p q tp tq : Nat} {Zp Zq : List Value} {Tp Tq : TypeId} {B f : Nat} {l : Array Bool} {a : Act} {F : Nat → Prop} {Inv : World → Prop}
theorem GA.start (h : GA P ops Q S p q tp tq Zp Zq B f l a F Inv) {W : World} (hI : Inv W) (hF : ∀ k, F k → k < W.heap.size) (hB : B ≤ W.heap.size) (ha : pA a tp tq undef undef = a) : wpAnyY P .any ops Q S [] (f + 1 + 1) l a W := by
  have := h none none W hI hF hB Made.none Made.none (fun b e => by cases e)
  rw [show pA a tp tq (vb none) (vb none) = a from ha] at this
  exact this
theorem TwoAl.of {op1 op2 : Oper} (e1 : ∀ (a : Act) (W : World), (execOp a.eval op1).run P W = .ok (.value (ptr0 W.heap.size)) (W.alloc (.cells Zp.toArray Tp))) (e2 : ∀ (a : Act) (W : World), (execOp a.eval op2).run P W = .ok (.value (ptr0 W.heap.size)) (W.alloc (.cells Zq.toArray Tq)))
    (i1 : ops[p]? = some op1 := by rfl) (i2 : ops[q]? = some op2 := by rfl) (d1 : op1.dst = some tp := by rfl) (d2 : op2.dst = some tq := by rfl) (g1 : op1.guard = none := by rfl) (g2 : op2.guard = none := by rfl) (pq : p ≠ q := by decide) (tpq : tp ≠ tq := by decide) :
    TwoAl P ops Q p q tp tq Zp Zq Tp Tq :=
  ⟨pq, tpq, fun K a W h => wpOp_step i1 (fun K' hK => by
    rw [if_pos (by simp [Region.wanted, g1])]
    unfold Oper.wp
    rw [e1]
    rw [← d1] at h
    exact hK _ _ h), fun K a W h => wpOp_step i2 (fun K' hK => by
    rw [if_pos (by simp [Region.wanted, g2])]
    unfold Oper.wp
    rw [e2]
    rw [← d2] at h
    exact hK _ _ h)⟩
/-- The region begins. -/
theorem GA.begin (T : TwoAl P ops Q p q tp tq Zp Zq Tp Tq) {W : World} (hI : Inv W) (hF : ∀ k, F k → k < W.heap.size) (hB : B ≤ W.heap.size) (h : TwoAl P ops Q p q tp tq Zp Zq Tp Tq → GA P ops Q S p q tp tq Zp Zq B f l a F Inv) (ha : pA a tp tq undef undef = a := by rfl) : wpAnyY P .any ops Q S [] (f + 1 + 1) l a W := (h T).start hI hF hB ha
theorem below_alloc (W : World) (o : Obj) : Below W.heap.size W (W.alloc o) := (Below.refl _ _).alloc (Nat.le_refl _) _
theorem made_new {W : World} (B : Nat) (Z : List Value) (F : Nat → Prop) (T : TypeId) (hF : ∀ k, F k → k < W.heap.size) (hB : B ≤ W.heap.size) : Made (W.alloc (.cells Z.toArray T)) B Z F (some W.heap.size) :=
  ⟨fun b e => by
    cases e
    exact ⟨Box.new W Z T, hB, fun h => Nat.lt_irrefl _ (hF _ h)⟩⟩
/-- What is still to be made is made in whatever order; what else may come up is walked by 'hc'. -/
theorem GA.build (T : TwoAl P ops Q p q tp tq Zp Zq Tp Tq) (hS : ∀ W, Inv W → S W) (hinv : ∀ W W', Inv W → Below W.heap.size W W' → Inv W') (c : List Nat)
    (hr : (((Region.ready .any ops l).all (fun i => i == p || i == q || c.contains i) && !(Region.ready .any ops l).isEmpty) && ((Region.ready .any ops (l.setIfInBounds p true)).all (fun i => i == q || c.contains i) && !(Region.ready .any ops (l.setIfInBounds p true)).isEmpty) && ((Region.ready .any ops (l.setIfInBounds q true)).all (fun i => i == p || c.contains i) && !(Region.ready .any ops (l.setIfInBounds q true)).isEmpty)) = true)
    (h11 : ∀ b1 b2 W, Inv W → (∀ k, F k → k < W.heap.size) → B ≤ W.heap.size → Made W B Zp F (some b1) → Made W B Zq F (some b2) → b1 ≠ b2 → wpAnyY P .any ops Q S [] f ((l.setIfInBounds p true).setIfInBounds q true) (pA a tp tq (ptr0 b1) (ptr0 b2)) W)
    (hc : ∀ i ∈ c, ∀ (o1 o2 : Option Nat) (n : Nat) (W : World), (o1 = none ∨ o2 = none) → n + 1 = f + need o1 + need o2 → Inv W → (∀ k, F k → k < W.heap.size) → B ≤ W.heap.size → Made W B Zp F o1 → Made W B Zq F o2 → (∀ b, o1 = some b → o2 ≠ some b) → wpOp P ops Q i (fun a' w' => (anyOf [] ((mk2 l p q o1 o2).setIfInBounds i true) = true ∨ S w') ∧ wpAnyY P .any ops Q S [] n ((mk2 l p q o1 o2).setIfInBounds i true) a' w') (pA a tp tq (vb o1) (vb o2)) W) :
    GA P ops Q S p q tp tq Zp Zq B f l a F Inv := by
  simp only [Bool.and_eq_true, Bool.not_eq_true', List.all_eq_true, Bool.or_eq_true, beq_iff_eq, List.isEmpty_eq_false_iff] at hr
  obtain ⟨⟨⟨r0, e0⟩, ⟨r1, e1⟩⟩, ⟨r2, e2⟩⟩ := hr
  have h10 : ∀ b1 W, Inv W → (∀ k, F k → k < W.heap.size) → B ≤ W.heap.size → Made W B Zp F (some b1) → wpAnyY P .any ops Q S [] (f + 1) (l.setIfInBounds p true) (pA a tp tq (ptr0 b1) undef) W := fun b1 W hI hF hB m1 => by
    refine ⟨fun h => absurd h e1, fun i hi => ?_⟩
    rcases r1 i hi with rfl | hci
    · refine T.hq _ _ W ⟨.inr (hS _ (hinv _ _ hI (below_alloc _ _))), ?_⟩
      rw [pA_q]
      exact h11 b1 W.heap.size _ (hinv _ _ hI (below_alloc _ _)) (fun k hk => Nat.lt_of_lt_of_le (hF k hk) (below_alloc W _).size) (Nat.le_trans hB (below_alloc W _).size) (m1.below (below_alloc _ _)) (made_new B Zq F Tq hF hB) (fun e => by have := ((m1.h b1 rfl).1).1; omega)
    · exact hc i (by simpa using hci) (some b1) none f W (.inr rfl) (by simp [need]) hI hF hB m1 Made.none (fun b e => by simp)
  have h01 : ∀ b2 W, Inv W → (∀ k, F k → k < W.heap.size) → B ≤ W.heap.size → Made W B Zq F (some b2) → wpAnyY P .any ops Q S [] (f + 1) (l.setIfInBounds q true) (pA a tp tq undef (ptr0 b2)) W := fun b2 W hI hF hB m2 => by
    refine ⟨fun h => absurd h e2, fun i hi => ?_⟩
    rcases r2 i hi with rfl | hci
    · refine T.hp _ _ W ⟨.inr (hS _ (hinv _ _ hI (below_alloc _ _))), ?_⟩
      rw [pA_p T.tpq, set_comm _ (fun e => T.pq e.symm)]
      exact h11 W.heap.size b2 _ (hinv _ _ hI (below_alloc _ _)) (fun k hk => Nat.lt_of_lt_of_le (hF k hk) (below_alloc W _).size) (Nat.le_trans hB (below_alloc W _).size) (made_new B Zp F Tp hF hB) (m2.below (below_alloc _ _)) (fun e => by have := ((m2.h b2 rfl).1).1; omega)
    · exact hc i (by simpa using hci) none (some b2) f W (.inl rfl) (by simp [need]) hI hF hB Made.none m2 (fun b e => by cases e)
  have h00 : ∀ W, Inv W → (∀ k, F k → k < W.heap.size) → B ≤ W.heap.size → wpAnyY P .any ops Q S [] (f + 1 + 1) l (pA a tp tq undef undef) W := fun W hI hF hB => by
    refine ⟨fun h => absurd h e0, fun i hi => ?_⟩
    rcases r0 i hi with (rfl | rfl) | hci
    · refine T.hp _ _ W ⟨.inr (hS _ (hinv _ _ hI (below_alloc _ _))), ?_⟩
      rw [pA_p T.tpq]
      exact h10 W.heap.size _ (hinv _ _ hI (below_alloc _ _)) (fun k hk => Nat.lt_of_lt_of_le (hF k hk) (below_alloc W _).size) (Nat.le_trans hB (below_alloc W _).size) (made_new B Zp F Tp hF hB)
    · refine T.hq _ _ W ⟨.inr (hS _ (hinv _ _ hI (below_alloc _ _))), ?_⟩
      rw [pA_q]
      exact h01 W.heap.size _ (hinv _ _ hI (below_alloc _ _)) (fun k hk => Nat.lt_of_lt_of_le (hF k hk) (below_alloc W _).size) (Nat.le_trans hB (below_alloc W _).size) (made_new B Zq F Tq hF hB)
    · exact hc i (by simpa using hci) none none (f + 1) W (.inl rfl) (by simp [need]) hI hF hB Made.none Made.none (fun b e => by cases e)
  intro o1 o2 W hI hF hB m1 m2 hd
  cases o1 with
  | none => cases o2 with
    | none => exact h00 W hI hF hB
    | some b2 => exact h01 b2 W hI hF hB m2
  | some b1 => cases o2 with
    | none => exact h10 b1 W hI hF hB m1
    | some b2 => exact h11 b1 b2 W hI hF hB m1 m2 (fun e => hd b1 rfl (by rw [e]))
/-- Only the blocks are left to be made, ahead of the last operations. -/
theorem GA.last (T : TwoAl P ops Q p q tp tq Zp Zq Tp Tq) (hS : ∀ W, Inv W → S W) (hinv : ∀ W W', Inv W → Below W.heap.size W W' → Inv W')
    (h11 : ∀ b1 b2 W, Inv W → Box W b1 Zp → Box W b2 Zq → B ≤ b1 → B ≤ b2 → ¬ F b1 → ¬ F b2 → b1 ≠ b2 → wpAnyY P .any ops Q S [] f ((l.setIfInBounds p true).setIfInBounds q true) (pA a tp tq (ptr0 b1) (ptr0 b2)) W)
    (hr : (((Region.ready .any ops l).all (fun i => i == p || i == q || ([] : List Nat).contains i) && !(Region.ready .any ops l).isEmpty) && ((Region.ready .any ops (l.setIfInBounds p true)).all (fun i => i == q || ([] : List Nat).contains i) && !(Region.ready .any ops (l.setIfInBounds p true)).isEmpty) && ((Region.ready .any ops (l.setIfInBounds q true)).all (fun i => i == p || ([] : List Nat).contains i) && !(Region.ready .any ops (l.setIfInBounds q true)).isEmpty)) = true := by kernel_rfl) :
    GA P ops Q S p q tp tq Zp Zq B f l a F Inv :=
  GA.build T hS hinv [] hr (fun b1 b2 W hI hF hB m1 m2 hd => by
    obtain ⟨x1, x2, x3⟩ := m1.h b1 rfl
    obtain ⟨y1, y2, y3⟩ := m2.h b2 rfl
    exact h11 b1 b2 W hI x1 y1 x2 y2 x3 y3 hd) (fun i hi => by simp at hi)
theorem wanted_none {o : Oper} (h : o.guard = none) (y : Nat → Option Bool) : Region.wanted o y = true := by simp [Region.wanted, h]
/-- A call comes up somewhere among them. -/
theorem GA.call (T : TwoAl P ops Q p q tp tq Zp Zq Tp Tq) (hS : ∀ W, Inv W → S W) (hinv : ∀ W W', Inv W → Below W.heap.size W W' → Inv W') (c : Nat) {oc : Oper} {d : Nat} (Post : Value → World → Prop) (Own : Value → Nat → Prop)
    (hpost : ∀ u W W', Post u W → Below W.heap.size W W' → Post u W')
    (hcall : ∀ x y W, Inv W → ∀ K : Act → World → Prop, Shut (∀ u W', Below W.heap.size W W' → Post u W' → (∀ k, Own u k → W.heap.size ≤ k ∧ k < W'.heap.size) → K ((pA a tp tq x y).put (some d) u) W') → Oper.wp P oc (pA a tp tq x y) W K Q)
    (hnext : ∀ u, (∃ W, Post u W) → GA P ops Q S p q tp tq Zp Zq B f (l.setIfInBounds c true) (a.put (some d) u) (fun k => F k ∨ Own u k) (fun W => Inv W ∧ Post u W))
    (hc : ops[c]? = some oc := by rfl) (hd : oc.dst = some d := by rfl) (hg : oc.guard = none := by rfl) (n1 : d ≠ tp := by decide) (n2 : d ≠ tq := by decide) (n3 : c ≠ p := by decide) (n4 : c ≠ q := by decide)
    (hr : ((((Region.ready .any ops l).all (fun i => i == p || i == q || [c].contains i) && !(Region.ready .any ops l).isEmpty) && ((Region.ready .any ops (l.setIfInBounds p true)).all (fun i => i == q || [c].contains i) && !(Region.ready .any ops (l.setIfInBounds p true)).isEmpty) && ((Region.ready .any ops (l.setIfInBounds q true)).all (fun i => i == p || [c].contains i) && !(Region.ready .any ops (l.setIfInBounds q true)).isEmpty)) && ((Region.ready .any ops ((l.setIfInBounds p true).setIfInBounds q true)).all (fun i => i == c) && !(Region.ready .any ops ((l.setIfInBounds p true).setIfInBounds q true)).isEmpty)) = true := by kernel_rfl) :
    GA P ops Q S p q tp tq Zp Zq B (f + 1) l a F Inv := by
  rw [Bool.and_eq_true] at hr
  obtain ⟨hr, hr2⟩ := hr
  have step : ∀ (o1 o2 : Option Nat) (n : Nat) (W : World), n + 1 = f + 1 + need o1 + need o2 → Inv W → (∀ k, F k → k < W.heap.size) → B ≤ W.heap.size → Made W B Zp F o1 → Made W B Zq F o2 → (∀ b, o1 = some b → o2 ≠ some b) → wpOp P ops Q c (fun a' w' => (anyOf [] ((mk2 l p q o1 o2).setIfInBounds c true) = true ∨ S w') ∧ wpAnyY P .any ops Q S [] n ((mk2 l p q o1 o2).setIfInBounds c true) a' w') (pA a tp tq (vb o1) (vb o2)) W := by
    intro o1 o2 n W hn hI hF hB m1 m2 hdd
    obtain rfl : n = f + need o1 + need o2 := by omega
    refine wpOp_step hc (fun K' hK => ?_)
    rw [if_pos (wanted_none hg _)]
    refine hcall _ _ W hI K' (fun u W' hb hp ho => hK _ _ ⟨.inr (hS _ (hinv _ _ hI hb)), ?_⟩)
    rw [pA_o n1 n2, mk_o n3 n4]
    refine hnext u ⟨W', hp⟩ o1 o2 W' ⟨hinv _ _ hI hb, hp⟩ (fun k hk => hk.elim (fun h => Nat.lt_of_lt_of_le (hF k h) hb.size) (fun h => (ho k h).2)) (Nat.le_trans hB hb.size) ⟨fun b e => ?_⟩ ⟨fun b e => ?_⟩ hdd
    · obtain ⟨h1, h2, h3⟩ := m1.h b e
      exact ⟨h1.below hb, h2, fun h => h.elim h3 (fun h => by have := (ho b h).1; have := h1.1; omega)⟩
    · obtain ⟨h1, h2, h3⟩ := m2.h b e
      exact ⟨h1.below hb, h2, fun h => h.elim h3 (fun h => by have := (ho b h).1; have := h1.1; omega)⟩
  refine GA.build T hS hinv [c] hr (fun b1 b2 W hI hF hB m1 m2 hd12 => ?_) (fun i hi o1 o2 n W _ hn hI hF hB m1 m2 hdd => by
    obtain rfl := List.mem_singleton.1 hi
    exact step o1 o2 n W hn hI hF hB m1 m2 hdd)
  simp only [Bool.and_eq_true, Bool.not_eq_true', List.all_eq_true, beq_iff_eq, List.isEmpty_eq_false_iff] at hr2
  refine ⟨fun h => absurd h hr2.2, fun i hi => ?_⟩
  obtain rfl := hr2.1 i hi
  exact step (some b1) (some b2) f W (by simp [need]) hI hF hB m1 m2 (fun b e e2 => by cases e; cases e2; exact hd12 rfl)
/-- An operation that reads its operands alone is taken first. -/
theorem GA.pure (hS : ∀ W, Inv W → S W) (i : Nat) {oi : Oper} {d : Nat} {v : Value} (hy : ∀ x y W, (execOp (pA a tp tq x y).eval oi).run P W = .ok (.value v) W)
    (h : GA P ops Q S p q tp tq Zp Zq B f (l.setIfInBounds i true) (a.put (some d) v) F Inv) (hi : ops[i]? = some oi := by rfl) (hd : oi.dst = some d := by rfl) (hg : oi.guard = none := by rfl) (n1 : d ≠ tp := by decide) (n2 : d ≠ tq := by decide) (n3 : i ≠ p := by decide) (n4 : i ≠ q := by decide)
    (hs : Region.noSelect ops = true := by kernel_rfl) (hr : chk4 (fun l => Region.free .any ops l i && (Region.ready .any ops l).contains i) l p q = true := by kernel_rfl) (hQ : ∀ c a w, Q (.panic c) (a.put (some d) v) w → Q (.panic c) a w := by exact fun _ _ _ h => h) :
    GA P ops Q S p q tp tq Zp Zq B (f + 1) l a F Inv := by
  intro o1 o2 W hI hF hB m1 m2 hdd
  have hk := chk4_mk (o1 := o1) (o2 := o2) hr
  rw [Bool.and_eq_true] at hk
  have key := h o1 o2 W hI hF hB m1 m2 hdd
  rw [← pA_o n1 n2, ← mk_o n3 n4] at key
  rw [show f + 1 + need o1 + need o2 = (f + need o1 + need o2) + 1 by omega]
  rw [← hd] at key
  exact wpAnyY_pure hi hs hk.1 hk.2 rfl (by rw [hd]; exact hQ) (Or.inl ⟨wanted_none hg _, fun w _ => hy _ _ w⟩) (Or.inr (hS _ hI)) key
/-- One that reads memory which nothing of the region writes is taken first. -/
theorem GA.load (hS : ∀ W, Inv W → S W) (i : Nat) {oi : Oper} {d : Nat} {v : Value} (hy : ∀ x y W, S W → (execOp (pA a tp tq x y).eval oi).run P W = .ok (.value v) W)
    (h : GA P ops Q S p q tp tq Zp Zq B f (l.setIfInBounds i true) (a.put (some d) v) F Inv) (hi : ops[i]? = some oi := by rfl) (hd : oi.dst = some d := by rfl) (hg : oi.guard = none := by rfl) (n1 : d ≠ tp := by decide) (n2 : d ≠ tq := by decide) (n3 : i ≠ p := by decide) (n4 : i ≠ q := by decide)
    (hs : Region.noSelect ops = true := by kernel_rfl) (hr : chk4 (fun l => Region.free .any ops l i && (Region.ready .any ops l).contains i && (closedB .any ops l && !(anyOf [] l))) l p q = true := by kernel_rfl) (hQ : ∀ c a w, Q (.panic c) (a.put (some d) v) w → Q (.panic c) a w := by exact fun _ _ _ h => h) :
    GA P ops Q S p q tp tq Zp Zq B (f + 1) l a F Inv := by
  intro o1 o2 W hI hF hB m1 m2 hdd
  have hk := chk4_mk (o1 := o1) (o2 := o2) hr
  rw [Bool.and_eq_true, Bool.and_eq_true] at hk
  have key := h o1 o2 W hI hF hB m1 m2 hdd
  rw [← pA_o n1 n2, ← mk_o n3 n4] at key
  rw [show f + 1 + need o1 + need o2 = (f + need o1 + need o2) + 1 by omega]
  rw [← hd] at key
  exact wpAnyY_load 12 hi hs hk.1.1 hk.1.2 hk.2 (by rw [hd]; exact hQ) (Or.inl ⟨wanted_none hg _, fun w hw => hy _ _ w hw⟩) (hS _ hI) (fun _ => key)
end
end Go.Proofs.YtihghflppegnmaaGreatDoor
