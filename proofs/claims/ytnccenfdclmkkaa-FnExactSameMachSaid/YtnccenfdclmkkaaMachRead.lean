/- Reading a Mach by value: a slice of cells and a Touch. Of no program. -/
import Derived.Test.YtnccenfdclmkkaaRead
namespace Go.Proofs.Ytnccenfdclmkkaa
open Go.ChangeShapes Go.WideShapes Go.ChangeAt Go.RowKit Go.Deep
section
variable {H : Type} {enc : TypeId × Value → H} {P : Program} {w : World} {base : Nat} {spare : Nat → Bool} {held : Bool}
theorem open_mach {r : Reach} {b0 : Nat} {t e eS : TypeId} {v : Value} {d : DataW H} {p : List MemPlace} {f0 f1 g0 g1 : Field}
    (hs : P.underlying t = some (.struct #[f0, f1])) (o0 : f0.offset = 0) (k0 : P.cellsOf f0.type = 1) (o1 : f1.offset = 1) (k1 : P.cellsOf f1.type = 2) (hCt : P.cellsOf t = 3)
    (hS : P.underlying f0.type = some (.slice e)) (hCe : P.cellsOf e = 2) (hE : ∀ (n : Nat) (cs : List Value) (y : DataW H × List MemPlace), cs.length = 2 → DataW.trod enc P w base spare held n e cs = some y → ∃ x, cs = encC x ∧ okC x)
    (hT : P.underlying f1.type = some (.struct #[g0, g1])) (hone : oneCellFields P #[g0, g1] = true) (h0 : P.underlying g0.type = some (.slice eS)) (h1 : P.underlying g1.type = some (.slice eS)) (hC : P.cellsOf eS = 1)
    (he : P.underlying eS = some .string) (hv : Value.okWide P w r b0 t v) (h : DataW.Trod enc P w base spare held t v d p) :
    ∃ a c xs a0 c0 rs a1 c1 ws, v = .agg #[.slice a (xs : List (ByteArray × ByteArray)).length c, .slice a0 (rs : List ByteArray).length c0, .slice a1 (ws : List ByteArray).length c1] ∧ (xs.length ≤ maxLen ∧ Reads w a 2 encC xs ∧ ∀ x ∈ xs, okC x) ∧ (rs.length ≤ maxLen ∧ Reads w a0 1 encS rs ∧ ∀ x ∈ rs, x.size ≤ maxLen) ∧ (ws.length ≤ maxLen ∧ Reads w a1 1 encS ws ∧ ∀ x ∈ ws, x.size ≤ maxLen) := by
  obtain ⟨cs, rfl, hsz⟩ := okWide_struct hs hv
  obtain ⟨fuel, hf⟩ := h
  obtain ⟨ys, n', _, hy, _, hyl, hff⟩ := DataW.trod_struct hs hf
  have hl : (Value.agg cs).cells.toList.length = 3 := by simp only [Value.cells, Array.length_toList]; exact hsz.trans hCt
  obtain ⟨l⟩ := cs
  simp only [Value.cells] at hl hff
  match l, hl with
  | [x0, x1, x2], _ =>
    match ys, hyl with
    | [y0, y1], _ =>
      have q0 := hff 0 f0 rfl
      have q1 := hff 1 f1 rfl
      rw [o0, k0] at q0
      rw [o1, k1] at q1
      simp only [List.drop_zero, List.take_succ_cons, List.take_zero, List.drop_succ_cons, List.getElem?_cons_zero, List.getElem?_cons_succ] at q0 q1
      obtain ⟨a, c, xs, e0, b0, b1, b2⟩ := open_rows_cell encC okC 2 hS hCe (by decide) hE q0
      obtain ⟨zs, n2, _, hz, _, hzl, hg⟩ := DataW.trod_struct hT q1
      obtain ⟨a0, c0, rs, e1, g0'⟩ := field_slice encS (fun s => s.size ≤ maxLen) 1 hone hg hzl rfl 0 g0 rfl h0 hC (by decide) (elem_string he)
      obtain ⟨a1, c1, ws, e2, g1'⟩ := field_slice encS (fun s => s.size ≤ maxLen) 1 hone hg hzl rfl 1 g1 rfl h1 hC (by decide) (elem_string he)
      simp at e1 e2
      subst e0 e1 e2
      exact ⟨a, c, xs, a0, c0, rs, a1, c1, ws, rfl, ⟨b0, b1, b2⟩, g0', g1'⟩
end
end Go.Proofs.Ytnccenfdclmkkaa
