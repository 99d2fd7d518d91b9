/- Short names of blocks that stand in many places. Conditions: none. -/
import Derived.Lib.Hide
namespace Go.Proofs.YtihghflppegnmaaGreatDoor
theorem bel9 {P : Prop} (h : P := by repeat (first | exact Below.refl _ _ | refine Below.drew ?_ | refine below_drewN ?_ _ | refine Below.allocC ?_ _ | refine Below.setCell ?_ (by first | (simp; done) | (simp; omega)) _ | refine Below.chain ?_ (by assumption))) : P := h
theorem bel8 {P : Prop} (h : P := by repeat (first | exact Below.refl _ _ | assumption | refine Below.alloc ?_ (by simp <;> omega) _ | refine Below.setCell ?_ (by simp <;> omega) _ | refine Below.drew ?_)) : P := h
theorem saf9 {P : Prop} (h : P := by first | exact safe_n _ | exact safe_links _ | exact safe_size _ | exact safe_block _ _ | exact safe_pipe _ _ | exact safe_pipeQ _ _ | exact safe_sig _ _ | exact safe_sigQ _ _ | exact safe_out _ | exact safe_dn | exact safe_proc _ _ | exact safe_clock) : P := h
theorem hid9 {p : Prop} (h : p) : RowKit.Hid p := Lib.hid h
end Go.Proofs.YtihghflppegnmaaGreatDoor
