/- Short names for short proofs. -/
import Derived.KernelRfl
namespace Go.Proofs.YtphpppjfogpohaaGreat
theorem gD {P : Prop} (h : P := by (try simp only [List.getD_cons_succ, List.getD_cons_zero]); rfl) : P := h
theorem aS {P : Prop} (h : P := by with_reducible assumption) : P := h
theorem kR {P : Prop} (h : P := by kernel_rfl) : P := h
theorem oM {P : Prop} (h : P := by omega) : P := h
theorem dM {P : Prop} (h : P := by decide) : P := h
theorem sM {P : Prop} (h : P := by simp) : P := h
theorem rM {P : Prop} (h : P := by rfl) : P := h
end Go.Proofs.YtphpppjfogpohaaGreat
