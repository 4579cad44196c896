/- Conditions that are met by trying. No condition. -/
import Derived.Test.YteaabofmnlbmkaaSxC
set_option linter.all false
namespace Sx
/-! conditions that are met by trying -/
theorem oka {p : Prop} (h : p := by first | omega | assumption | (simp; omega) | (simp; done) | exact trivial) : p := h
theorem okd {p : Prop} (h : p := by first | omega | assumption | (simp; omega) | (simp; done) | exact trivial | (apply sd1 <;> first | omega | assumption) | (apply sd2 <;> first | omega | assumption) | (apply sd3 <;> first | omega | assumption) | (apply sd4 <;> first | omega | assumption) | (apply sd5 <;> first | omega | assumption) | (apply sd6 <;> first | omega | assumption) | (apply sd7 <;> first | omega | assumption) | (apply sd8 <;> first | omega | assumption) | (apply sd9 <;> first | omega | assumption)) : p := h
theorem okn {p : Prop} (h : p := by first | omega | assumption | exact fun h => h (by assumption) | exact fun h => h rfl | exact fun h => h Iff.rfl | exact fun h => h ⟨rfl, rfl⟩ | exact fun h => h ⟨rfl, rfl, rfl⟩) : p := h
theorem oky {p : Prop} (h : p := by first | omega | assumption | exact rfl | exact Iff.rfl | exact ⟨rfl, rfl⟩ | exact ⟨rfl, rfl, rfl⟩) : p := h
theorem okk {p : Prop} (h : p := by repeat' first | exact trivial | assumption | exact knownSS | exact knownApp knownSS knownNil | refine And.intro ?_ ?_) : p := h
theorem oko {p : Prop} (h : p := by omega) : p := h
end Sx
