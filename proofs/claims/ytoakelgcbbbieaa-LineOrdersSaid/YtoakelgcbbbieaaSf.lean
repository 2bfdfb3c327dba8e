/- Which fault comes before another: a strict order that parts any two. -/
import Derived.Test.YtoakelgcbbbieaaSb
import Derived.Sort.Defs
import Derived.Sort.Statements
namespace Go.Proofs.Ytoakelgcbbbieaa
open Go.RowKit Go.Maps Go.Sort Go.Proofs.YtoakelgcbbbieaaW.PrintWords Go.Proofs.YtoakelgcbbbieaaW.PrintLast Go.Proofs.YtoakelgcbbbieaaW.PrintMore
set_option linter.unusedVariables false
set_option linter.unusedSimpArgs false

def ltF (a b : S113) : Prop := a.f0 < b.f0 ∨ (a.f0 = b.f0 ∧ (a.f1 < b.f1 ∨ (a.f1 = b.f1 ∧ a.f2 < b.f2)))
theorem cmpF_neg (a b : S113) : cmpF a b < 0 ↔ ltF a b := by
  unfold cmpF ltF
  simp only [orI, cmpI]
  repeat' split
  all_goals omega

def ltFB (a b : S113) : Bool := decide (cmpF a b < 0)
theorem ltFB_iff (a b : S113) : ltFB a b = true ↔ ltF a b := by unfold ltFB; rw [decide_eq_true_iff, cmpF_neg]
theorem ltFB_not (a b : S113) : ltFB a b = false ↔ ¬ ltF a b := by rw [← ltFB_iff]; simp
theorem swoF : SWO ltFB where
  irrefl x := by rw [ltFB_not]; unfold ltF; omega
  trans x y z h1 h2 := by rw [ltFB_iff] at *; unfold ltF at *; omega
  ntrans x y z h1 h2 := by rw [ltFB_not] at *; unfold ltF at *; omega
theorem ltF_total {a b : S113} (h1 : ltFB a b = false) (h2 : ltFB b a = false) : a = b := by
  rw [ltFB_not] at h1 h2
  unfold ltF at h1 h2
  cases a
  cases b
  simp only at h1 h2
  congr 1 <;> omega
end Go.Proofs.Ytoakelgcbbbieaa
