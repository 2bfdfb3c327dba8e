/- A slice of strings, as the form reads it, is of a kind; without an address it has no room. -/
import Derived.Test.YtoakelgcbbbieaaPa
namespace Go.Proofs.Ytoakelgcbbbieaa
open Go.RowKit Go.WideShapes Go.Proofs.YtoakelgcbbbieaaW.PrintWords Go.Proofs.YtoakelgcbbbieaaW.PrintLast Go.Proofs.YtoakelgcbbbieaaW.PrintMore
set_option linter.unusedVariables false
set_option linter.unusedSimpArgs false
theorem opens29 : Opens Try.prog (Kd.slice 9 Kd.string) 29 (fun l => ∀ x ∈ l, x.size ≤ maxLen) := opens_slice Try.underlying29 cells9 (opens_string Try.underlying9)
theorem open_strs29 {H : Type} {enc : TypeId × Value → H} {w : World} {base : Nat} {sp : Nat → Bool} {held : Bool} {A : Option Addr} {n c : Nat} {d : DataW H} {p : List MemPlace} (h : DataW.Trod enc Try.prog w base sp held 29 (.slice A n c) d p) :
    ∃ l, Kd.C Kd.string w A n l ∧ (∀ x ∈ l, x.size ≤ maxLen) ∧ (A = none → c = 0) := by
  obtain ⟨fuel, hf⟩ := h
  obtain ⟨l, ⟨A', c', h1, h2, h3⟩, hG⟩ := opens29 fuel _ _ _ _ _ _ _ _ hf
  simp only [Value.cells] at h1
  obtain ⟨rfl, rfl, rfl⟩ : A = A' ∧ n = l.length ∧ c = c' := by simpa using h1
  refine ⟨l, h3, hG, fun hA => ?_⟩
  rcases DataW.trod_slice Try.underlying29 hf with ⟨h0, _⟩ | ⟨a, len, cap, elems, rest, m, hm, h0, -⟩
  · simp [Value.cells] at h0; exact h0.2.2
  · simp [Value.cells] at h0; rw [hA] at h0; cases h0.1
end Go.Proofs.Ytoakelgcbbbieaa
