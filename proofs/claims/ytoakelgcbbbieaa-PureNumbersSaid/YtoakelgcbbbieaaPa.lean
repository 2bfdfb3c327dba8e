/- An array of three, as the form reads it, is of a kind. -/
import Derived.Test.YtoakelgcbbbieaaP
import Derived.OpenShut
import Derived.WideShapes
namespace Go.Proofs.Ytoakelgcbbbieaa
open Go.RowKit Go.WideShapes Go.Proofs.YtoakelgcbbbieaaW.PrintWords Go.Proofs.YtoakelgcbbbieaaW.PrintLast Go.Proofs.YtoakelgcbbbieaaW.PrintMore
set_option linter.unusedVariables false
set_option linter.unusedSimpArgs false
section
variable {P : Program}
theorem opens_array3 {α : Type} {d : Kd α} {t e : Nat} {G : α → Prop} (ht : P.underlying t = some (.array 3 e)) (hs : P.cellsOf e = d.sz) (hc : P.cellsOf t = d.sz + (d.sz + d.sz)) (hd : Opens P d e G) : Opens P (Kd.pair d (Kd.pair d d)) t (fun p => G p.1 ∧ G p.2.1 ∧ G p.2.2) := by
  intro n H enc w base sp held cs x h
  obtain ⟨xs, m, rfl, -, hl, hxl, hat⟩ := DataW.trod_array ht h
  have get : ∀ i, i < 3 → ∃ a, d.K w a ((cs.drop (i * d.sz)).take d.sz) ∧ G a := by
    intro i hi
    have h1 := hat i hi
    rw [hs, List.getElem?_eq_getElem (by omega)] at h1
    exact hd m _ enc w base sp held _ _ h1
  obtain ⟨a, ha, ga⟩ := get 0 (by omega)
  obtain ⟨b, hb, gb⟩ := get 1 (by omega)
  obtain ⟨c, hc', gc⟩ := get 2 (by omega)
  rw [Nat.zero_mul, List.drop_zero] at ha
  rw [Nat.one_mul] at hb
  refine ⟨(a, b, c), ⟨cs.take d.sz, cs.drop d.sz, (List.take_append_drop _ _).symm, ha, ⟨(cs.drop d.sz).take d.sz, cs.drop (2 * d.sz), ?_, hb, ?_⟩⟩, ga, gb, gc⟩
  · rw [Nat.two_mul, ← List.drop_drop]
    exact (List.take_append_drop _ _).symm
  · rw [List.take_of_length_le (by rw [List.length_drop]; omega)] at hc'
    exact hc'
theorem okWide_array {n : Nat} {e t : TypeId} {w : World} {r : Reach} {base : Nat} {v : Value} (ht : P.underlying t = some (.array n e)) (h : Value.okWide P w r base t v) : ∃ cs, v = .agg cs ∧ cs.size = P.cellsOf t := by
  unfold Value.okWide at h
  rw [ht] at h
  obtain ⟨cs, h1, h2, -⟩ := h
  exact ⟨cs, h1, h2⟩
end
theorem cells39 : Try.prog.cellsOf 39 = 3 := by kernel_rfl
theorem opens39 : Opens Try.prog (Kd.pair Kd.string (Kd.pair Kd.string Kd.string)) 39 (fun p => p.1.size ≤ maxLen ∧ p.2.1.size ≤ maxLen ∧ p.2.2.size ≤ maxLen) := opens_array3 (d := Kd.string) Try.underlying39 cells9 cells39 (opens_string Try.underlying9)
end Go.Proofs.Ytoakelgcbbbieaa
