/- What the form reads as an expression is one of the kind, of short names and lists; told values. -/
import Derived.Test.YtoakelgcbbbieaaBm
import Derived.Test.YtoakelgcbbbieaaPa
namespace Go.Proofs.Ytoakelgcbbbieaa
open Go.RowKit Go.WideShapes Go.Proofs.YtoakelgcbbbieaaW.PrintWords Go.Proofs.YtoakelgcbbbieaaW.PrintLast Go.Proofs.YtoakelgcbbbieaaW.PrintMore
set_option linter.unusedVariables false
set_option linter.unusedSimpArgs false

theorem okWide_struct {P : Program} {fs : Array Field} {t : TypeId} {w : World} {r : Reach} {base : Nat} {v : Value} (ht : P.underlying t = some (.struct fs)) (h : Value.okWide P w r base t v) : ∃ cs, v = .agg cs ∧ cs.size = P.cellsOf t := by
  unfold Value.okWide at h
  rw [ht] at h
  obtain ⟨cs, h1, h2, -⟩ := h
  exact ⟨cs, h1, h2⟩
theorem cells55 : Try.prog.cellsOf 55 = 2 := by kernel_rfl
theorem cells58 : Try.prog.cellsOf 58 = 7 := by kernel_rfl
theorem cells53 : Try.prog.cellsOf 53 = 1 := by kernel_rfl
theorem cells56 : Try.prog.cellsOf 56 = 1 := by kernel_rfl
theorem cells97 : Try.prog.cellsOf 97 = 3 := by kernel_rfl
abbrev G55 : S55 → Prop := fun s => s.f0.size ≤ maxLen
set_option maxRecDepth 100000 in
theorem opens55 : Opens Try.prog k55 55 G55 := fun n => by
  refine opensAt_struct (g := fun p => (⟨p.1, p.2⟩ : S55)) (G := GA G1 G2) Try.underlying55 cells55 (fun m _ => ?_) (fun a => rfl) ?_
  · refine opensF_cons (off := 0) (a := Kd.string) (Ga := G1) (Gb := G2) rfl cells9 (opens_string Try.underlying9 m) ?_
    exact opensF_one (off := 1) rfl cells3 (opens_int Try.underlying3 m)
  · exact fun a h => h.1
theorem k58_of_F {w : World} {x : S58} {cs : List Value} (h : (F58 k58).K w x cs) : k58.K w x cs ∧ x.f5.length ≤ maxLen := by
  obtain ⟨_, _, rfl, rfl, ⟨_, _, rfl, s1, ⟨_, _, rfl, rfl, ⟨_, _, rfl, rfl, ⟨_, _, rfl, rfl, ⟨A6, c6, rfl, l6, g6⟩⟩⟩⟩⟩⟩ := h
  obtain rfl := k55_open s1
  have h2 : x.f5.length ≤ 9223372036854775807 := by obtain ⟨_, h, _⟩ := g6; exact h
  exact ⟨k58_mk w x l6 g6, h2⟩
set_option maxRecDepth 100000 in
theorem opens58 : Opens Try.prog k58 58 G58 := by
  intro n
  induction n using Nat.strongRecOn with
  | _ n ih =>
  have hF : OpensAt Try.prog n (F58 k58) 58 (fun x => x.f1.f0.size ≤ maxLen ∧ ∀ y ∈ x.f5, G58 y) := by
    refine opensAt_struct (g := fun p => (⟨p.1, p.2.1, p.2.2.1, p.2.2.2.1, p.2.2.2.2.1, p.2.2.2.2.2⟩ : S58)) (G := GA G2 (GA G55 (GA G2 (GA G2 (GA G2 (fun l => ∀ y ∈ l, G58 y)))))) Try.underlying58 cells58 (fun m hm => ?_) (fun a => rfl) ?_
    · refine opensF_cons (off := 0) (a := Kd.int .i64) (Ga := G2) (Gb := GA G55 (GA G2 (GA G2 (GA G2 (fun l => ∀ y ∈ l, G58 y))))) rfl cells53 (opens_int Try.underlying53 m) ?_
      refine opensF_cons (off := 1) (a := k55) (Ga := G55) (Gb := GA G2 (GA G2 (GA G2 (fun l => ∀ y ∈ l, G58 y)))) rfl cells55 (opens55 m) ?_
      refine opensF_cons (off := 3) (a := Kd.int .i64) (Ga := G2) (Gb := GA G2 (GA G2 (fun l => ∀ y ∈ l, G58 y))) rfl cells3 (opens_int Try.underlying3 m) ?_
      refine opensF_cons (off := 4) (a := Kd.int .i64) (Ga := G2) (Gb := GA G2 (fun l => ∀ y ∈ l, G58 y)) rfl cells3 (opens_int Try.underlying3 m) ?_
      refine opensF_cons (off := 5) (a := Kd.int .i64) (Ga := G2) (Gb := (fun l => ∀ y ∈ l, G58 y)) rfl cells3 (opens_int Try.underlying3 m) ?_
      exact opensF_one (off := 6) rfl cells56 (opensAt_slice Try.underlying56 cells58 (fun q hq => ih q (by omega)))
    · exact fun a h => ⟨h.2.1, h.2.2.2.2.2⟩
  intro H enc w base sp held cs x h
  obtain ⟨a, hK, h1, h2⟩ := hF H enc w base sp held cs x h
  obtain ⟨g1, g2⟩ := k58_of_F hK
  exact ⟨a, g1, .mk a h1 g2 h2⟩
abbrev G97 : S97 → Prop := fun s => s.f0.size ≤ maxLen
set_option maxRecDepth 100000 in
theorem opens97 : Opens Try.prog k97 97 G97 := fun n => by
  refine opensAt_struct (g := fun p => (⟨p.1, p.2.1, p.2.2⟩ : S97)) (G := GA G1 (GA G2 G2)) Try.underlying97 cells97 (fun m _ => ?_) (fun a => rfl) ?_
  · refine opensF_cons (off := 0) (a := Kd.string) (Ga := G1) (Gb := GA G2 G2) rfl cells9 (opens_string Try.underlying9 m) ?_
    refine opensF_cons (off := 1) (a := Kd.int .i64) (Ga := G2) (Gb := G2) rfl cells3 (opens_int Try.underlying3 m) ?_
    exact opensF_one (off := 2) rfl cells3 (opens_int Try.underlying3 m)
  · exact fun a h => h.1
theorem opens59 : Opens Try.prog (Kd.slice 97 k97) 59 (fun l => ∀ x ∈ l, G97 x) := opens_slice Try.underlying59 cells97 opens97
end Go.Proofs.Ytoakelgcbbbieaa
