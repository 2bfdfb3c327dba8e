/- The row of LineOrders: for every input the statement returns true. -/
import Derived.Test.YtoakelgcbbbieaaRows
import Derived.Test.YtoakelgcbbbieaaSv
import Derived.Test.YtoakelgcbbbieaaPa
import Derived.WalkKit
import Derived.ProofKit
import Derived.OpenShut
import Derived.ShutString
import Derived.ChangeOld
import Derived.Below
import Derived.SizedLaws
import Derived.Test.YtoakelgcbbbieaaWSized
/-! The row of LineOrders. -/
namespace Go.Proofs.Ytoakelgcbbbieaa
open Go.RowKit Go.WideShapes Go.Proofs.YtoakelgcbbbieaaW.PrintWords Go.Proofs.YtoakelgcbbbieaaW.PrintLast Go.Proofs.YtoakelgcbbbieaaW.PrintMore
theorem cells125 : Try.prog.cellsOf 125 = 3 := by kernel_rfl
theorem opens125 : Opens Try.prog (Kd.pair (Kd.int .i64) (Kd.pair (Kd.int .i64) (Kd.int .i64))) 125 (fun p => (Lit.int .i64 p.1).wf = true ∧ (Lit.int .i64 p.2.1).wf = true ∧ (Lit.int .i64 p.2.2).wf = true) := opens_array3 (d := Kd.int .i64) Try.underlying125 cells3 cells125 (opens_int Try.underlying3)
end Go.Proofs.Ytoakelgcbbbieaa
namespace Go.Proofs.Ytoakelgcbbbieaa.lineOrders
open Go.ChangeShapes Go.WideShapes Go.ChangeAt Go.RowKit
open Go.ChangeMaps (open_string shut_string)
set_option linter.unusedVariables false
theorem own : ownKnob Try.prog.godebug = none := by kernel_rfl
theorem laidOut : laidOutB Try.prog = true := by kernel_rfl
set_option maxRecDepth 100000 in
theorem lifted (os : Os) (started : os.Started) (H : Type) (enc : TypeId × Value → H) :
    ReturnsInHanded {} Try.checked os 12 .any (Rows.lineOrdersSpec.pre6 enc Try.prog Try.f12 Rows.lineOrdersRow.domain false) (Rows.lineOrdersSpec.post enc Try.prog Try.f12 false true false false) := by
  refine returnsInHanded_of_change_sized (C := Try.checked) own started (by kernel_rfl) Try.func12
    (ChangeSpec.witness6 (enc := enc) (C := Try.checked) false ⟨#[], #[.slice none 0 0, .agg #[.int .i64 0, .int .i64 0, .int .i64 0]], []⟩ 8 (by kernel_rfl) (by kernel_rfl) (by kernel_rfl) (by kernel_rfl)) ?_
  intro W base args ds gs before hval0 hW hcnd hsz0 _
  have hval : ∀ (j : Nat) t v, Try.f12.params[j]? = some t → args[j]? = some v → Value.okWide Try.prog W .any base t v := hval0
  have hW' := hW
  obtain ⟨p, q, hA0, hV, rfl, hfz, hnd⟩ := hW
  have hA : DataW.TrodAll enc Try.prog W 0 (fun _ => true) true Try.f12.params.toList args.toList ds p := hA0
  rw [Try.params12] at hA hval
  obtain ⟨v0, vs0, d0, ds0, p0, q0, hargs, rfl, rfl, h0, r0⟩ := trodAll_cons hA
  obtain ⟨v1, vs1, d1, ds1, p1, q1, rfl, rfl, rfl, h1, r1⟩ := trodAll_cons r0
  obtain ⟨rfl, rfl, rfl⟩ := trodAll_nil r1
  obtain rfl : args = #[v0, v1] := by cases args; simp_all
  obtain ⟨rfl, rfl⟩ := trodVars_none hV
  obtain ⟨a0, len0, cap0, rfl⟩ := okWide_slice Try.underlying22 (hval 0 22 v0 rfl rfl)
  have k0 := h0
  have lt0 : ∀ x ∈ p0, x.block < W.heap.size := by obtain ⟨m, hm⟩ := k0; exact DataW.trod_lt m _ _ _ hm
  obtain ⟨hs, hC, hG⟩ : ∃ hs : List S129, k129.C W a0 len0 hs ∧ ∀ x ∈ hs, okHead x := by
    obtain ⟨fuel, hf⟩ := h0
    obtain ⟨hs, ⟨A, c, h1, h2, h3⟩, hG⟩ := opens22 fuel _ _ _ _ _ _ _ _ hf
    simp only [Value.cells] at h1
    obtain ⟨rfl, rfl, rfl⟩ : a0 = A ∧ len0 = hs.length ∧ cap0 = c := by simpa using h1
    exact ⟨hs, h3, hG⟩
  have k1 := h1
  have lt1 : ∀ x ∈ p1, x.block < W.heap.size := by obtain ⟨m, hm⟩ := k1; exact DataW.trod_lt m _ _ _ hm
  obtain ⟨cs1, rfl, hcs1⟩ := okWide_array Try.underlying125 (hval 1 125 v1 rfl rfl)
  obtain ⟨a1, a2, a3, rfl⟩ : ∃ a1 a2 a3 : Int, cs1 = #[.int .i64 a1, .int .i64 a2, .int .i64 a3] := by
    obtain ⟨fuel, hf⟩ := h1
    obtain ⟨⟨x1, x2, x3⟩, hK, hG1, hG2, hG3⟩ := opens125 fuel _ _ _ _ _ _ _ _ hf
    obtain ⟨c1, c2, e1, hK1, c3, c4, e2, hK2, hK3⟩ := hK
    refine ⟨x1, x2, x3, ?_⟩
    have e3 : (Value.agg cs1).cells.toList = [Value.int .i64 x1, .int .i64 x2, .int .i64 x3] := by
      rw [e1, e2]
      rw [show c1 = [.int .i64 x1] from hK1, show c3 = [.int .i64 x2] from hK2, show c4 = [.int .i64 x3] from hK3]
      rfl
    cases cs1
    simpa [Value.cells] using e3
  refine (LineOrders_walk hC hG a1 a2 a3).mono fun e W' ⟨he, bel⟩ => ?_
  subst he
  exact ⟨_, rfl, _, _, _, [], _, [], hW', trodAll_mk1 (shut_bool Try.underlying4 _), (trodAll_cons_mk (Below.trod laidOut (by kernel_rfl) (of_decide_eq_true (by kernel_rfl)) k0 bel lt0) (trodAll_cons_mk (Below.trod laidOut (by kernel_rfl) (of_decide_eq_true (by kernel_rfl)) k1 bel lt1) trodAll_mk0)), rfl, bel.frame _, fun h => by cases h⟩
theorem over : Rows.lineOrdersRow.holds Try.pinned (OpenSpec.ofChange Rows.lineOrdersSpec) :=
  OpenClaim.holds_of_wide 12 Try.f12 rfl rfl rfl rfl rfl rfl rfl ⟨rfl, rfl, rfl, rfl, rfl⟩ rfl rfl rfl rfl rfl (by kernel_rfl) Try.func12 (by kernel_rfl)
    (of_decide_eq_true (by kernel_rfl)) (by unfold Func.isWrapper; first | (rw [if_pos (by decide +kernel)]; kernel_rfl) | (rw [if_neg (by decide +kernel)]; exact ⟨rfl, rfl⟩))
    (fun os started H enc _ => lifted os started H enc)
theorem proved : Rows.LineOrdersSaid := over
#print axioms proved
end Go.Proofs.Ytoakelgcbbbieaa.lineOrders
namespace Go.Proofs.Ytoakelgcbbbieaa
/-- The row, under a short name, for the claim. -/
theorem lineOrders_holds : Rows.LineOrdersSaid := lineOrders.proved
end Go.Proofs.Ytoakelgcbbbieaa
