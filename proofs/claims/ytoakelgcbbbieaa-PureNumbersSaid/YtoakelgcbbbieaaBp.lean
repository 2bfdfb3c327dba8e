/- The chapter's example is what it is: alive. -/
import Derived.Test.YtoakelgcbbbieaaBo
namespace Go.Proofs.Ytoakelgcbbbieaa
open Go.RowKit Go.Maps Go.Shelf Go.Proofs.YtoakelgcbbbieaaW.PrintWords Go.Proofs.YtoakelgcbbbieaaW.PrintLast Go.Proofs.YtoakelgcbbbieaaW.PrintMore
set_option linter.unusedVariables false
set_option linter.unusedSimpArgs false
set_option maxRecDepth 100000

theorem flat_ex : (flat exE).length = 5 := by
  rw [flat_eq]; simp [flatL, exE]
  rw [flat_eq, flat_eq (numE 2)]; simp [flatL, sumE, numE]
  rw [flat_eq pE, flat_eq]; simp [flatL, pE]
theorem shaped_num (k : Int) : shapedB (numE k) = true := by rw [shapedB_eq]; rfl
theorem shaped_p : shapedB pE = true := by rw [shapedB_eq]; rfl
theorem shaped_sum : shapedB sumE = true := by
  rw [shapedB_eq, show sumE.f5 = [pE, numE 1] from rfl, List.all_cons, List.all_cons, shaped_p, shaped_num]; rfl
theorem shaped_ex : shapedB exE = true := by
  rw [shapedB_eq, show exE.f5 = [sumE, numE 2] from rfl, List.all_cons, List.all_cons, shaped_sum, shaped_num]; rfl
def mP27 : ByteArray → Option (Int × Int) := upd (fun _ => none) ⟨#[112]⟩ (1, 3)
theorem ev_num (k : Int) : evP mP27 (numE k) 0 = ((1, wrN k), 0) := by rw [evP_eq]; rfl
theorem ev_p : evP mP27 pE 0 = ((1, 3), 0) := by
  rw [evP_eq]
  show nameP (mP27 ⟨#[112]⟩) = _
  unfold mP27 upd
  rw [if_pos rfl]; rfl
theorem ev_sum : evP mP27 sumE 0 = ((1, 4), 0) := by
  rw [evP_eq, show sumE.f5 = [pE, numE 1] from rfl]
  show (twoP 18 (ofP (evP mP27 pE 0) 1).1 (ofP (evP mP27 (numE 1) (ofP (evP mP27 pE 0) 1).2) 1).1, (ofP (evP mP27 (numE 1) (ofP (evP mP27 pE 0) 1).2) 1).2) = _
  rw [ev_p, show (ofP ((1, 3), 0) 1) = (3, 0) from rfl, ev_num]
  simp [twoP, ofP, wrN, wrap64, wrap32]
theorem ev_ex : evP mP27 exE 0 = ((1, 8), 0) := by
  rw [evP_eq, show exE.f5 = [sumE, numE 2] from rfl]
  show (twoP 20 (ofP (evP mP27 sumE 0) 1).1 (ofP (evP mP27 (numE 2) (ofP (evP mP27 sumE 0) 1).2) 1).1, (ofP (evP mP27 (numE 2) (ofP (evP mP27 sumE 0) 1).2) 1).2) = _
  rw [ev_sum, show (ofP ((1, 4), 0) 1) = (4, 0) from rfl, ev_num]
  simp [twoP, ofP, wrN, wrap64, wrap32]
theorem eval_ex : evalP mP27 exE = ((1, 8), none) := by unfold evalP; rw [if_pos shaped_ex, ev_ex, if_pos rfl]
theorem small112 : (⟨#[112]⟩ : ByteArray).size ≤ maxLen := by show (_ : Nat) ≤ 2 ^ 63 - 1; simp [ByteArray.size]
theorem gn_ex : GN exE := by
  intro y hy
  rw [flat_eq, List.mem_cons] at hy
  simp only [flatL, show exE.f5 = [sumE, numE 2] from rfl, List.flatMap_cons, List.flatMap_nil, List.append_nil, List.mem_append] at hy
  have h0 : (⟨#[]⟩ : ByteArray).size ≤ maxLen := Nat.zero_le _
  rcases hy with rfl | hy | hy
  · exact h0
  · rw [flat_eq, List.mem_cons] at hy
    simp only [flatL, show sumE.f5 = [pE, numE 1] from rfl, List.flatMap_cons, List.flatMap_nil, List.append_nil, List.mem_append] at hy
    rcases hy with rfl | hy | hy
    · exact h0
    · rw [flat_eq, List.mem_cons] at hy
      simp only [flatL, show pE.f5 = [] from rfl, List.flatMap_nil] at hy
      rcases hy with rfl | hy
      · exact small112
      · cases hy
    · rw [flat_eq, List.mem_cons] at hy
      simp only [flatL, show (numE 1).f5 = [] from rfl, List.flatMap_nil] at hy
      rcases hy with rfl | hy
      · exact h0
      · cases hy
  · rw [flat_eq, List.mem_cons] at hy
    simp only [flatL, show (numE 2).f5 = [] from rfl, List.flatMap_nil] at hy
    rcases hy with rfl | hy
    · exact h0
    · cases hy

set_option maxHeartbeats 1000000 in
theorem alive27_calls (w : World) : Calls Try.prog 33 #[] w fun e w' => e = .returned (.bool true) ∧ Below w.heap.size w w' := by
  have hmm := @run_makeMap Try.prog
  have hE : ∀ w : World, (Op.equalIn 10000 67 (.agg #[.int .i64 1, .int .i64 8]) (.agg #[.int .i64 1, .int .i64 8])).run Try.prog w = .ok true w := fun w => by kernel_rfl
  go_enter Try.func33, Try.ntmps33
  go_wp2_with fail
  refine (example_calls w).mono ?_
  rintro e w1 ⟨A, c, rfl, hc, hC, hB⟩
  have HB := Lib.hid hB
  have HC := Lib.hid hC
  obtain ⟨w2, hr2, hM2, hg2⟩ := (MapV.made encP w1).put Try.underlying61 small112 (1, 3)
  dsimp only [encP] at hr2
  have hb2 : Below w1.heap.size w1 w2 := ((Below.refl _ _).alloc (Nat.le_refl _) _).trans (below_grown hg2 (Nat.le_refl _) (by simp))
  have HB2 := Lib.hid hb2
  have HM2 := Lib.hid hM2
  have hEv := Eval_calls (c6 := c) (Kd.C_below hC hb2) hM2 gn_ex
  rw [show upd (fun _ => none) ⟨#[112]⟩ (1, 3) = mP27 from rfl, eval_ex] at hEv
  have HE := Lib.hid hEv
  clear hB hC hg2 hb2 hM2 hEv
  go_wp2_with fail
  refine HE.out.mono ?_
  rintro e w3 ⟨rfl, h3⟩
  have HB3 := Lib.hid h3
  clear h3
  dsimp only [encP, errW]
  have HX := Lib.hid (fun (w0 : World) (hb : Below w3.heap.size w3 w0) => show Below w.heap.size w w0 from HB.out.trans ((HB2.out.trans ((HB3.out.trans (hb.mono HB3.out.size)).mono HB2.out.size)).mono HB.out.size))
  clear hr2 hmm
  go_wp2_with (first
    | (go_at_call 67; refine (example_calls _).mono ?_; rintro e w4 ⟨A4, c4, rfl, hc4, hC4, hB4⟩; (have HC4 := Lib.hid hC4); (have HB4 := Lib.hid hB4); clear hC4 hB4)
    | (go_at_call 46; refine (Weight_calls HC4.out).mono ?_; rw [flat_ex, wsum_small 5 (by omega)]; rintro e w5 ⟨rfl, hB5⟩))
  go_ret
  refine ⟨rfl, HX.out _ ?_⟩
  have h4 : Below w3.heap.size w3 (w3.alloc (.cells #[.int .i64 1, .int .i64 8] 67)) := (Below.refl _ _).alloc (Nat.le_refl _) _
  exact h4.trans ((HB4.out.trans (hB5.mono HB4.out.size)).mono h4.size)
end Go.Proofs.Ytoakelgcbbbieaa
