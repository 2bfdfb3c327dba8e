/- How two faults are held against each other, walked. -/
import Derived.Test.YtoakelgcbbbieaaSa
import Derived.Test.YtoakelgcbbbieaaWRepsOne
import Derived.Test.YtoakelgcbbbieaaQ
namespace Go.Proofs.Ytoakelgcbbbieaa
open Go.RowKit Go.Maps Go.Proofs.YtoakelgcbbbieaaW.PrintWords Go.Proofs.YtoakelgcbbbieaaW.PrintLast Go.Proofs.YtoakelgcbbbieaaW.PrintMore
set_option linter.unusedVariables false
set_option linter.unusedSimpArgs false
set_option maxRecDepth 100000
attribute [local go_sem ↓] Go.wp_at_zero Go.wp_at_succ

def cmpF (a b : S113) : Int := orI [cmpI a.f0 b.f0, cmpI a.f1 b.f1, cmpI a.f2 b.f2]

theorem C3 {w : World} {g e : Nat} {x y z : Int} (hb : w.heap[g]? = some (.cells #[.int .i64 x, .int .i64 y, .int .i64 z] e (0, 0))) : Kd.C (Kd.int .i64) w (some ⟨g, 0, none⟩) 3 [x, y, z] :=
  C_blk (xs := [x, y, z]) hb (Reps.one (show Kd.K (Kd.int .i64) _ x [_] from rfl) (Reps.one (show Kd.K (Kd.int .i64) _ y [_] from rfl) (Reps.one (show Kd.K (Kd.int .i64) _ z [_] from rfl) (Reps.none _ _)))) (by simp)

theorem before_calls (a b : S113) (W : World) : Calls Try.prog 94 #[.agg #[.int .i64 a.f0, .int .i64 a.f1, .int .i64 a.f2], .agg #[.int .i64 b.f0, .int .i64 b.f1, .int .i64 b.f2]] W fun e w' => e = .returned (.int .i64 (cmpF a b)) ∧ w' = (((W.alloc (.cells #[.int .i64 a.f0, .int .i64 a.f1, .int .i64 a.f2] 113)).alloc (.cells #[.int .i64 b.f0, .int .i64 b.f1, .int .i64 b.f2] 113)).alloc (.cells #[.int .i64 (cmpI a.f0 b.f0), .int .i64 (cmpI a.f1 b.f1), .int .i64 (cmpI a.f2 b.f2)] 3)).drew := by
  go_enter Try.func94, Try.ntmps94
  go_wp2_with fail
  obtain ⟨w2, hw2⟩ : ∃ w2, w2 = (W.alloc (.cells #[.int .i64 a.f0, .int .i64 a.f1, .int .i64 a.f2] 113)).alloc (.cells #[.int .i64 b.f0, .int .i64 b.f1, .int .i64 b.f2] 113) := ⟨_, rfl⟩
  have hA : w2.heap[W.heap.size]? = some (.cells #[.int .i64 a.f0, .int .i64 a.f1, .int .i64 a.f2] 113 (0, 0)) := by rw [hw2]; exact (Below.heap_alloc _ _ _ (by simp)).trans (heap_alloc_new W _)
  have hB : w2.heap[W.heap.size + 1]? = some (.cells #[.int .i64 b.f0, .int .i64 b.f1, .int .i64 b.f2] 113 (0, 0)) := by
    rw [hw2]
    have := heap_alloc_new (W.alloc (.cells #[.int .i64 a.f0, .int .i64 a.f1, .int .i64 a.f2] 113)) (.cells #[.int .i64 b.f0, .int .i64 b.f1, .int .i64 b.f2] 113)
    rwa [World.size_alloc] at this
  have a0 : w2.cell? ⟨W.heap.size, 0, none⟩ = some (.int .i64 a.f0) := (cell_blk hA 0).trans rfl
  have a1 : w2.cell? ⟨W.heap.size, 1, none⟩ = some (.int .i64 a.f1) := (cell_blk hA 1).trans rfl
  have a2 : w2.cell? ⟨W.heap.size, 2, none⟩ = some (.int .i64 a.f2) := (cell_blk hA 2).trans rfl
  have b0 : w2.cell? ⟨W.heap.size + 1, 0, none⟩ = some (.int .i64 b.f0) := (cell_blk hB 0).trans rfl
  have b1 : w2.cell? ⟨W.heap.size + 1, 1, none⟩ = some (.int .i64 b.f1) := (cell_blk hB 1).trans rfl
  have b2 : w2.cell? ⟨W.heap.size + 1, 2, none⟩ = some (.int .i64 b.f2) := (cell_blk hB 2).trans rfl
  have HW := Lib.hid hw2
  rw [← hw2]
  clear hw2 hA hB
  go_region_held3 (fun w' => w'.cell? ⟨W.heap.size, 0, none⟩ = some (.int .i64 a.f0) ∧ w'.cell? ⟨W.heap.size, 1, none⟩ = some (.int .i64 a.f1) ∧ w'.cell? ⟨W.heap.size, 2, none⟩ = some (.int .i64 a.f2) ∧ w'.cell? ⟨W.heap.size + 1, 0, none⟩ = some (.int .i64 b.f0) ∧ w'.cell? ⟨W.heap.size + 1, 1, none⟩ = some (.int .i64 b.f1) ∧ w'.cell? ⟨W.heap.size + 1, 2, none⟩ = some (.int .i64 b.f2)) (go_keep)
    (first
      | (go_at_call 100; refine (Compare_calls _ _ _).mono ?_; rintro e w3 ⟨rfl, rfl⟩)
      | (go_at_call 101; refine (CompareE_calls _ _ _).mono ?_; rintro e w3 ⟨rfl, rfl⟩)
      | (go_at_call 99; refine (Or_calls (C3 (by exact heap_alloc_new _ _))).mono ?_; rintro e w3 ⟨rfl, rfl⟩))
  go_wp2
  go_ret
  exact ⟨rfl, by rw [HW.out]⟩
end Go.Proofs.Ytoakelgcbbbieaa
