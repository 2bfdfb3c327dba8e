/- How much classes are (printed). -/
import Derived.Test.YtoakelgcbbbieaaAa
import Derived.Test.YtoakelgcbbbieaaAb
namespace Go.Proofs.Ytoakelgcbbbieaa
open Go.RowKit Go.Proofs.YtoakelgcbbbieaaW.PrintWords Go.Proofs.YtoakelgcbbbieaaW.PrintLast Go.Proofs.YtoakelgcbbbieaaW.PrintMore
attribute [local go_sem] max2_int min2_int max_two min_two max_three min_three max_four min_four   -- for this text's walks alone
set_option linter.unusedVariables false
set_option linter.unusedSimpArgs false

/-! ### namesakelaw13_Size: function 68 -/
mutual
def namesakelaw13_Size.l0 : Nat → Int → List (S122) → Int → Int → Option (Int)
  | 0, _, _, _, _ => none
  | k + 1, x1, x9, x10, x11 => if x11 < x10 then (if 0 ≤ x11 then (if x11 < (x9.length : Int) then ((namesakelaw13_vars.f k ((rd_T122 x9 x11).f3) (wrap64 ((wrap64 (x1 - 1)) - (wrap64 (Int.tdiv (wrap64 ((wrap64 ((((rd_T122 x9 x11).f1.f0).size : Int) + (((rd_T122 x9 x11).f2.f0).size : Int))) + (((rd_T122 x9 x11).f5.f0).size : Int))) 50))))).bind fun t125 => ((namesakelaw13_stmts.f k ((rd_T122 x9 x11).f6) t125).bind fun t126 => (namesakelaw13_Size.l1 k t126 x9 x10 x11 ((rd_T122 x9 x11).f4) (((rd_T122 x9 x11).f4).length : Int) 0))) else (none)) else (none)) else (some x1)
def namesakelaw13_Size.l1 : Nat → Int → List (S122) → Int → Int → List (S177) → Int → Int → Option (Int)
  | 0, _, _, _, _, _, _, _ => none
  | k + 1, x1, x9, x10, x11, x40, x41, x42 => if x42 < x41 then (if 0 ≤ x42 then (if x42 < (x40.length : Int) then (if x1 < 0 then (some (-1)) else ((namesakelaw13_vars.f k ((rd_T177 x40 x42).f2) (wrap64 ((wrap64 (x1 - 1)) - (wrap64 (Int.tdiv (wrap64 ((((rd_T177 x40 x42).f0.f0).size : Int) + (((rd_T177 x40 x42).f1.f0).size : Int))) 50))))).bind fun t129 => ((namesakelaw13_vars.f k ((rd_T177 x40 x42).f3) t129).bind fun t130 => ((namesakelaw13_stmts.f k ((rd_T177 x40 x42).f4) t130).bind fun t131 => ((namesakelaw13_exp.f k ((rd_T177 x40 x42).f5.f0) ((rd_T177 x40 x42).f5.f1.f0) ((rd_T177 x40 x42).f5.f1.f1) ((rd_T177 x40 x42).f5.f2) ((rd_T177 x40 x42).f5.f3) ((rd_T177 x40 x42).f5.f4) ((rd_T177 x40 x42).f5.f5) t131).bind fun t132 => (namesakelaw13_Size.l1 k t132 x9 x10 x11 x40 x41 (wrap64 (x42 + 1)))))))) else (none)) else (none)) else (if x1 < 0 then (some (-1)) else (namesakelaw13_Size.l0 k x1 x9 x10 (wrap64 (x11 + 1))))
end
def namesakelaw13_Size.f (k : Nat) (l0 : List (S122)) (a1 : Int) : Option (Int) := namesakelaw13_Size.l0 k a1 l0 (l0.length : Int) 0
theorem namesakelaw13_Size.mono_l : ∀ k, (∀ y0 y1 y2 y3, LeO (namesakelaw13_Size.l0 k y0 y1 y2 y3) (namesakelaw13_Size.l0 (k + 1) y0 y1 y2 y3)) ∧ (∀ y0 y1 y2 y3 y4 y5 y6, LeO (namesakelaw13_Size.l1 k y0 y1 y2 y3 y4 y5 y6) (namesakelaw13_Size.l1 (k + 1) y0 y1 y2 y3 y4 y5 y6))
  | 0 => ⟨fun _ _ _ _ r h => by simp [namesakelaw13_Size.l0] at h, fun _ _ _ _ _ _ _ r h => by simp [namesakelaw13_Size.l1] at h⟩
  | k + 1 => by
    obtain ⟨ih0, ih1⟩ := namesakelaw13_Size.mono_l k
    refine ⟨?_, ?_⟩
    · intro y0 y1 y2 y3
      unfold namesakelaw13_Size.l0
      repeat' first
      | (with_reducible exact ih0 _ _ _ _)
      | (with_reducible exact ih1 _ _ _ _ _ _ _)
      | (with_reducible exact namesakelaw13_exp.mono _ _ _ _ _ _ _ _ _)
      | (with_reducible exact namesakelaw13_stmts.mono _ _ _)
      | (with_reducible exact namesakelaw13_vars.mono _ _ _)
      | (with_reducible exact LeO.refl _)
      | (with_reducible exact LeO.none _)
      | (with_reducible refine LeO.ite ?_ ?_)
      | (with_reducible refine LeO.bind ?_ (fun _ => ?_))
      | exact ih0 _ _ _ _
      | exact ih1 _ _ _ _ _ _ _
      | exact namesakelaw13_exp.mono _ _ _ _ _ _ _ _ _
      | exact namesakelaw13_stmts.mono _ _ _
      | exact namesakelaw13_vars.mono _ _ _
      | exact LeO.none _
      | refine LeO.ite ?_ ?_
      | refine LeO.bind ?_ (fun _ => ?_)
    · intro y0 y1 y2 y3 y4 y5 y6
      unfold namesakelaw13_Size.l1
      repeat' first
      | (with_reducible exact ih0 _ _ _ _)
      | (with_reducible exact ih1 _ _ _ _ _ _ _)
      | (with_reducible exact namesakelaw13_exp.mono _ _ _ _ _ _ _ _ _)
      | (with_reducible exact namesakelaw13_stmts.mono _ _ _)
      | (with_reducible exact namesakelaw13_vars.mono _ _ _)
      | (with_reducible exact LeO.refl _)
      | (with_reducible exact LeO.none _)
      | (with_reducible refine LeO.ite ?_ ?_)
      | (with_reducible refine LeO.bind ?_ (fun _ => ?_))
      | exact ih0 _ _ _ _
      | exact ih1 _ _ _ _ _ _ _
      | exact namesakelaw13_exp.mono _ _ _ _ _ _ _ _ _
      | exact namesakelaw13_stmts.mono _ _ _
      | exact namesakelaw13_vars.mono _ _ _
      | exact LeO.none _
      | refine LeO.ite ?_ ?_
      | refine LeO.bind ?_ (fun _ => ?_)
theorem namesakelaw13_Size.mono : ∀ a0 a1 k, LeO (namesakelaw13_Size.f k a0 a1) (namesakelaw13_Size.f (k + 1) a0 a1) := by
  intro a0 a1 k
  obtain ⟨ih0, ih1⟩ := namesakelaw13_Size.mono_l k
  unfold namesakelaw13_Size.f
  repeat' first
      | (with_reducible exact ih0 _ _ _ _)
      | (with_reducible exact ih1 _ _ _ _ _ _ _)
      | (with_reducible exact namesakelaw13_exp.mono _ _ _ _ _ _ _ _ _)
      | (with_reducible exact namesakelaw13_stmts.mono _ _ _)
      | (with_reducible exact namesakelaw13_vars.mono _ _ _)
      | (with_reducible exact LeO.refl _)
      | (with_reducible exact LeO.none _)
      | (with_reducible refine LeO.ite ?_ ?_)
      | (with_reducible refine LeO.bind ?_ (fun _ => ?_))
      | exact ih0 _ _ _ _
      | exact ih1 _ _ _ _ _ _ _
      | exact namesakelaw13_exp.mono _ _ _ _ _ _ _ _ _
      | exact namesakelaw13_stmts.mono _ _ _
      | exact namesakelaw13_vars.mono _ _ _
      | exact LeO.none _
      | refine LeO.ite ?_ ?_
      | refine LeO.bind ?_ (fun _ => ?_)
def namesakelaw13_Size.T4 : Bool × List (List Nat × List Nat) := (true, [([], []), ([0], [0]), ([], []), ([2], [2]), ([], []), ([4], [4]), ([], []), ([6], [6]), ([7], [7]), ([8], [8]), ([], []), ([10], [10]), ([11], [11]), ([12], [12]), ([9, 13], [9, 13]), ([], []), ([15], [15]), ([16], [16]), ([17], [17]), ([14, 18], [14, 18]), ([19], [19]), ([5, 20], [5, 20]), ([3, 21], [3, 21]), ([1, 22, 22], [1, 22]), ([23, 23, 0, 1, 2, 3, 4, 5, 6, 7, 8, 9, 10, 11, 12, 13, 14, 15, 16, 17, 18, 19, 20, 21, 22, 23], [4, 23])])
def namesakelaw13_Size.B4 : List Nat := [0, 1, 0, 4, 0, 16, 0, 64, 192, 448, 0, 1024, 3072, 7168, 16320, 0, 32768, 98304, 229376, 524224, 1048512, 2097136, 4194300, 8388607, 16777215]
theorem namesakelaw13_Size.tab4 : rtab .any (opsOf Try.f68 4) = namesakelaw13_Size.T4 := by kernel_rfl
theorem namesakelaw13_Size.bits4 : waitsOk namesakelaw13_Size.T4.2 namesakelaw13_Size.B4 = true := by kernel_rfl
def namesakelaw13_Size.T10 : Bool × List (List Nat × List Nat) := (true, [([], []), ([0], [0]), ([], []), ([2], [2]), ([], []), ([4], [4]), ([], []), ([6], [6]), ([], []), ([8], [8]), ([], []), ([10], [10]), ([11], [11]), ([12], [12]), ([], []), ([14], [14]), ([15], [15]), ([16], [16]), ([13, 17], [13, 17]), ([18], [18]), ([9, 19], [9, 19]), ([7, 20], [7, 20]), ([5, 21, 21], [5, 21]), ([3, 22, 22], [3, 22]), ([1, 23, 23], [1, 23]), ([24, 24, 0, 1, 2, 3, 4, 5, 6, 7, 8, 9, 10, 11, 12, 13, 14, 15, 16, 17, 18, 19, 20, 21, 22, 23, 24], [8, 24])])
def namesakelaw13_Size.B10 : List Nat := [0, 1, 0, 4, 0, 16, 0, 64, 0, 256, 0, 1024, 3072, 7168, 0, 16384, 49152, 114688, 261120, 523264, 1048320, 2097088, 4194288, 8388604, 16777215, 33554431]
theorem namesakelaw13_Size.tab10 : rtab .any (opsOf Try.f68 10) = namesakelaw13_Size.T10 := by kernel_rfl
theorem namesakelaw13_Size.bits10 : waitsOk namesakelaw13_Size.T10.2 namesakelaw13_Size.B10 = true := by kernel_rfl
set_option maxHeartbeats 8000000 in
set_option maxRecDepth 100000 in
theorem namesakelaw13_Size.calls (k : Nat) (A0 : Option Addr) (c0 : Nat) (l0 : List (S122)) (a1 : Int) (r : Int) (w : World) (hr0 : Kd.C k122 w A0 l0.length l0) (hc0 : l0.length ≤ c0) (h : namesakelaw13_Size.f k l0 a1 = some r) :
    Calls Try.prog 68 #[.slice A0 l0.length c0, .int .i64 a1] w fun e w' => e = .returned (.int .i64 r) ∧ Below w.heap.size w w' := by
  have hu122 := Try.underlying122
  have hu177 := Try.underlying177
  have hu58 := Try.underlying58
  have HR0 := Aside0.mk hr0
  have HC0 := Aside0.mk hc0
  clear hr0 hc0
  have HB := Aside0.mk (Below.refl w.heap.size w)
  have H : (namesakelaw13_Size.l0 k a1 l0 (l0.length : Int) 0) = some r := h
  clear h
  have H' := Aside0.mk H
  clear H
  go_enter Try.func68, Try.ntmps68
  go_wp2
  go_loopg [1, 11] k (fun kq v1 v11 w' => ∃ (x1_1 : Int) (x11_1 : Int), v1 = .int .i64 x1_1 ∧ v11 = .int .i64 x11_1 ∧ Aside0 (namesakelaw13_Size.l0 kq x1_1 l0 (l0.length : Int) x11_1 = some r) ∧ Aside0 (kq ≤ k) ∧ Aside0 (Below w.heap.size w w'))
  case atStart => exact ⟨(a1), (0), (by first | rfl | (simp; done) | (simp [*]; done)), (by first | rfl | (simp; done) | (simp [*]; done)), H', ⟨Nat.le_refl _⟩, ⟨by repeat (first | (with_reducible first | exact HB.out | apply below_alloc | apply pw_below_drewN | apply below_drew1) | exact HB.out)⟩⟩
  case round =>
    clear H'
    try clear p2
    obtain ⟨x1_1, x11_1, rfl, rfl, HA, HK1, HB⟩ := hrel
    cases gk with
    | zero => exact absurd HA.out (by simp [namesakelaw13_Size.l0])
    | succ k1 =>
      have H := HA.out
      clear HA
      simp only [namesakelaw13_Size.l0] at H
      by_cases c3 : x11_1 < (l0.length : Int)
      · rw [if_pos c3] at H
        have c3b0 : decide (x11_1 < (l0.length : Int)) = true := decide_eq_true c3
        clear c3
        by_cases c4 : 0 ≤ x11_1
        · rw [if_pos c4] at H
          have c4b0 : decide (0 ≤ x11_1) = true := decide_eq_true c4
          clear c4
          by_cases c5 : x11_1 < (l0.length : Int)
          · rw [if_pos c5] at H
            have c5b0 : decide (x11_1 < (l0.length : Int)) = true := decide_eq_true c5
            clear c5
            replace H := Option.bind_eq_some_iff.mp H
            obtain ⟨t125, A60, H⟩ := H
            replace H : ((namesakelaw13_stmts.f k1 ((rd_T122 l0 x11_1).f6) t125).bind fun t126 => (namesakelaw13_Size.l1 k1 t126 l0 (l0.length : Int) x11_1 ((rd_T122 l0 x11_1).f4) (((rd_T122 l0 x11_1).f4).length : Int) 0)) = some r := H
            have A6 := Aside0.mk A60
            clear A60
            replace H := Option.bind_eq_some_iff.mp H
            obtain ⟨t126, A70, H⟩ := H
            replace H : (namesakelaw13_Size.l1 k1 t126 l0 (l0.length : Int) x11_1 ((rd_T122 l0 x11_1).f4) (((rd_T122 l0 x11_1).f4).length : Int) 0) = some r := H
            have A7 := Aside0.mk A70
            clear A70
            have H' := Aside0.mk H
            clear H
            have p123 : 0 ≤ (x11_1 : Int) := of_decide_eq_true (by first | (with_reducible assumption) | assumption)
            have q123 : x11_1 < (l0.length : Int) := of_decide_eq_true (by first | (with_reducible assumption) | assumption)
            obtain ⟨ad123, A123_5, c123_5, A123_6, c123_6, A123_9, c123_9, e123, hx123_0, hx123_1, hx123_2, hx123_3, hx123_4, hx123_5, hx123_6, hx123_7, hx123_8, hx123_9, hl123_5, hi123_5, hl123_6, hi123_6, hl123_9, hi123_9⟩ := at_T122 HR0.out x11_1 p123 q123
            cases e123
            replace hx123_0 := (HB.out.cell (World.block_lt_of_cell? w _ hx123_0)).trans hx123_0
            replace hx123_1 := (HB.out.cell (World.block_lt_of_cell? w _ hx123_1)).trans hx123_1
            replace hx123_2 := (HB.out.cell (World.block_lt_of_cell? w _ hx123_2)).trans hx123_2
            replace hx123_3 := (HB.out.cell (World.block_lt_of_cell? w _ hx123_3)).trans hx123_3
            replace hx123_4 := (HB.out.cell (World.block_lt_of_cell? w _ hx123_4)).trans hx123_4
            replace hx123_5 := (HB.out.cell (World.block_lt_of_cell? w _ hx123_5)).trans hx123_5
            replace hx123_6 := (HB.out.cell (World.block_lt_of_cell? w _ hx123_6)).trans hx123_6
            replace hx123_7 := (HB.out.cell (World.block_lt_of_cell? w _ hx123_7)).trans hx123_7
            replace hx123_8 := (HB.out.cell (World.block_lt_of_cell? w _ hx123_8)).trans hx123_8
            replace hx123_9 := (HB.out.cell (World.block_lt_of_cell? w _ hx123_9)).trans hx123_9
            have HR123_5 := Aside0.mk hi123_5
            have HC123_5 := Aside0.mk hl123_5
            clear hi123_5 hl123_5
            have HR123_6 := Aside0.mk hi123_6
            have HC123_6 := Aside0.mk hl123_6
            clear hi123_6 hl123_6
            have HR123_9 := Aside0.mk hi123_9
            have HC123_9 := Aside0.mk hl123_9
            clear hi123_9 hl123_9
            replace p123 := eq_true p123
            replace q123 := eq_true q123
            try go_wp2_with (first | ((with_reducible refine gate_dst (N := 6) rfl ?_); refine box_event ?hg (N := 6) ?hd (cs := #[.bool false, .string (⟨#[]⟩ : ByteArray), .int .i64 0, .string (⟨#[]⟩ : ByteArray), .int .i64 0, .slice none 0 0, .slice none 0 0, .string (⟨#[]⟩ : ByteArray), .int .i64 0, .slice none 0 0]) (t := 122) ?hr ?_; (case hd => rfl); (case hg => rfl); (case hr => first | (go_simp; done) | (go_simp; rfl)); intro gb124 hg w8 hbox hb; have n0_ := Aside0.mk (below_step (by repeat (first | (with_reducible first | exact HB.out | apply below_alloc | apply pw_below_drewN | apply below_drew1) | exact HB.out)) hb); have n1_ := Aside0.mk (hbox); have n2_ := Aside0.mk ((by rw [hg]; exact (below_size (by repeat (first | (with_reducible first | exact HB.out | apply below_alloc | apply pw_below_drewN | apply below_drew1) | exact HB.out))) : w.heap.size ≤ gb124)); have n3_ := Aside0.mk ((by rw [hg]; exact (below_size (by repeat (first | (with_reducible first | exact HB.out | apply below_alloc | apply pw_below_drewN | apply below_drew1) | exact HB.out))) : w.heap.size ≤ gb124)); clear HB; have HB := n0_; have BK124 := n1_; have GW124 := n2_; have GE124 := n3_; clear n0_ n1_ n2_ n3_; clear hb hbox hg; have hcz9_0 : w8.cell? ⟨gb124, 0, none⟩ = some (.bool false) := (blk_cell BK124.out 0).trans rfl; have hcz9_1 : w8.cell? ⟨gb124, 1, none⟩ = some (.string (⟨#[]⟩ : ByteArray)) := (blk_cell BK124.out 1).trans rfl; have hcz9_2 : w8.cell? ⟨gb124, 2, none⟩ = some (.int .i64 0) := (blk_cell BK124.out 2).trans rfl; have hcz9_3 : w8.cell? ⟨gb124, 3, none⟩ = some (.string (⟨#[]⟩ : ByteArray)) := (blk_cell BK124.out 3).trans rfl; have hcz9_4 : w8.cell? ⟨gb124, 4, none⟩ = some (.int .i64 0) := (blk_cell BK124.out 4).trans rfl; have hcz9_5 : w8.cell? ⟨gb124, 5, none⟩ = some (.slice none 0 0) := (blk_cell BK124.out 5).trans rfl; have hcz9_6 : w8.cell? ⟨gb124, 6, none⟩ = some (.slice none 0 0) := (blk_cell BK124.out 6).trans rfl; have hcz9_7 : w8.cell? ⟨gb124, 7, none⟩ = some (.string (⟨#[]⟩ : ByteArray)) := (blk_cell BK124.out 7).trans rfl; have hcz9_8 : w8.cell? ⟨gb124, 8, none⟩ = some (.int .i64 0) := (blk_cell BK124.out 8).trans rfl; have hcz9_9 : w8.cell? ⟨gb124, 9, none⟩ = some (.slice none 0 0) := (blk_cell BK124.out 9).trans rfl; have hfz9_0 := blk_frozen BK124.out 0; have hfz9_1 := blk_frozen BK124.out 1; have hfz9_2 := blk_frozen BK124.out 2; have hfz9_3 := blk_frozen BK124.out 3; have hfz9_4 := blk_frozen BK124.out 4; have hfz9_5 := blk_frozen BK124.out 5; have hfz9_6 := blk_frozen BK124.out 6; have hfz9_7 := blk_frozen BK124.out 7; have hfz9_8 := blk_frozen BK124.out 8; have hfz9_9 := blk_frozen BK124.out 9))
            have n0_ : Aside0 (((((((((((w8.setCell ⟨gb124, 0, none⟩ (.bool ((rd_T122 l0 x11_1).f0))).setCell ⟨gb124, 1, none⟩ (.string ((rd_T122 l0 x11_1).f1.f0))).setCell ⟨gb124, 2, none⟩ (.int .i64 ((rd_T122 l0 x11_1).f1.f1))).setCell ⟨gb124, 3, none⟩ (.string ((rd_T122 l0 x11_1).f2.f0))).setCell ⟨gb124, 4, none⟩ (.int .i64 ((rd_T122 l0 x11_1).f2.f1))).setCell ⟨gb124, 5, none⟩ (.slice A123_5 ((rd_T122 l0 x11_1).f3).length c123_5)).setCell ⟨gb124, 6, none⟩ (.slice A123_6 ((rd_T122 l0 x11_1).f4).length c123_6)).setCell ⟨gb124, 7, none⟩ (.string ((rd_T122 l0 x11_1).f5.f0))).setCell ⟨gb124, 8, none⟩ (.int .i64 ((rd_T122 l0 x11_1).f5.f1))).setCell ⟨gb124, 9, none⟩ (.slice A123_9 ((rd_T122 l0 x11_1).f6).length c123_9)).heap[gb124]? = some (.cells #[.bool ((rd_T122 l0 x11_1).f0), .string ((rd_T122 l0 x11_1).f1.f0), .int .i64 ((rd_T122 l0 x11_1).f1.f1), .string ((rd_T122 l0 x11_1).f2.f0), .int .i64 ((rd_T122 l0 x11_1).f2.f1), .slice A123_5 ((rd_T122 l0 x11_1).f3).length c123_5, .slice A123_6 ((rd_T122 l0 x11_1).f4).length c123_6, .string ((rd_T122 l0 x11_1).f5.f0), .int .i64 ((rd_T122 l0 x11_1).f5.f1), .slice A123_9 ((rd_T122 l0 x11_1).f6).length c123_9] 122 (0, 0))) := ⟨by (with_reducible repeat (first | refine blk_drewN ?_ _ | refine blk_drew ?_ | refine blk_alloc ?_ _)); refine blk_put (cs := #[.bool ((rd_T122 l0 x11_1).f0), .string ((rd_T122 l0 x11_1).f1.f0), .int .i64 ((rd_T122 l0 x11_1).f1.f1), .string ((rd_T122 l0 x11_1).f2.f0), .int .i64 ((rd_T122 l0 x11_1).f2.f1), .slice A123_5 ((rd_T122 l0 x11_1).f3).length c123_5, .slice A123_6 ((rd_T122 l0 x11_1).f4).length c123_6, .string ((rd_T122 l0 x11_1).f5.f0), .int .i64 ((rd_T122 l0 x11_1).f5.f1), .slice none 0 0]) ?_ 9 _ rfl; (with_reducible repeat (first | refine blk_drewN ?_ _ | refine blk_drew ?_ | refine blk_alloc ?_ _)); refine blk_put (cs := #[.bool ((rd_T122 l0 x11_1).f0), .string ((rd_T122 l0 x11_1).f1.f0), .int .i64 ((rd_T122 l0 x11_1).f1.f1), .string ((rd_T122 l0 x11_1).f2.f0), .int .i64 ((rd_T122 l0 x11_1).f2.f1), .slice A123_5 ((rd_T122 l0 x11_1).f3).length c123_5, .slice A123_6 ((rd_T122 l0 x11_1).f4).length c123_6, .string ((rd_T122 l0 x11_1).f5.f0), .int .i64 0, .slice none 0 0]) ?_ 8 _ rfl; (with_reducible repeat (first | refine blk_drewN ?_ _ | refine blk_drew ?_ | refine blk_alloc ?_ _)); refine blk_put (cs := #[.bool ((rd_T122 l0 x11_1).f0), .string ((rd_T122 l0 x11_1).f1.f0), .int .i64 ((rd_T122 l0 x11_1).f1.f1), .string ((rd_T122 l0 x11_1).f2.f0), .int .i64 ((rd_T122 l0 x11_1).f2.f1), .slice A123_5 ((rd_T122 l0 x11_1).f3).length c123_5, .slice A123_6 ((rd_T122 l0 x11_1).f4).length c123_6, .string (⟨#[]⟩ : ByteArray), .int .i64 0, .slice none 0 0]) ?_ 7 _ rfl; (with_reducible repeat (first | refine blk_drewN ?_ _ | refine blk_drew ?_ | refine blk_alloc ?_ _)); refine blk_put (cs := #[.bool ((rd_T122 l0 x11_1).f0), .string ((rd_T122 l0 x11_1).f1.f0), .int .i64 ((rd_T122 l0 x11_1).f1.f1), .string ((rd_T122 l0 x11_1).f2.f0), .int .i64 ((rd_T122 l0 x11_1).f2.f1), .slice A123_5 ((rd_T122 l0 x11_1).f3).length c123_5, .slice none 0 0, .string (⟨#[]⟩ : ByteArray), .int .i64 0, .slice none 0 0]) ?_ 6 _ rfl; (with_reducible repeat (first | refine blk_drewN ?_ _ | refine blk_drew ?_ | refine blk_alloc ?_ _)); refine blk_put (cs := #[.bool ((rd_T122 l0 x11_1).f0), .string ((rd_T122 l0 x11_1).f1.f0), .int .i64 ((rd_T122 l0 x11_1).f1.f1), .string ((rd_T122 l0 x11_1).f2.f0), .int .i64 ((rd_T122 l0 x11_1).f2.f1), .slice none 0 0, .slice none 0 0, .string (⟨#[]⟩ : ByteArray), .int .i64 0, .slice none 0 0]) ?_ 5 _ rfl; (with_reducible repeat (first | refine blk_drewN ?_ _ | refine blk_drew ?_ | refine blk_alloc ?_ _)); refine blk_put (cs := #[.bool ((rd_T122 l0 x11_1).f0), .string ((rd_T122 l0 x11_1).f1.f0), .int .i64 ((rd_T122 l0 x11_1).f1.f1), .string ((rd_T122 l0 x11_1).f2.f0), .int .i64 0, .slice none 0 0, .slice none 0 0, .string (⟨#[]⟩ : ByteArray), .int .i64 0, .slice none 0 0]) ?_ 4 _ rfl; (with_reducible repeat (first | refine blk_drewN ?_ _ | refine blk_drew ?_ | refine blk_alloc ?_ _)); refine blk_put (cs := #[.bool ((rd_T122 l0 x11_1).f0), .string ((rd_T122 l0 x11_1).f1.f0), .int .i64 ((rd_T122 l0 x11_1).f1.f1), .string (⟨#[]⟩ : ByteArray), .int .i64 0, .slice none 0 0, .slice none 0 0, .string (⟨#[]⟩ : ByteArray), .int .i64 0, .slice none 0 0]) ?_ 3 _ rfl; (with_reducible repeat (first | refine blk_drewN ?_ _ | refine blk_drew ?_ | refine blk_alloc ?_ _)); refine blk_put (cs := #[.bool ((rd_T122 l0 x11_1).f0), .string ((rd_T122 l0 x11_1).f1.f0), .int .i64 0, .string (⟨#[]⟩ : ByteArray), .int .i64 0, .slice none 0 0, .slice none 0 0, .string (⟨#[]⟩ : ByteArray), .int .i64 0, .slice none 0 0]) ?_ 2 _ rfl; (with_reducible repeat (first | refine blk_drewN ?_ _ | refine blk_drew ?_ | refine blk_alloc ?_ _)); refine blk_put (cs := #[.bool ((rd_T122 l0 x11_1).f0), .string (⟨#[]⟩ : ByteArray), .int .i64 0, .string (⟨#[]⟩ : ByteArray), .int .i64 0, .slice none 0 0, .slice none 0 0, .string (⟨#[]⟩ : ByteArray), .int .i64 0, .slice none 0 0]) ?_ 1 _ rfl; (with_reducible repeat (first | refine blk_drewN ?_ _ | refine blk_drew ?_ | refine blk_alloc ?_ _)); refine blk_put (cs := #[.bool false, .string (⟨#[]⟩ : ByteArray), .int .i64 0, .string (⟨#[]⟩ : ByteArray), .int .i64 0, .slice none 0 0, .slice none 0 0, .string (⟨#[]⟩ : ByteArray), .int .i64 0, .slice none 0 0]) ?_ 0 _ rfl; (with_reducible repeat (first | refine blk_drewN ?_ _ | refine blk_drew ?_ | refine blk_alloc ?_ _)); exact BK124.out⟩
            have n1_ : Aside0 (Below w.heap.size w ((((((((((w8.setCell ⟨gb124, 0, none⟩ (.bool ((rd_T122 l0 x11_1).f0))).setCell ⟨gb124, 1, none⟩ (.string ((rd_T122 l0 x11_1).f1.f0))).setCell ⟨gb124, 2, none⟩ (.int .i64 ((rd_T122 l0 x11_1).f1.f1))).setCell ⟨gb124, 3, none⟩ (.string ((rd_T122 l0 x11_1).f2.f0))).setCell ⟨gb124, 4, none⟩ (.int .i64 ((rd_T122 l0 x11_1).f2.f1))).setCell ⟨gb124, 5, none⟩ (.slice A123_5 ((rd_T122 l0 x11_1).f3).length c123_5)).setCell ⟨gb124, 6, none⟩ (.slice A123_6 ((rd_T122 l0 x11_1).f4).length c123_6)).setCell ⟨gb124, 7, none⟩ (.string ((rd_T122 l0 x11_1).f5.f0))).setCell ⟨gb124, 8, none⟩ (.int .i64 ((rd_T122 l0 x11_1).f5.f1))).setCell ⟨gb124, 9, none⟩ (.slice A123_9 ((rd_T122 l0 x11_1).f6).length c123_9))) := ⟨by repeat (first | (with_reducible first | exact HB.out | apply below_alloc | apply pw_below_drewN | apply below_drew1 | refine below_set ?_ GE124.out) | exact HB.out)⟩
            (try clear BK124)
            (try clear HB)
            generalize ((((((((((w8.setCell ⟨gb124, 0, none⟩ (.bool ((rd_T122 l0 x11_1).f0))).setCell ⟨gb124, 1, none⟩ (.string ((rd_T122 l0 x11_1).f1.f0))).setCell ⟨gb124, 2, none⟩ (.int .i64 ((rd_T122 l0 x11_1).f1.f1))).setCell ⟨gb124, 3, none⟩ (.string ((rd_T122 l0 x11_1).f2.f0))).setCell ⟨gb124, 4, none⟩ (.int .i64 ((rd_T122 l0 x11_1).f2.f1))).setCell ⟨gb124, 5, none⟩ (.slice A123_5 ((rd_T122 l0 x11_1).f3).length c123_5)).setCell ⟨gb124, 6, none⟩ (.slice A123_6 ((rd_T122 l0 x11_1).f4).length c123_6)).setCell ⟨gb124, 7, none⟩ (.string ((rd_T122 l0 x11_1).f5.f0))).setCell ⟨gb124, 8, none⟩ (.int .i64 ((rd_T122 l0 x11_1).f5.f1))).setCell ⟨gb124, 9, none⟩ (.slice A123_9 ((rd_T122 l0 x11_1).f6).length c123_9)) = w10 at n0_ n1_ ⊢
            have BK124 := n0_
            have HB := n1_
            clear n0_ n1_
            have n0_ := Aside0.mk (blk_drew BK124.out)
            have n1_ := Aside0.mk (below_drew1 HB.out)
            clear BK124
            clear HB
            have BK124 := n0_
            have HB := n1_
            clear n0_ n1_
            refine start_ (n := 25) (S := fun w' => w'.cell? ⟨gb124, 0, none⟩ = some (.bool ((rd_T122 l0 x11_1).f0)) ∧ w'.cell? ⟨gb124, 1, none⟩ = some (.string ((rd_T122 l0 x11_1).f1.f0)) ∧ w'.cell? ⟨gb124, 2, none⟩ = some (.int .i64 ((rd_T122 l0 x11_1).f1.f1)) ∧ w'.cell? ⟨gb124, 3, none⟩ = some (.string ((rd_T122 l0 x11_1).f2.f0)) ∧ w'.cell? ⟨gb124, 4, none⟩ = some (.int .i64 ((rd_T122 l0 x11_1).f2.f1)) ∧ w'.cell? ⟨gb124, 5, none⟩ = some (.slice A123_5 ((rd_T122 l0 x11_1).f3).length c123_5) ∧ w'.cell? ⟨gb124, 6, none⟩ = some (.slice A123_6 ((rd_T122 l0 x11_1).f4).length c123_6) ∧ w'.cell? ⟨gb124, 7, none⟩ = some (.string ((rd_T122 l0 x11_1).f5.f0)) ∧ w'.cell? ⟨gb124, 8, none⟩ = some (.int .i64 ((rd_T122 l0 x11_1).f5.f1)) ∧ w'.cell? ⟨gb124, 9, none⟩ = some (.slice A123_9 ((rd_T122 l0 x11_1).f6).length c123_9)) (ds := []) #[false, false, false, false, false, false, false, false, false, false, false, false, false, false, false, false, false, false, false, false, false, false, false, false, false] (by kernel_rfl) rfl rfl ⟨(blk_cell BK124.out 0).trans rfl, (blk_cell BK124.out 1).trans rfl, (blk_cell BK124.out 2).trans rfl, (blk_cell BK124.out 3).trans rfl, (blk_cell BK124.out 4).trans rfl, (blk_cell BK124.out 5).trans rfl, (blk_cell BK124.out 6).trans rfl, (blk_cell BK124.out 7).trans rfl, (blk_cell BK124.out 8).trans rfl, (blk_cell BK124.out 9).trans rfl⟩ (fun hHeld => ?_); refine with_tabW namesakelaw13_Size.tab4 namesakelaw13_Size.bits4 (fun HT_ HW_ => ?_)
            generalize w10.drew = w11 at BK124 HB hHeld ⊢
            refine pure_ (i := 0) (N := some 15) (v := ?_) (a' := ?_) #[true, false, false, false, false, false, false, false, false, false, false, false, false, false, false, false, false, false, false, false, false, false, false, false, false] rfl rfl (any_of HT_.out (by kernel_rfl)) (fun _ _ _ h => h) (Or.inl ⟨by rfl, ?_⟩) ?_ ?_
            rotate_left
            · intro w'
              go_simp
              with_reducible rfl
            rotate_left
            · simp only [Act.put, List.setIfInBounds_toArray, List.set_cons_zero, List.set_cons_succ, i64_w, i32_w]
              rfl
            refine pure_ (i := 2) (N := some 17) (v := ?_) (a' := ?_) #[true, false, true, false, false, false, false, false, false, false, false, false, false, false, false, false, false, false, false, false, false, false, false, false, false] rfl rfl (any_of HT_.out (by kernel_rfl)) (fun _ _ _ h => h) (Or.inl ⟨by rfl, ?_⟩) ?_ ?_
            rotate_left
            · intro w'
              go_simp
              with_reducible rfl
            rotate_left
            · simp only [Act.put, List.setIfInBounds_toArray, List.set_cons_zero, List.set_cons_succ, i64_w, i32_w]
              rfl
            refine pure_ (i := 4) (N := some 19) (v := ?_) (a' := ?_) #[true, false, true, false, true, false, false, false, false, false, false, false, false, false, false, false, false, false, false, false, false, false, false, false, false] rfl rfl (any_of HT_.out (by kernel_rfl)) (fun _ _ _ h => h) (Or.inl ⟨by rfl, ?_⟩) ?_ ?_
            rotate_left
            · intro w'
              go_simp
              with_reducible rfl
            rotate_left
            · simp only [Act.put, List.setIfInBounds_toArray, List.set_cons_zero, List.set_cons_succ, i64_w, i32_w]
              rfl
            refine pure_ (i := 5) (N := some 20) (v := ?_) (a' := ?_) #[true, false, true, false, true, true, false, false, false, false, false, false, false, false, false, false, false, false, false, false, false, false, false, false, false] rfl rfl (any_of HT_.out (by kernel_rfl)) (fun _ _ _ h => h) (Or.inl ⟨by rfl, ?_⟩) ?_ ?_
            rotate_left
            · intro w'
              go_simp
              with_reducible rfl
            rotate_left
            · simp only [Act.put, List.setIfInBounds_toArray, List.set_cons_zero, List.set_cons_succ, i64_w, i32_w]
              rfl
            refine pure_ (i := 6) (N := some 21) (v := ?_) (a' := ?_) #[true, false, true, false, true, true, true, false, false, false, false, false, false, false, false, false, false, false, false, false, false, false, false, false, false] rfl rfl (any_of HT_.out (by kernel_rfl)) (fun _ _ _ h => h) (Or.inl ⟨by rfl, ?_⟩) ?_ ?_
            rotate_left
            · intro w'
              go_simp
              with_reducible rfl
            rotate_left
            · simp only [Act.put, List.setIfInBounds_toArray, List.set_cons_zero, List.set_cons_succ, i64_w, i32_w]
              rfl
            refine pure_ (i := 7) (N := some 22) (v := ?_) (a' := ?_) #[true, false, true, false, true, true, true, true, false, false, false, false, false, false, false, false, false, false, false, false, false, false, false, false, false] rfl rfl (any_of HT_.out (by kernel_rfl)) (fun _ _ _ h => h) (Or.inl ⟨by rfl, ?_⟩) ?_ ?_
            rotate_left
            · intro w'
              go_simp
              with_reducible rfl
            rotate_left
            · simp only [Act.put, List.setIfInBounds_toArray, List.set_cons_zero, List.set_cons_succ, i64_w, i32_w]
              rfl
            refine pure_ (i := 10) (N := some 25) (v := ?_) (a' := ?_) #[true, false, true, false, true, true, true, true, false, false, true, false, false, false, false, false, false, false, false, false, false, false, false, false, false] rfl rfl (any_of HT_.out (by kernel_rfl)) (fun _ _ _ h => h) (Or.inl ⟨by rfl, ?_⟩) ?_ ?_
            rotate_left
            · intro w'
              go_simp
              with_reducible rfl
            rotate_left
            · simp only [Act.put, List.setIfInBounds_toArray, List.set_cons_zero, List.set_cons_succ, i64_w, i32_w]
              rfl
            refine pure_ (i := 11) (N := some 26) (v := ?_) (a' := ?_) #[true, false, true, false, true, true, true, true, false, false, true, true, false, false, false, false, false, false, false, false, false, false, false, false, false] rfl rfl (any_of HT_.out (by kernel_rfl)) (fun _ _ _ h => h) (Or.inl ⟨by rfl, ?_⟩) ?_ ?_
            rotate_left
            · intro w'
              go_simp
              with_reducible rfl
            rotate_left
            · simp only [Act.put, List.setIfInBounds_toArray, List.set_cons_zero, List.set_cons_succ, i64_w, i32_w]
              rfl
            refine pure_ (i := 15) (N := some 30) (v := ?_) (a' := ?_) #[true, false, true, false, true, true, true, true, false, false, true, true, false, false, false, true, false, false, false, false, false, false, false, false, false] rfl rfl (any_of HT_.out (by kernel_rfl)) (fun _ _ _ h => h) (Or.inl ⟨by rfl, ?_⟩) ?_ ?_
            rotate_left
            · intro w'
              go_simp
              with_reducible rfl
            rotate_left
            · simp only [Act.put, List.setIfInBounds_toArray, List.set_cons_zero, List.set_cons_succ, i64_w, i32_w]
              rfl
            refine pure_ (i := 16) (N := some 31) (v := ?_) (a' := ?_) #[true, false, true, false, true, true, true, true, false, false, true, true, false, false, false, true, true, false, false, false, false, false, false, false, false] rfl rfl (any_of HT_.out (by kernel_rfl)) (fun _ _ _ h => h) (Or.inl ⟨by rfl, ?_⟩) ?_ ?_
            rotate_left
            · intro w'
              go_simp
              with_reducible rfl
            rotate_left
            · simp only [Act.put, List.setIfInBounds_toArray, List.set_cons_zero, List.set_cons_succ, i64_w, i32_w]
              rfl
            refine take_ (i := 1) (N := some 16) (v := ?_) (a' := ?_) #[true, true, true, false, true, true, true, true, false, false, true, true, false, false, false, true, true, false, false, false, false, false, false, false, false] rfl rfl (take_ofW HT_.out HW_.out (by kernel_rfl)) (fun _ _ _ h => h) (Or.inl ⟨by rfl, ?_⟩) hHeld ?_ ?_
            rotate_left
            · rintro w' ⟨s0, s1, s2, s3, s4, s5, s6, s7, s8, s9⟩
              go_simp
              with_reducible rfl
            rotate_left
            · simp only [Act.put, List.setIfInBounds_toArray, List.set_cons_zero, List.set_cons_succ, i64_w, i32_w]
              rfl
            refine take_ (i := 3) (N := some 18) (v := ?_) (a' := ?_) #[true, true, true, true, true, true, true, true, false, false, true, true, false, false, false, true, true, false, false, false, false, false, false, false, false] rfl rfl (take_ofW HT_.out HW_.out (by kernel_rfl)) (fun _ _ _ h => h) (Or.inl ⟨by rfl, ?_⟩) hHeld ?_ ?_
            rotate_left
            · rintro w' ⟨s0, s1, s2, s3, s4, s5, s6, s7, s8, s9⟩
              go_simp
              with_reducible rfl
            rotate_left
            · simp only [Act.put, List.setIfInBounds_toArray, List.set_cons_zero, List.set_cons_succ, i64_w, i32_w]
              rfl
            refine take_ (i := 8) (N := some 23) (v := ?_) (a' := ?_) #[true, true, true, true, true, true, true, true, true, false, true, true, false, false, false, true, true, false, false, false, false, false, false, false, false] rfl rfl (take_ofW HT_.out HW_.out (by kernel_rfl)) (fun _ _ _ h => h) (Or.inl ⟨by rfl, ?_⟩) hHeld ?_ ?_
            rotate_left
            · rintro w' ⟨s0, s1, s2, s3, s4, s5, s6, s7, s8, s9⟩
              go_simp
              with_reducible rfl
            rotate_left
            · simp only [Act.put, List.setIfInBounds_toArray, List.set_cons_zero, List.set_cons_succ, i64_w, i32_w]
              rfl
            refine pure_ (i := 9) (N := some 24) (v := ?_) (a' := ?_) #[true, true, true, true, true, true, true, true, true, true, true, true, false, false, false, true, true, false, false, false, false, false, false, false, false] rfl rfl (any_of HT_.out (by kernel_rfl)) (fun _ _ _ h => h) (Or.inl ⟨by rfl, ?_⟩) ?_ ?_
            rotate_left
            · intro w'
              go_simp
              with_reducible rfl
            rotate_left
            · simp only [Act.put, List.setIfInBounds_toArray, List.set_cons_zero, List.set_cons_succ, i64_w, i32_w]
              rfl
            refine take_ (i := 12) (N := some 27) (v := ?_) (a' := ?_) #[true, true, true, true, true, true, true, true, true, true, true, true, true, false, false, true, true, false, false, false, false, false, false, false, false] rfl rfl (take_ofW HT_.out HW_.out (by kernel_rfl)) (fun _ _ _ h => h) (Or.inl ⟨by rfl, ?_⟩) hHeld ?_ ?_
            rotate_left
            · rintro w' ⟨s0, s1, s2, s3, s4, s5, s6, s7, s8, s9⟩
              go_simp
              with_reducible rfl
            rotate_left
            · simp only [Act.put, List.setIfInBounds_toArray, List.set_cons_zero, List.set_cons_succ, i64_w, i32_w]
              rfl
            refine pure_ (i := 13) (N := some 28) (v := ?_) (a' := ?_) #[true, true, true, true, true, true, true, true, true, true, true, true, true, true, false, true, true, false, false, false, false, false, false, false, false] rfl rfl (any_of HT_.out (by kernel_rfl)) (fun _ _ _ h => h) (Or.inl ⟨by rfl, ?_⟩) ?_ ?_
            rotate_left
            · intro w'
              go_simp
              with_reducible rfl
            rotate_left
            · simp only [Act.put, List.setIfInBounds_toArray, List.set_cons_zero, List.set_cons_succ, i64_w, i32_w]
              rfl
            refine pure_ (i := 14) (N := some 29) (v := ?_) (a' := ?_) #[true, true, true, true, true, true, true, true, true, true, true, true, true, true, true, true, true, false, false, false, false, false, false, false, false] rfl rfl (any_of HT_.out (by kernel_rfl)) (fun _ _ _ h => h) (Or.inl ⟨by rfl, ?_⟩) ?_ ?_
            rotate_left
            · intro w'
              go_simp
              with_reducible rfl
            rotate_left
            · simp only [Act.put, List.setIfInBounds_toArray, List.set_cons_zero, List.set_cons_succ, i64_w, i32_w]
              rfl
            refine take_ (i := 17) (N := some 32) (v := ?_) (a' := ?_) #[true, true, true, true, true, true, true, true, true, true, true, true, true, true, true, true, true, true, false, false, false, false, false, false, false] rfl rfl (take_ofW HT_.out HW_.out (by kernel_rfl)) (fun _ _ _ h => h) (Or.inl ⟨by rfl, ?_⟩) hHeld ?_ ?_
            rotate_left
            · rintro w' ⟨s0, s1, s2, s3, s4, s5, s6, s7, s8, s9⟩
              go_simp
              with_reducible rfl
            rotate_left
            · simp only [Act.put, List.setIfInBounds_toArray, List.set_cons_zero, List.set_cons_succ, i64_w, i32_w]
              rfl
            refine pure_ (i := 18) (N := some 33) (v := ?_) (a' := ?_) #[true, true, true, true, true, true, true, true, true, true, true, true, true, true, true, true, true, true, true, false, false, false, false, false, false] rfl rfl (any_of HT_.out (by kernel_rfl)) (fun _ _ _ h => h) (Or.inl ⟨by rfl, ?_⟩) ?_ ?_
            rotate_left
            · intro w'
              go_simp
              with_reducible rfl
            rotate_left
            · simp only [Act.put, List.setIfInBounds_toArray, List.set_cons_zero, List.set_cons_succ, i64_w, i32_w]
              rfl
            refine pure_ (i := 19) (N := some 34) (v := ?_) (a' := ?_) #[true, true, true, true, true, true, true, true, true, true, true, true, true, true, true, true, true, true, true, true, false, false, false, false, false] rfl rfl (any_of HT_.out (by kernel_rfl)) (fun _ _ _ h => h) (Or.inl ⟨by rfl, ?_⟩) ?_ ?_
            rotate_left
            · intro w'
              go_simp
              with_reducible rfl
            rotate_left
            · simp only [Act.put, List.setIfInBounds_toArray, List.set_cons_zero, List.set_cons_succ, i64_w, i32_w]
              rfl
            refine pure_ (i := 20) (N := some 35) (v := ?_) (a' := ?_) #[true, true, true, true, true, true, true, true, true, true, true, true, true, true, true, true, true, true, true, true, true, false, false, false, false] rfl rfl (any_of HT_.out (by kernel_rfl)) (fun _ _ _ h => h) (Or.inl ⟨by rfl, ?_⟩) ?_ ?_
            rotate_left
            · intro w'
              go_simp
              with_reducible rfl
            rotate_left
            · simp only [Act.put, List.setIfInBounds_toArray, List.set_cons_zero, List.set_cons_succ, i64_w, i32_w]
              rfl
            refine pure_ (i := 21) (N := some 36) (v := ?_) (a' := ?_) #[true, true, true, true, true, true, true, true, true, true, true, true, true, true, true, true, true, true, true, true, true, true, false, false, false] rfl rfl (any_of HT_.out (by kernel_rfl)) (fun _ _ _ h => h) (Or.inl ⟨by rfl, ?_⟩) ?_ ?_
            rotate_left
            · intro w'
              go_simp
              with_reducible rfl
            rotate_left
            · simp only [Act.put, List.setIfInBounds_toArray, List.set_cons_zero, List.set_cons_succ, i64_w, i32_w]
              rfl
            refine one_ (i := 22) (N := some 37) #[true, true, true, true, true, true, true, true, true, true, true, true, true, true, true, true, true, true, true, true, true, true, true, false, false] rfl rfl (one_of HT_.out (by kernel_rfl)) (by decide) (fun K hK => ?_)
            refine goes_ Try.func82 (by kernel_rfl) rfl #[.slice A123_5 ((rd_T122 l0 x11_1).f3).length c123_5, .int .i64 (wrap64 ((wrap64 (x1_1 - 1)) - (wrap64 (Int.tdiv (wrap64 ((wrap64 ((((rd_T122 l0 x11_1).f1.f0).size : Int) + (((rd_T122 l0 x11_1).f2.f0).size : Int))) + (((rd_T122 l0 x11_1).f5.f0).size : Int))) 50))))] (by rfl) rfl rfl (by (try simp only [List.map_toArray, List.map_cons, List.map_nil]); first | done | rfl | (simp only [List.length_drop, List.length_take]; rfl)) ?_
            with_reducible refine (namesakelaw13_vars.calls k1 _ _ ((rd_T122 l0 x11_1).f3) (wrap64 ((wrap64 (x1_1 - 1)) - (wrap64 (Int.tdiv (wrap64 ((wrap64 ((((rd_T122 l0 x11_1).f1.f0).size : Int) + (((rd_T122 l0 x11_1).f2.f0).size : Int))) + (((rd_T122 l0 x11_1).f5.f0).size : Int))) 50)))) t125 _ ?side1 ?side2 A6.out).mono ?_
            (case side1 => repeat (first | exact (Kd.C_below HR123_5.out HB.out) | (with_reducible refine Kd.C_alloc ?_ _) | (with_reducible refine Kd.C_drewN ?_ _) | (with_reducible refine Kd.C_drew ?_)))
            (case side2 => exact HC123_5.out)
            rintro e w12 ⟨rfl, hb⟩
            refine ⟨_, rfl, ?_⟩
            have n0_ := Aside0.mk (blk_below (g := gb124) (o := .cells #[.bool ((rd_T122 l0 x11_1).f0), .string ((rd_T122 l0 x11_1).f1.f0), .int .i64 ((rd_T122 l0 x11_1).f1.f1), .string ((rd_T122 l0 x11_1).f2.f0), .int .i64 ((rd_T122 l0 x11_1).f2.f1), .slice A123_5 ((rd_T122 l0 x11_1).f3).length c123_5, .slice A123_6 ((rd_T122 l0 x11_1).f4).length c123_6, .string ((rd_T122 l0 x11_1).f5.f0), .int .i64 ((rd_T122 l0 x11_1).f5.f1), .slice A123_9 ((rd_T122 l0 x11_1).f6).length c123_9] 122 (0, 0)) (by (with_reducible repeat (first | refine blk_drewN ?_ _ | refine blk_drew ?_ | refine blk_alloc ?_ _)); exact BK124.out) hb)
            have n1_ := Aside0.mk (below_step (by repeat (first | (with_reducible first | exact HB.out | apply below_alloc | apply pw_below_drewN | apply below_drew1 | refine below_set ?_ GE124.out) | exact HB.out)) hb)
            clear BK124
            clear HB
            have BK124 := n0_
            have HB := n1_
            clear n0_ n1_
            (try clear hb)
            (try clear hb2)
            (try clear hk)
            (try clear hi)
            refine hK.out _ _ ⟨(blk_cell BK124.out 0).trans rfl, (blk_cell BK124.out 1).trans rfl, (blk_cell BK124.out 2).trans rfl, (blk_cell BK124.out 3).trans rfl, (blk_cell BK124.out 4).trans rfl, (blk_cell BK124.out 5).trans rfl, (blk_cell BK124.out 6).trans rfl, (blk_cell BK124.out 7).trans rfl, (blk_cell BK124.out 8).trans rfl, (blk_cell BK124.out 9).trans rfl⟩ (fun hHeld => ?_)
            clear hK K
            refine norm_ (a' := ?_) ?_ ?_
            rotate_left
            · show Act.put _ (some 37) _ = _
              simp only [Act.put, List.setIfInBounds_toArray, List.set_cons_zero, List.set_cons_succ, i64_w, i32_w]
              rfl
            refine one_ (i := 23) (N := some 38) #[true, true, true, true, true, true, true, true, true, true, true, true, true, true, true, true, true, true, true, true, true, true, true, true, false] rfl rfl (one_of HT_.out (by kernel_rfl)) (by decide) (fun K hK => ?_)
            refine goes_ Try.func81 (by kernel_rfl) rfl #[.slice A123_9 ((rd_T122 l0 x11_1).f6).length c123_9, .int .i64 t125] (by rfl) rfl rfl (by (try simp only [List.map_toArray, List.map_cons, List.map_nil]); first | done | rfl | (simp only [List.length_drop, List.length_take]; rfl)) ?_
            with_reducible refine (namesakelaw13_stmts.calls k1 _ _ ((rd_T122 l0 x11_1).f6) t125 t126 _ ?side1 ?side2 A7.out).mono ?_
            (case side1 => repeat (first | exact (Kd.C_below HR123_9.out HB.out) | (with_reducible refine Kd.C_alloc ?_ _) | (with_reducible refine Kd.C_drewN ?_ _) | (with_reducible refine Kd.C_drew ?_)))
            (case side2 => exact HC123_9.out)
            rintro e w13 ⟨rfl, hb⟩
            refine ⟨_, rfl, ?_⟩
            have n0_ := Aside0.mk (blk_below (g := gb124) (o := .cells #[.bool ((rd_T122 l0 x11_1).f0), .string ((rd_T122 l0 x11_1).f1.f0), .int .i64 ((rd_T122 l0 x11_1).f1.f1), .string ((rd_T122 l0 x11_1).f2.f0), .int .i64 ((rd_T122 l0 x11_1).f2.f1), .slice A123_5 ((rd_T122 l0 x11_1).f3).length c123_5, .slice A123_6 ((rd_T122 l0 x11_1).f4).length c123_6, .string ((rd_T122 l0 x11_1).f5.f0), .int .i64 ((rd_T122 l0 x11_1).f5.f1), .slice A123_9 ((rd_T122 l0 x11_1).f6).length c123_9] 122 (0, 0)) (by (with_reducible repeat (first | refine blk_drewN ?_ _ | refine blk_drew ?_ | refine blk_alloc ?_ _)); exact BK124.out) hb)
            have n1_ := Aside0.mk (below_step (by repeat (first | (with_reducible first | exact HB.out | apply below_alloc | apply pw_below_drewN | apply below_drew1 | refine below_set ?_ GE124.out) | exact HB.out)) hb)
            clear BK124
            clear HB
            have BK124 := n0_
            have HB := n1_
            clear n0_ n1_
            (try clear hb)
            (try clear hb2)
            (try clear hk)
            (try clear hi)
            refine hK.out _ _ ⟨(blk_cell BK124.out 0).trans rfl, (blk_cell BK124.out 1).trans rfl, (blk_cell BK124.out 2).trans rfl, (blk_cell BK124.out 3).trans rfl, (blk_cell BK124.out 4).trans rfl, (blk_cell BK124.out 5).trans rfl, (blk_cell BK124.out 6).trans rfl, (blk_cell BK124.out 7).trans rfl, (blk_cell BK124.out 8).trans rfl, (blk_cell BK124.out 9).trans rfl⟩ (fun hHeld => ?_)
            clear hK K
            refine norm_ (a' := ?_) ?_ ?_
            rotate_left
            · show Act.put _ (some 38) _ = _
              simp only [Act.put, List.setIfInBounds_toArray, List.set_cons_zero, List.set_cons_succ, i64_w, i32_w]
              rfl
            refine pure_ (i := 24) (N := some 1) (v := ?_) (a' := ?_) #[true, true, true, true, true, true, true, true, true, true, true, true, true, true, true, true, true, true, true, true, true, true, true, true, true] rfl rfl (any_of HT_.out (by kernel_rfl)) (fun _ _ _ h => h) (Or.inl ⟨by rfl, ?_⟩) ?_ ?_
            rotate_left
            · intro w'
              go_simp
              with_reducible rfl
            rotate_left
            · simp only [Act.put, List.setIfInBounds_toArray, List.set_cons_zero, List.set_cons_succ, i64_w, i32_w]
              rfl
            refine done_ (done_of HT_.out (by kernel_rfl)) ?_
            have hcz14_0 : w13.cell? ⟨gb124, 0, none⟩ = some (.bool ((rd_T122 l0 x11_1).f0)) := (blk_cell BK124.out 0).trans rfl
            have hcz14_1 : w13.cell? ⟨gb124, 1, none⟩ = some (.string ((rd_T122 l0 x11_1).f1.f0)) := (blk_cell BK124.out 1).trans rfl
            have hcz14_2 : w13.cell? ⟨gb124, 2, none⟩ = some (.int .i64 ((rd_T122 l0 x11_1).f1.f1)) := (blk_cell BK124.out 2).trans rfl
            have hcz14_3 : w13.cell? ⟨gb124, 3, none⟩ = some (.string ((rd_T122 l0 x11_1).f2.f0)) := (blk_cell BK124.out 3).trans rfl
            have hcz14_4 : w13.cell? ⟨gb124, 4, none⟩ = some (.int .i64 ((rd_T122 l0 x11_1).f2.f1)) := (blk_cell BK124.out 4).trans rfl
            have hcz14_5 : w13.cell? ⟨gb124, 5, none⟩ = some (.slice A123_5 ((rd_T122 l0 x11_1).f3).length c123_5) := (blk_cell BK124.out 5).trans rfl
            have hcz14_6 : w13.cell? ⟨gb124, 6, none⟩ = some (.slice A123_6 ((rd_T122 l0 x11_1).f4).length c123_6) := (blk_cell BK124.out 6).trans rfl
            have hcz14_7 : w13.cell? ⟨gb124, 7, none⟩ = some (.string ((rd_T122 l0 x11_1).f5.f0)) := (blk_cell BK124.out 7).trans rfl
            have hcz14_8 : w13.cell? ⟨gb124, 8, none⟩ = some (.int .i64 ((rd_T122 l0 x11_1).f5.f1)) := (blk_cell BK124.out 8).trans rfl
            have hcz14_9 : w13.cell? ⟨gb124, 9, none⟩ = some (.slice A123_9 ((rd_T122 l0 x11_1).f6).length c123_9) := (blk_cell BK124.out 9).trans rfl
            have hfz14_0 := blk_frozen BK124.out 0
            have hfz14_1 := blk_frozen BK124.out 1
            have hfz14_2 := blk_frozen BK124.out 2
            have hfz14_3 := blk_frozen BK124.out 3
            have hfz14_4 := blk_frozen BK124.out 4
            have hfz14_5 := blk_frozen BK124.out 5
            have hfz14_6 := blk_frozen BK124.out 6
            have hfz14_7 := blk_frozen BK124.out 7
            have hfz14_8 := blk_frozen BK124.out 8
            have hfz14_9 := blk_frozen BK124.out 9
            try go_wp2
            go_loopg [1, 42] k1 (fun kq v1 v42 w' => ∃ (x1_2 : Int) (x42_2 : Int), v1 = .int .i64 x1_2 ∧ v42 = .int .i64 x42_2 ∧ Aside0 (namesakelaw13_Size.l1 kq x1_2 l0 (l0.length : Int) x11_1 ((rd_T122 l0 x11_1).f4) (((rd_T122 l0 x11_1).f4).length : Int) x42_2 = some r) ∧ Aside0 (kq ≤ k1) ∧ Aside0 (w'.heap[gb124]? = some (.cells #[.bool ((rd_T122 l0 x11_1).f0), .string ((rd_T122 l0 x11_1).f1.f0), .int .i64 ((rd_T122 l0 x11_1).f1.f1), .string ((rd_T122 l0 x11_1).f2.f0), .int .i64 ((rd_T122 l0 x11_1).f2.f1), (.slice A123_5 ((rd_T122 l0 x11_1).f3).length c123_5), (.slice A123_6 ((rd_T122 l0 x11_1).f4).length c123_6), .string ((rd_T122 l0 x11_1).f5.f0), .int .i64 ((rd_T122 l0 x11_1).f5.f1), (.slice A123_9 ((rd_T122 l0 x11_1).f6).length c123_9)] 122 (0, 0))) ∧ Aside0 (Below w.heap.size w w'))
            case atStart => exact ⟨(t126), (0), (by first | rfl | (simp; done) | (simp [*]; done)), (by first | rfl | (simp; done) | (simp [*]; done)), H', ⟨Nat.le_refl _⟩, ⟨by (with_reducible repeat (first | refine blk_drewN ?_ _ | refine blk_drew ?_ | refine blk_alloc ?_ _)); exact BK124.out⟩, ⟨by repeat (first | (with_reducible first | exact HB.out | apply below_alloc | apply pw_below_drewN | apply below_drew1 | refine below_set ?_ GE124.out) | exact HB.out)⟩⟩
            case round =>
              clear H'
              try clear c1
              try clear p1
              try clear q1
              try clear hx1
              try clear p2
              try clear c3
              try clear c3b0
              try clear c4
              try clear c4b0
              try clear c5
              try clear c5b0
              try clear c6
              try clear p6
              try clear c8
              try clear c12
              try clear p12
              try clear q12
              try clear hx12
              try clear hcz14_0
              try clear hcz14_1
              try clear hcz14_2
              try clear hcz14_3
              try clear hcz14_4
              try clear hcz14_5
              try clear hcz14_6
              try clear hcz14_7
              try clear hcz14_8
              try clear hcz14_9
              try clear hcz9_0
              try clear hcz9_1
              try clear hcz9_2
              try clear hcz9_3
              try clear hcz9_4
              try clear hcz9_5
              try clear hcz9_6
              try clear hcz9_7
              try clear hcz9_8
              try clear hcz9_9
              try clear hfz14_0
              try clear hfz14_1
              try clear hfz14_2
              try clear hfz14_3
              try clear hfz14_4
              try clear hfz14_5
              try clear hfz14_6
              try clear hfz14_7
              try clear hfz14_8
              try clear hfz14_9
              try clear hfz9_0
              try clear hfz9_1
              try clear hfz9_2
              try clear hfz9_3
              try clear hfz9_4
              try clear hfz9_5
              try clear hfz9_6
              try clear hfz9_7
              try clear hfz9_8
              try clear hfz9_9
              try clear hx123_0
              try clear hx123_1
              try clear hx123_2
              try clear hx123_3
              try clear hx123_4
              try clear hx123_5
              try clear hx123_6
              try clear hx123_7
              try clear hx123_8
              try clear hx123_9
              try clear p123
              try clear p2
              try clear q123
              obtain ⟨x1_2, x42_2, rfl, rfl, HA, HK2, BK124, HB⟩ := hrel
              cases gk with
              | zero => exact absurd HA.out (by simp [namesakelaw13_Size.l1])
              | succ k2 =>
                have H := HA.out
                clear HA
                simp only [namesakelaw13_Size.l1] at H
                by_cases c15 : x42_2 < (((rd_T122 l0 x11_1).f4).length : Int)
                · rw [if_pos c15] at H
                  have c15b0 : decide (x42_2 < (((rd_T122 l0 x11_1).f4).length : Int)) = true := decide_eq_true c15
                  clear c15
                  by_cases c16 : 0 ≤ x42_2
                  · rw [if_pos c16] at H
                    have c16b0 : decide (0 ≤ x42_2) = true := decide_eq_true c16
                    clear c16
                    by_cases c17 : x42_2 < (((rd_T122 l0 x11_1).f4).length : Int)
                    · rw [if_pos c17] at H
                      have c17b0 : decide (x42_2 < (((rd_T122 l0 x11_1).f4).length : Int)) = true := decide_eq_true c17
                      clear c17
                      by_cases c18 : x1_2 < 0
                      · rw [if_pos c18] at H
                        have c18b0 : decide (x1_2 < 0) = true := decide_eq_true c18
                        clear c18
                        obtain rfl := Option.some.inj H
                        have p127 : 0 ≤ (x42_2 : Int) := of_decide_eq_true (by first | (with_reducible assumption) | assumption)
                        have q127 : x42_2 < (((rd_T122 l0 x11_1).f4).length : Int) := of_decide_eq_true (by first | (with_reducible assumption) | assumption)
                        obtain ⟨ad127, A127_4, c127_4, A127_5, c127_5, A127_6, c127_6, A127_13, c127_13, e127, hx127_0, hx127_1, hx127_2, hx127_3, hx127_4, hx127_5, hx127_6, hx127_7, hx127_8, hx127_9, hx127_10, hx127_11, hx127_12, hx127_13, hl127_4, hi127_4, hl127_5, hi127_5, hl127_6, hi127_6, hl127_13, hi127_13⟩ := at_T177 HR123_6.out x42_2 p127 q127
                        cases e127
                        replace hx127_0 := (HB.out.cell (World.block_lt_of_cell? w _ hx127_0)).trans hx127_0
                        replace hx127_1 := (HB.out.cell (World.block_lt_of_cell? w _ hx127_1)).trans hx127_1
                        replace hx127_2 := (HB.out.cell (World.block_lt_of_cell? w _ hx127_2)).trans hx127_2
                        replace hx127_3 := (HB.out.cell (World.block_lt_of_cell? w _ hx127_3)).trans hx127_3
                        replace hx127_4 := (HB.out.cell (World.block_lt_of_cell? w _ hx127_4)).trans hx127_4
                        replace hx127_5 := (HB.out.cell (World.block_lt_of_cell? w _ hx127_5)).trans hx127_5
                        replace hx127_6 := (HB.out.cell (World.block_lt_of_cell? w _ hx127_6)).trans hx127_6
                        replace hx127_7 := (HB.out.cell (World.block_lt_of_cell? w _ hx127_7)).trans hx127_7
                        replace hx127_8 := (HB.out.cell (World.block_lt_of_cell? w _ hx127_8)).trans hx127_8
                        replace hx127_9 := (HB.out.cell (World.block_lt_of_cell? w _ hx127_9)).trans hx127_9
                        replace hx127_10 := (HB.out.cell (World.block_lt_of_cell? w _ hx127_10)).trans hx127_10
                        replace hx127_11 := (HB.out.cell (World.block_lt_of_cell? w _ hx127_11)).trans hx127_11
                        replace hx127_12 := (HB.out.cell (World.block_lt_of_cell? w _ hx127_12)).trans hx127_12
                        replace hx127_13 := (HB.out.cell (World.block_lt_of_cell? w _ hx127_13)).trans hx127_13
                        have HR127_4 := Aside0.mk hi127_4
                        have HC127_4 := Aside0.mk hl127_4
                        clear hi127_4 hl127_4
                        have HR127_5 := Aside0.mk hi127_5
                        have HC127_5 := Aside0.mk hl127_5
                        clear hi127_5 hl127_5
                        have HR127_6 := Aside0.mk hi127_6
                        have HC127_6 := Aside0.mk hl127_6
                        clear hi127_6 hl127_6
                        have HR127_13 := Aside0.mk hi127_13
                        have HC127_13 := Aside0.mk hl127_13
                        clear hi127_13 hl127_13
                        replace p127 := eq_true p127
                        replace q127 := eq_true q127
                        go_wp2_with (first | ((with_reducible refine gate_dst (N := 8) rfl ?_); refine box_event ?hg (N := 8) ?hd (cs := #[.string (⟨#[]⟩ : ByteArray), .int .i64 0, .string (⟨#[]⟩ : ByteArray), .int .i64 0, .slice none 0 0, .slice none 0 0, .slice none 0 0, .int .i64 0, .string (⟨#[]⟩ : ByteArray), .int .i64 0, .int .i64 0, .int .i64 0, .int .i64 0, .slice none 0 0]) (t := 177) ?hr ?_; (case hd => rfl); (case hg => rfl); (case hr => first | (go_simp; done) | (go_simp; rfl)); intro gb128 hg w19 hbox hb; have n0_ := Aside0.mk (blk_below (g := gb124) (o := .cells #[.bool ((rd_T122 l0 x11_1).f0), .string ((rd_T122 l0 x11_1).f1.f0), .int .i64 ((rd_T122 l0 x11_1).f1.f1), .string ((rd_T122 l0 x11_1).f2.f0), .int .i64 ((rd_T122 l0 x11_1).f2.f1), .slice A123_5 ((rd_T122 l0 x11_1).f3).length c123_5, .slice (some ad127) ((rd_T122 l0 x11_1).f4).length c123_6, .string ((rd_T122 l0 x11_1).f5.f0), .int .i64 ((rd_T122 l0 x11_1).f5.f1), .slice A123_9 ((rd_T122 l0 x11_1).f6).length c123_9] 122 (0, 0)) (by (with_reducible repeat (first | refine blk_drewN ?_ _ | refine blk_drew ?_ | refine blk_alloc ?_ _)); exact BK124.out) hb); have n1_ := Aside0.mk (below_step (by repeat (first | (with_reducible first | exact HB.out | apply below_alloc | apply pw_below_drewN | apply below_drew1 | refine below_set ?_ GE124.out) | exact HB.out)) hb); have n2_ := Aside0.mk (hbox); have n3_ := Aside0.mk ((by rw [hg]; exact (below_size (by repeat (first | (with_reducible first | exact HB.out | apply below_alloc | apply pw_below_drewN | apply below_drew1 | refine below_set ?_ GE124.out) | exact HB.out))) : w.heap.size ≤ gb128)); have n4_ := Aside0.mk ((by rw [hg]; exact (below_size (by repeat (first | (with_reducible first | exact HB.out | apply below_alloc | apply pw_below_drewN | apply below_drew1 | refine below_set ?_ GE124.out) | exact HB.out))) : w.heap.size ≤ gb128)); have n5_ := Aside0.mk ((by rw [hg]; exact Nat.ne_of_lt (blk_lt (g := gb124) (o := .cells #[.bool ((rd_T122 l0 x11_1).f0), .string ((rd_T122 l0 x11_1).f1.f0), .int .i64 ((rd_T122 l0 x11_1).f1.f1), .string ((rd_T122 l0 x11_1).f2.f0), .int .i64 ((rd_T122 l0 x11_1).f2.f1), .slice A123_5 ((rd_T122 l0 x11_1).f3).length c123_5, .slice (some ad127) ((rd_T122 l0 x11_1).f4).length c123_6, .string ((rd_T122 l0 x11_1).f5.f0), .int .i64 ((rd_T122 l0 x11_1).f5.f1), .slice A123_9 ((rd_T122 l0 x11_1).f6).length c123_9] 122 (0, 0)) (by (with_reducible repeat (first | refine blk_drewN ?_ _ | refine blk_drew ?_ | refine blk_alloc ?_ _)); exact BK124.out)) : gb124 ≠ gb128)); have n6_ := Aside0.mk ((by rw [hg]; exact Nat.ne_of_gt (blk_lt (g := gb124) (o := .cells #[.bool ((rd_T122 l0 x11_1).f0), .string ((rd_T122 l0 x11_1).f1.f0), .int .i64 ((rd_T122 l0 x11_1).f1.f1), .string ((rd_T122 l0 x11_1).f2.f0), .int .i64 ((rd_T122 l0 x11_1).f2.f1), .slice A123_5 ((rd_T122 l0 x11_1).f3).length c123_5, .slice (some ad127) ((rd_T122 l0 x11_1).f4).length c123_6, .string ((rd_T122 l0 x11_1).f5.f0), .int .i64 ((rd_T122 l0 x11_1).f5.f1), .slice A123_9 ((rd_T122 l0 x11_1).f6).length c123_9] 122 (0, 0)) (by (with_reducible repeat (first | refine blk_drewN ?_ _ | refine blk_drew ?_ | refine blk_alloc ?_ _)); exact BK124.out)) : gb128 ≠ gb124)); clear BK124; clear HB; have BK124 := n0_; have HB := n1_; have BK128 := n2_; have GW128 := n3_; have GE128 := n4_; have NB124_128 := n5_; have NB128_124 := n6_; clear n0_ n1_ n2_ n3_ n4_ n5_ n6_; clear hb hbox hg; have hnb20 := NB128_124.out; have hnc20 := NB124_128.out; have hcz21_0 : w19.cell? ⟨gb128, 0, none⟩ = some (.string (⟨#[]⟩ : ByteArray)) := (blk_cell BK128.out 0).trans rfl; have hcz21_1 : w19.cell? ⟨gb128, 1, none⟩ = some (.int .i64 0) := (blk_cell BK128.out 1).trans rfl; have hcz21_2 : w19.cell? ⟨gb128, 2, none⟩ = some (.string (⟨#[]⟩ : ByteArray)) := (blk_cell BK128.out 2).trans rfl; have hcz21_3 : w19.cell? ⟨gb128, 3, none⟩ = some (.int .i64 0) := (blk_cell BK128.out 3).trans rfl; have hcz21_4 : w19.cell? ⟨gb128, 4, none⟩ = some (.slice none 0 0) := (blk_cell BK128.out 4).trans rfl; have hcz21_5 : w19.cell? ⟨gb128, 5, none⟩ = some (.slice none 0 0) := (blk_cell BK128.out 5).trans rfl; have hcz21_6 : w19.cell? ⟨gb128, 6, none⟩ = some (.slice none 0 0) := (blk_cell BK128.out 6).trans rfl; have hcz21_7 : w19.cell? ⟨gb128, 7, none⟩ = some (.int .i64 0) := (blk_cell BK128.out 7).trans rfl; have hcz21_8 : w19.cell? ⟨gb128, 8, none⟩ = some (.string (⟨#[]⟩ : ByteArray)) := (blk_cell BK128.out 8).trans rfl; have hcz21_9 : w19.cell? ⟨gb128, 9, none⟩ = some (.int .i64 0) := (blk_cell BK128.out 9).trans rfl; have hcz21_10 : w19.cell? ⟨gb128, 10, none⟩ = some (.int .i64 0) := (blk_cell BK128.out 10).trans rfl; have hcz21_11 : w19.cell? ⟨gb128, 11, none⟩ = some (.int .i64 0) := (blk_cell BK128.out 11).trans rfl; have hcz21_12 : w19.cell? ⟨gb128, 12, none⟩ = some (.int .i64 0) := (blk_cell BK128.out 12).trans rfl; have hcz21_13 : w19.cell? ⟨gb128, 13, none⟩ = some (.slice none 0 0) := (blk_cell BK128.out 13).trans rfl; have hfz21_0 := blk_frozen BK128.out 0; have hfz21_1 := blk_frozen BK128.out 1; have hfz21_2 := blk_frozen BK128.out 2; have hfz21_3 := blk_frozen BK128.out 3; have hfz21_4 := blk_frozen BK128.out 4; have hfz21_5 := blk_frozen BK128.out 5; have hfz21_6 := blk_frozen BK128.out 6; have hfz21_7 := blk_frozen BK128.out 7; have hfz21_8 := blk_frozen BK128.out 8; have hfz21_9 := blk_frozen BK128.out 9; have hfz21_10 := blk_frozen BK128.out 10; have hfz21_11 := blk_frozen BK128.out 11; have hfz21_12 := blk_frozen BK128.out 12; have hfz21_13 := blk_frozen BK128.out 13))
                        go_ret
                        exact ⟨by first | rfl | (simp [errW_none, errW_some] <;> rfl) | (simp [*, errW_none, errW_some] <;> rfl), by repeat (first | (with_reducible first | exact HB.out | apply below_alloc | apply pw_below_drewN | apply below_drew1 | refine below_set ?_ GE124.out | refine below_set ?_ GE128.out) | exact HB.out)⟩
                      · rw [if_neg c18] at H
                        have c18b0 : decide (x1_2 < 0) = false := decide_eq_false c18
                        clear c18
                        replace H := Option.bind_eq_some_iff.mp H
                        obtain ⟨t129, A220, H⟩ := H
                        replace H : ((namesakelaw13_vars.f k2 ((rd_T177 ((rd_T122 l0 x11_1).f4) x42_2).f3) t129).bind fun t130 => ((namesakelaw13_stmts.f k2 ((rd_T177 ((rd_T122 l0 x11_1).f4) x42_2).f4) t130).bind fun t131 => ((namesakelaw13_exp.f k2 ((rd_T177 ((rd_T122 l0 x11_1).f4) x42_2).f5.f0) ((rd_T177 ((rd_T122 l0 x11_1).f4) x42_2).f5.f1.f0) ((rd_T177 ((rd_T122 l0 x11_1).f4) x42_2).f5.f1.f1) ((rd_T177 ((rd_T122 l0 x11_1).f4) x42_2).f5.f2) ((rd_T177 ((rd_T122 l0 x11_1).f4) x42_2).f5.f3) ((rd_T177 ((rd_T122 l0 x11_1).f4) x42_2).f5.f4) ((rd_T177 ((rd_T122 l0 x11_1).f4) x42_2).f5.f5) t131).bind fun t132 => (namesakelaw13_Size.l1 k2 t132 l0 (l0.length : Int) x11_1 ((rd_T122 l0 x11_1).f4) (((rd_T122 l0 x11_1).f4).length : Int) (wrap64 (x42_2 + 1)))))) = some r := H
                        have A22 := Aside0.mk A220
                        clear A220
                        replace H := Option.bind_eq_some_iff.mp H
                        obtain ⟨t130, A230, H⟩ := H
                        replace H : ((namesakelaw13_stmts.f k2 ((rd_T177 ((rd_T122 l0 x11_1).f4) x42_2).f4) t130).bind fun t131 => ((namesakelaw13_exp.f k2 ((rd_T177 ((rd_T122 l0 x11_1).f4) x42_2).f5.f0) ((rd_T177 ((rd_T122 l0 x11_1).f4) x42_2).f5.f1.f0) ((rd_T177 ((rd_T122 l0 x11_1).f4) x42_2).f5.f1.f1) ((rd_T177 ((rd_T122 l0 x11_1).f4) x42_2).f5.f2) ((rd_T177 ((rd_T122 l0 x11_1).f4) x42_2).f5.f3) ((rd_T177 ((rd_T122 l0 x11_1).f4) x42_2).f5.f4) ((rd_T177 ((rd_T122 l0 x11_1).f4) x42_2).f5.f5) t131).bind fun t132 => (namesakelaw13_Size.l1 k2 t132 l0 (l0.length : Int) x11_1 ((rd_T122 l0 x11_1).f4) (((rd_T122 l0 x11_1).f4).length : Int) (wrap64 (x42_2 + 1))))) = some r := H
                        have A23 := Aside0.mk A230
                        clear A230
                        replace H := Option.bind_eq_some_iff.mp H
                        obtain ⟨t131, A240, H⟩ := H
                        replace H : ((namesakelaw13_exp.f k2 ((rd_T177 ((rd_T122 l0 x11_1).f4) x42_2).f5.f0) ((rd_T177 ((rd_T122 l0 x11_1).f4) x42_2).f5.f1.f0) ((rd_T177 ((rd_T122 l0 x11_1).f4) x42_2).f5.f1.f1) ((rd_T177 ((rd_T122 l0 x11_1).f4) x42_2).f5.f2) ((rd_T177 ((rd_T122 l0 x11_1).f4) x42_2).f5.f3) ((rd_T177 ((rd_T122 l0 x11_1).f4) x42_2).f5.f4) ((rd_T177 ((rd_T122 l0 x11_1).f4) x42_2).f5.f5) t131).bind fun t132 => (namesakelaw13_Size.l1 k2 t132 l0 (l0.length : Int) x11_1 ((rd_T122 l0 x11_1).f4) (((rd_T122 l0 x11_1).f4).length : Int) (wrap64 (x42_2 + 1)))) = some r := H
                        have A24 := Aside0.mk A240
                        clear A240
                        replace H := Option.bind_eq_some_iff.mp H
                        obtain ⟨t132, A250, H⟩ := H
                        replace H : (namesakelaw13_Size.l1 k2 t132 l0 (l0.length : Int) x11_1 ((rd_T122 l0 x11_1).f4) (((rd_T122 l0 x11_1).f4).length : Int) (wrap64 (x42_2 + 1))) = some r := H
                        have A25 := Aside0.mk A250
                        clear A250
                        have H' := Aside0.mk H
                        clear H
                        have p127 : 0 ≤ (x42_2 : Int) := of_decide_eq_true (by first | (with_reducible assumption) | assumption)
                        have q127 : x42_2 < (((rd_T122 l0 x11_1).f4).length : Int) := of_decide_eq_true (by first | (with_reducible assumption) | assumption)
                        obtain ⟨ad127, A127_4, c127_4, A127_5, c127_5, A127_6, c127_6, A127_13, c127_13, e127, hx127_0, hx127_1, hx127_2, hx127_3, hx127_4, hx127_5, hx127_6, hx127_7, hx127_8, hx127_9, hx127_10, hx127_11, hx127_12, hx127_13, hl127_4, hi127_4, hl127_5, hi127_5, hl127_6, hi127_6, hl127_13, hi127_13⟩ := at_T177 HR123_6.out x42_2 p127 q127
                        cases e127
                        replace hx127_0 := (HB.out.cell (World.block_lt_of_cell? w _ hx127_0)).trans hx127_0
                        replace hx127_1 := (HB.out.cell (World.block_lt_of_cell? w _ hx127_1)).trans hx127_1
                        replace hx127_2 := (HB.out.cell (World.block_lt_of_cell? w _ hx127_2)).trans hx127_2
                        replace hx127_3 := (HB.out.cell (World.block_lt_of_cell? w _ hx127_3)).trans hx127_3
                        replace hx127_4 := (HB.out.cell (World.block_lt_of_cell? w _ hx127_4)).trans hx127_4
                        replace hx127_5 := (HB.out.cell (World.block_lt_of_cell? w _ hx127_5)).trans hx127_5
                        replace hx127_6 := (HB.out.cell (World.block_lt_of_cell? w _ hx127_6)).trans hx127_6
                        replace hx127_7 := (HB.out.cell (World.block_lt_of_cell? w _ hx127_7)).trans hx127_7
                        replace hx127_8 := (HB.out.cell (World.block_lt_of_cell? w _ hx127_8)).trans hx127_8
                        replace hx127_9 := (HB.out.cell (World.block_lt_of_cell? w _ hx127_9)).trans hx127_9
                        replace hx127_10 := (HB.out.cell (World.block_lt_of_cell? w _ hx127_10)).trans hx127_10
                        replace hx127_11 := (HB.out.cell (World.block_lt_of_cell? w _ hx127_11)).trans hx127_11
                        replace hx127_12 := (HB.out.cell (World.block_lt_of_cell? w _ hx127_12)).trans hx127_12
                        replace hx127_13 := (HB.out.cell (World.block_lt_of_cell? w _ hx127_13)).trans hx127_13
                        have HR127_4 := Aside0.mk hi127_4
                        have HC127_4 := Aside0.mk hl127_4
                        clear hi127_4 hl127_4
                        have HR127_5 := Aside0.mk hi127_5
                        have HC127_5 := Aside0.mk hl127_5
                        clear hi127_5 hl127_5
                        have HR127_6 := Aside0.mk hi127_6
                        have HC127_6 := Aside0.mk hl127_6
                        clear hi127_6 hl127_6
                        have HR127_13 := Aside0.mk hi127_13
                        have HC127_13 := Aside0.mk hl127_13
                        clear hi127_13 hl127_13
                        replace p127 := eq_true p127
                        replace q127 := eq_true q127
                        try go_wp2_with (first | ((with_reducible refine gate_dst (N := 8) rfl ?_); refine box_event ?hg (N := 8) ?hd (cs := #[.string (⟨#[]⟩ : ByteArray), .int .i64 0, .string (⟨#[]⟩ : ByteArray), .int .i64 0, .slice none 0 0, .slice none 0 0, .slice none 0 0, .int .i64 0, .string (⟨#[]⟩ : ByteArray), .int .i64 0, .int .i64 0, .int .i64 0, .int .i64 0, .slice none 0 0]) (t := 177) ?hr ?_; (case hd => rfl); (case hg => rfl); (case hr => first | (go_simp; done) | (go_simp; rfl)); intro gb128 hg w26 hbox hb; have n0_ := Aside0.mk (blk_below (g := gb124) (o := .cells #[.bool ((rd_T122 l0 x11_1).f0), .string ((rd_T122 l0 x11_1).f1.f0), .int .i64 ((rd_T122 l0 x11_1).f1.f1), .string ((rd_T122 l0 x11_1).f2.f0), .int .i64 ((rd_T122 l0 x11_1).f2.f1), .slice A123_5 ((rd_T122 l0 x11_1).f3).length c123_5, .slice (some ad127) ((rd_T122 l0 x11_1).f4).length c123_6, .string ((rd_T122 l0 x11_1).f5.f0), .int .i64 ((rd_T122 l0 x11_1).f5.f1), .slice A123_9 ((rd_T122 l0 x11_1).f6).length c123_9] 122 (0, 0)) (by (with_reducible repeat (first | refine blk_drewN ?_ _ | refine blk_drew ?_ | refine blk_alloc ?_ _)); exact BK124.out) hb); have n1_ := Aside0.mk (below_step (by repeat (first | (with_reducible first | exact HB.out | apply below_alloc | apply pw_below_drewN | apply below_drew1 | refine below_set ?_ GE124.out) | exact HB.out)) hb); have n2_ := Aside0.mk (hbox); have n3_ := Aside0.mk ((by rw [hg]; exact (below_size (by repeat (first | (with_reducible first | exact HB.out | apply below_alloc | apply pw_below_drewN | apply below_drew1 | refine below_set ?_ GE124.out) | exact HB.out))) : w.heap.size ≤ gb128)); have n4_ := Aside0.mk ((by rw [hg]; exact (below_size (by repeat (first | (with_reducible first | exact HB.out | apply below_alloc | apply pw_below_drewN | apply below_drew1 | refine below_set ?_ GE124.out) | exact HB.out))) : w.heap.size ≤ gb128)); have n5_ := Aside0.mk ((by rw [hg]; exact Nat.ne_of_lt (blk_lt (g := gb124) (o := .cells #[.bool ((rd_T122 l0 x11_1).f0), .string ((rd_T122 l0 x11_1).f1.f0), .int .i64 ((rd_T122 l0 x11_1).f1.f1), .string ((rd_T122 l0 x11_1).f2.f0), .int .i64 ((rd_T122 l0 x11_1).f2.f1), .slice A123_5 ((rd_T122 l0 x11_1).f3).length c123_5, .slice (some ad127) ((rd_T122 l0 x11_1).f4).length c123_6, .string ((rd_T122 l0 x11_1).f5.f0), .int .i64 ((rd_T122 l0 x11_1).f5.f1), .slice A123_9 ((rd_T122 l0 x11_1).f6).length c123_9] 122 (0, 0)) (by (with_reducible repeat (first | refine blk_drewN ?_ _ | refine blk_drew ?_ | refine blk_alloc ?_ _)); exact BK124.out)) : gb124 ≠ gb128)); have n6_ := Aside0.mk ((by rw [hg]; exact Nat.ne_of_gt (blk_lt (g := gb124) (o := .cells #[.bool ((rd_T122 l0 x11_1).f0), .string ((rd_T122 l0 x11_1).f1.f0), .int .i64 ((rd_T122 l0 x11_1).f1.f1), .string ((rd_T122 l0 x11_1).f2.f0), .int .i64 ((rd_T122 l0 x11_1).f2.f1), .slice A123_5 ((rd_T122 l0 x11_1).f3).length c123_5, .slice (some ad127) ((rd_T122 l0 x11_1).f4).length c123_6, .string ((rd_T122 l0 x11_1).f5.f0), .int .i64 ((rd_T122 l0 x11_1).f5.f1), .slice A123_9 ((rd_T122 l0 x11_1).f6).length c123_9] 122 (0, 0)) (by (with_reducible repeat (first | refine blk_drewN ?_ _ | refine blk_drew ?_ | refine blk_alloc ?_ _)); exact BK124.out)) : gb128 ≠ gb124)); clear BK124; clear HB; have BK124 := n0_; have HB := n1_; have BK128 := n2_; have GW128 := n3_; have GE128 := n4_; have NB124_128 := n5_; have NB128_124 := n6_; clear n0_ n1_ n2_ n3_ n4_ n5_ n6_; clear hb hbox hg; have hnb27 := NB128_124.out; have hnc27 := NB124_128.out; have hcz28_0 : w26.cell? ⟨gb128, 0, none⟩ = some (.string (⟨#[]⟩ : ByteArray)) := (blk_cell BK128.out 0).trans rfl; have hcz28_1 : w26.cell? ⟨gb128, 1, none⟩ = some (.int .i64 0) := (blk_cell BK128.out 1).trans rfl; have hcz28_2 : w26.cell? ⟨gb128, 2, none⟩ = some (.string (⟨#[]⟩ : ByteArray)) := (blk_cell BK128.out 2).trans rfl; have hcz28_3 : w26.cell? ⟨gb128, 3, none⟩ = some (.int .i64 0) := (blk_cell BK128.out 3).trans rfl; have hcz28_4 : w26.cell? ⟨gb128, 4, none⟩ = some (.slice none 0 0) := (blk_cell BK128.out 4).trans rfl; have hcz28_5 : w26.cell? ⟨gb128, 5, none⟩ = some (.slice none 0 0) := (blk_cell BK128.out 5).trans rfl; have hcz28_6 : w26.cell? ⟨gb128, 6, none⟩ = some (.slice none 0 0) := (blk_cell BK128.out 6).trans rfl; have hcz28_7 : w26.cell? ⟨gb128, 7, none⟩ = some (.int .i64 0) := (blk_cell BK128.out 7).trans rfl; have hcz28_8 : w26.cell? ⟨gb128, 8, none⟩ = some (.string (⟨#[]⟩ : ByteArray)) := (blk_cell BK128.out 8).trans rfl; have hcz28_9 : w26.cell? ⟨gb128, 9, none⟩ = some (.int .i64 0) := (blk_cell BK128.out 9).trans rfl; have hcz28_10 : w26.cell? ⟨gb128, 10, none⟩ = some (.int .i64 0) := (blk_cell BK128.out 10).trans rfl; have hcz28_11 : w26.cell? ⟨gb128, 11, none⟩ = some (.int .i64 0) := (blk_cell BK128.out 11).trans rfl; have hcz28_12 : w26.cell? ⟨gb128, 12, none⟩ = some (.int .i64 0) := (blk_cell BK128.out 12).trans rfl; have hcz28_13 : w26.cell? ⟨gb128, 13, none⟩ = some (.slice none 0 0) := (blk_cell BK128.out 13).trans rfl; have hfz28_0 := blk_frozen BK128.out 0; have hfz28_1 := blk_frozen BK128.out 1; have hfz28_2 := blk_frozen BK128.out 2; have hfz28_3 := blk_frozen BK128.out 3; have hfz28_4 := blk_frozen BK128.out 4; have hfz28_5 := blk_frozen BK128.out 5; have hfz28_6 := blk_frozen BK128.out 6; have hfz28_7 := blk_frozen BK128.out 7; have hfz28_8 := blk_frozen BK128.out 8; have hfz28_9 := blk_frozen BK128.out 9; have hfz28_10 := blk_frozen BK128.out 10; have hfz28_11 := blk_frozen BK128.out 11; have hfz28_12 := blk_frozen BK128.out 12; have hfz28_13 := blk_frozen BK128.out 13))
                        have n0_ : Aside0 (((((((((((((((w26.setCell ⟨gb128, 0, none⟩ (.string ((rd_T177 ((rd_T122 l0 x11_1).f4) x42_2).f0.f0))).setCell ⟨gb128, 1, none⟩ (.int .i64 ((rd_T177 ((rd_T122 l0 x11_1).f4) x42_2).f0.f1))).setCell ⟨gb128, 2, none⟩ (.string ((rd_T177 ((rd_T122 l0 x11_1).f4) x42_2).f1.f0))).setCell ⟨gb128, 3, none⟩ (.int .i64 ((rd_T177 ((rd_T122 l0 x11_1).f4) x42_2).f1.f1))).setCell ⟨gb128, 4, none⟩ (.slice A127_4 ((rd_T177 ((rd_T122 l0 x11_1).f4) x42_2).f2).length c127_4)).setCell ⟨gb128, 5, none⟩ (.slice A127_5 ((rd_T177 ((rd_T122 l0 x11_1).f4) x42_2).f3).length c127_5)).setCell ⟨gb128, 6, none⟩ (.slice A127_6 ((rd_T177 ((rd_T122 l0 x11_1).f4) x42_2).f4).length c127_6)).setCell ⟨gb128, 7, none⟩ (.int .i64 ((rd_T177 ((rd_T122 l0 x11_1).f4) x42_2).f5.f0))).setCell ⟨gb128, 8, none⟩ (.string ((rd_T177 ((rd_T122 l0 x11_1).f4) x42_2).f5.f1.f0))).setCell ⟨gb128, 9, none⟩ (.int .i64 ((rd_T177 ((rd_T122 l0 x11_1).f4) x42_2).f5.f1.f1))).setCell ⟨gb128, 10, none⟩ (.int .i64 ((rd_T177 ((rd_T122 l0 x11_1).f4) x42_2).f5.f2))).setCell ⟨gb128, 11, none⟩ (.int .i64 ((rd_T177 ((rd_T122 l0 x11_1).f4) x42_2).f5.f3))).setCell ⟨gb128, 12, none⟩ (.int .i64 ((rd_T177 ((rd_T122 l0 x11_1).f4) x42_2).f5.f4))).setCell ⟨gb128, 13, none⟩ (.slice A127_13 ((rd_T177 ((rd_T122 l0 x11_1).f4) x42_2).f5.f5).length c127_13)).heap[gb124]? = some (.cells #[.bool ((rd_T122 l0 x11_1).f0), .string ((rd_T122 l0 x11_1).f1.f0), .int .i64 ((rd_T122 l0 x11_1).f1.f1), .string ((rd_T122 l0 x11_1).f2.f0), .int .i64 ((rd_T122 l0 x11_1).f2.f1), .slice A123_5 ((rd_T122 l0 x11_1).f3).length c123_5, .slice (some ad127) ((rd_T122 l0 x11_1).f4).length c123_6, .string ((rd_T122 l0 x11_1).f5.f0), .int .i64 ((rd_T122 l0 x11_1).f5.f1), .slice A123_9 ((rd_T122 l0 x11_1).f6).length c123_9] 122 (0, 0))) := ⟨by (with_reducible repeat (first | refine blk_drewN ?_ _ | refine blk_drew ?_ | refine blk_alloc ?_ _)); refine blk_far ?_ NB124_128.out _; (with_reducible repeat (first | refine blk_drewN ?_ _ | refine blk_drew ?_ | refine blk_alloc ?_ _)); refine blk_far ?_ NB124_128.out _; (with_reducible repeat (first | refine blk_drewN ?_ _ | refine blk_drew ?_ | refine blk_alloc ?_ _)); refine blk_far ?_ NB124_128.out _; (with_reducible repeat (first | refine blk_drewN ?_ _ | refine blk_drew ?_ | refine blk_alloc ?_ _)); refine blk_far ?_ NB124_128.out _; (with_reducible repeat (first | refine blk_drewN ?_ _ | refine blk_drew ?_ | refine blk_alloc ?_ _)); refine blk_far ?_ NB124_128.out _; (with_reducible repeat (first | refine blk_drewN ?_ _ | refine blk_drew ?_ | refine blk_alloc ?_ _)); refine blk_far ?_ NB124_128.out _; (with_reducible repeat (first | refine blk_drewN ?_ _ | refine blk_drew ?_ | refine blk_alloc ?_ _)); refine blk_far ?_ NB124_128.out _; (with_reducible repeat (first | refine blk_drewN ?_ _ | refine blk_drew ?_ | refine blk_alloc ?_ _)); refine blk_far ?_ NB124_128.out _; (with_reducible repeat (first | refine blk_drewN ?_ _ | refine blk_drew ?_ | refine blk_alloc ?_ _)); refine blk_far ?_ NB124_128.out _; (with_reducible repeat (first | refine blk_drewN ?_ _ | refine blk_drew ?_ | refine blk_alloc ?_ _)); refine blk_far ?_ NB124_128.out _; (with_reducible repeat (first | refine blk_drewN ?_ _ | refine blk_drew ?_ | refine blk_alloc ?_ _)); refine blk_far ?_ NB124_128.out _; (with_reducible repeat (first | refine blk_drewN ?_ _ | refine blk_drew ?_ | refine blk_alloc ?_ _)); refine blk_far ?_ NB124_128.out _; (with_reducible repeat (first | refine blk_drewN ?_ _ | refine blk_drew ?_ | refine blk_alloc ?_ _)); refine blk_far ?_ NB124_128.out _; (with_reducible repeat (first | refine blk_drewN ?_ _ | refine blk_drew ?_ | refine blk_alloc ?_ _)); refine blk_far ?_ NB124_128.out _; (with_reducible repeat (first | refine blk_drewN ?_ _ | refine blk_drew ?_ | refine blk_alloc ?_ _)); exact BK124.out⟩
                        have n1_ : Aside0 (((((((((((((((w26.setCell ⟨gb128, 0, none⟩ (.string ((rd_T177 ((rd_T122 l0 x11_1).f4) x42_2).f0.f0))).setCell ⟨gb128, 1, none⟩ (.int .i64 ((rd_T177 ((rd_T122 l0 x11_1).f4) x42_2).f0.f1))).setCell ⟨gb128, 2, none⟩ (.string ((rd_T177 ((rd_T122 l0 x11_1).f4) x42_2).f1.f0))).setCell ⟨gb128, 3, none⟩ (.int .i64 ((rd_T177 ((rd_T122 l0 x11_1).f4) x42_2).f1.f1))).setCell ⟨gb128, 4, none⟩ (.slice A127_4 ((rd_T177 ((rd_T122 l0 x11_1).f4) x42_2).f2).length c127_4)).setCell ⟨gb128, 5, none⟩ (.slice A127_5 ((rd_T177 ((rd_T122 l0 x11_1).f4) x42_2).f3).length c127_5)).setCell ⟨gb128, 6, none⟩ (.slice A127_6 ((rd_T177 ((rd_T122 l0 x11_1).f4) x42_2).f4).length c127_6)).setCell ⟨gb128, 7, none⟩ (.int .i64 ((rd_T177 ((rd_T122 l0 x11_1).f4) x42_2).f5.f0))).setCell ⟨gb128, 8, none⟩ (.string ((rd_T177 ((rd_T122 l0 x11_1).f4) x42_2).f5.f1.f0))).setCell ⟨gb128, 9, none⟩ (.int .i64 ((rd_T177 ((rd_T122 l0 x11_1).f4) x42_2).f5.f1.f1))).setCell ⟨gb128, 10, none⟩ (.int .i64 ((rd_T177 ((rd_T122 l0 x11_1).f4) x42_2).f5.f2))).setCell ⟨gb128, 11, none⟩ (.int .i64 ((rd_T177 ((rd_T122 l0 x11_1).f4) x42_2).f5.f3))).setCell ⟨gb128, 12, none⟩ (.int .i64 ((rd_T177 ((rd_T122 l0 x11_1).f4) x42_2).f5.f4))).setCell ⟨gb128, 13, none⟩ (.slice A127_13 ((rd_T177 ((rd_T122 l0 x11_1).f4) x42_2).f5.f5).length c127_13)).heap[gb128]? = some (.cells #[.string ((rd_T177 ((rd_T122 l0 x11_1).f4) x42_2).f0.f0), .int .i64 ((rd_T177 ((rd_T122 l0 x11_1).f4) x42_2).f0.f1), .string ((rd_T177 ((rd_T122 l0 x11_1).f4) x42_2).f1.f0), .int .i64 ((rd_T177 ((rd_T122 l0 x11_1).f4) x42_2).f1.f1), .slice A127_4 ((rd_T177 ((rd_T122 l0 x11_1).f4) x42_2).f2).length c127_4, .slice A127_5 ((rd_T177 ((rd_T122 l0 x11_1).f4) x42_2).f3).length c127_5, .slice A127_6 ((rd_T177 ((rd_T122 l0 x11_1).f4) x42_2).f4).length c127_6, .int .i64 ((rd_T177 ((rd_T122 l0 x11_1).f4) x42_2).f5.f0), .string ((rd_T177 ((rd_T122 l0 x11_1).f4) x42_2).f5.f1.f0), .int .i64 ((rd_T177 ((rd_T122 l0 x11_1).f4) x42_2).f5.f1.f1), .int .i64 ((rd_T177 ((rd_T122 l0 x11_1).f4) x42_2).f5.f2), .int .i64 ((rd_T177 ((rd_T122 l0 x11_1).f4) x42_2).f5.f3), .int .i64 ((rd_T177 ((rd_T122 l0 x11_1).f4) x42_2).f5.f4), .slice A127_13 ((rd_T177 ((rd_T122 l0 x11_1).f4) x42_2).f5.f5).length c127_13] 177 (0, 0))) := ⟨by (with_reducible repeat (first | refine blk_drewN ?_ _ | refine blk_drew ?_ | refine blk_alloc ?_ _)); refine blk_put (cs := #[.string ((rd_T177 ((rd_T122 l0 x11_1).f4) x42_2).f0.f0), .int .i64 ((rd_T177 ((rd_T122 l0 x11_1).f4) x42_2).f0.f1), .string ((rd_T177 ((rd_T122 l0 x11_1).f4) x42_2).f1.f0), .int .i64 ((rd_T177 ((rd_T122 l0 x11_1).f4) x42_2).f1.f1), .slice A127_4 ((rd_T177 ((rd_T122 l0 x11_1).f4) x42_2).f2).length c127_4, .slice A127_5 ((rd_T177 ((rd_T122 l0 x11_1).f4) x42_2).f3).length c127_5, .slice A127_6 ((rd_T177 ((rd_T122 l0 x11_1).f4) x42_2).f4).length c127_6, .int .i64 ((rd_T177 ((rd_T122 l0 x11_1).f4) x42_2).f5.f0), .string ((rd_T177 ((rd_T122 l0 x11_1).f4) x42_2).f5.f1.f0), .int .i64 ((rd_T177 ((rd_T122 l0 x11_1).f4) x42_2).f5.f1.f1), .int .i64 ((rd_T177 ((rd_T122 l0 x11_1).f4) x42_2).f5.f2), .int .i64 ((rd_T177 ((rd_T122 l0 x11_1).f4) x42_2).f5.f3), .int .i64 ((rd_T177 ((rd_T122 l0 x11_1).f4) x42_2).f5.f4), .slice none 0 0]) ?_ 13 _ rfl; (with_reducible repeat (first | refine blk_drewN ?_ _ | refine blk_drew ?_ | refine blk_alloc ?_ _)); refine blk_put (cs := #[.string ((rd_T177 ((rd_T122 l0 x11_1).f4) x42_2).f0.f0), .int .i64 ((rd_T177 ((rd_T122 l0 x11_1).f4) x42_2).f0.f1), .string ((rd_T177 ((rd_T122 l0 x11_1).f4) x42_2).f1.f0), .int .i64 ((rd_T177 ((rd_T122 l0 x11_1).f4) x42_2).f1.f1), .slice A127_4 ((rd_T177 ((rd_T122 l0 x11_1).f4) x42_2).f2).length c127_4, .slice A127_5 ((rd_T177 ((rd_T122 l0 x11_1).f4) x42_2).f3).length c127_5, .slice A127_6 ((rd_T177 ((rd_T122 l0 x11_1).f4) x42_2).f4).length c127_6, .int .i64 ((rd_T177 ((rd_T122 l0 x11_1).f4) x42_2).f5.f0), .string ((rd_T177 ((rd_T122 l0 x11_1).f4) x42_2).f5.f1.f0), .int .i64 ((rd_T177 ((rd_T122 l0 x11_1).f4) x42_2).f5.f1.f1), .int .i64 ((rd_T177 ((rd_T122 l0 x11_1).f4) x42_2).f5.f2), .int .i64 ((rd_T177 ((rd_T122 l0 x11_1).f4) x42_2).f5.f3), .int .i64 0, .slice none 0 0]) ?_ 12 _ rfl; (with_reducible repeat (first | refine blk_drewN ?_ _ | refine blk_drew ?_ | refine blk_alloc ?_ _)); refine blk_put (cs := #[.string ((rd_T177 ((rd_T122 l0 x11_1).f4) x42_2).f0.f0), .int .i64 ((rd_T177 ((rd_T122 l0 x11_1).f4) x42_2).f0.f1), .string ((rd_T177 ((rd_T122 l0 x11_1).f4) x42_2).f1.f0), .int .i64 ((rd_T177 ((rd_T122 l0 x11_1).f4) x42_2).f1.f1), .slice A127_4 ((rd_T177 ((rd_T122 l0 x11_1).f4) x42_2).f2).length c127_4, .slice A127_5 ((rd_T177 ((rd_T122 l0 x11_1).f4) x42_2).f3).length c127_5, .slice A127_6 ((rd_T177 ((rd_T122 l0 x11_1).f4) x42_2).f4).length c127_6, .int .i64 ((rd_T177 ((rd_T122 l0 x11_1).f4) x42_2).f5.f0), .string ((rd_T177 ((rd_T122 l0 x11_1).f4) x42_2).f5.f1.f0), .int .i64 ((rd_T177 ((rd_T122 l0 x11_1).f4) x42_2).f5.f1.f1), .int .i64 ((rd_T177 ((rd_T122 l0 x11_1).f4) x42_2).f5.f2), .int .i64 0, .int .i64 0, .slice none 0 0]) ?_ 11 _ rfl; (with_reducible repeat (first | refine blk_drewN ?_ _ | refine blk_drew ?_ | refine blk_alloc ?_ _)); refine blk_put (cs := #[.string ((rd_T177 ((rd_T122 l0 x11_1).f4) x42_2).f0.f0), .int .i64 ((rd_T177 ((rd_T122 l0 x11_1).f4) x42_2).f0.f1), .string ((rd_T177 ((rd_T122 l0 x11_1).f4) x42_2).f1.f0), .int .i64 ((rd_T177 ((rd_T122 l0 x11_1).f4) x42_2).f1.f1), .slice A127_4 ((rd_T177 ((rd_T122 l0 x11_1).f4) x42_2).f2).length c127_4, .slice A127_5 ((rd_T177 ((rd_T122 l0 x11_1).f4) x42_2).f3).length c127_5, .slice A127_6 ((rd_T177 ((rd_T122 l0 x11_1).f4) x42_2).f4).length c127_6, .int .i64 ((rd_T177 ((rd_T122 l0 x11_1).f4) x42_2).f5.f0), .string ((rd_T177 ((rd_T122 l0 x11_1).f4) x42_2).f5.f1.f0), .int .i64 ((rd_T177 ((rd_T122 l0 x11_1).f4) x42_2).f5.f1.f1), .int .i64 0, .int .i64 0, .int .i64 0, .slice none 0 0]) ?_ 10 _ rfl; (with_reducible repeat (first | refine blk_drewN ?_ _ | refine blk_drew ?_ | refine blk_alloc ?_ _)); refine blk_put (cs := #[.string ((rd_T177 ((rd_T122 l0 x11_1).f4) x42_2).f0.f0), .int .i64 ((rd_T177 ((rd_T122 l0 x11_1).f4) x42_2).f0.f1), .string ((rd_T177 ((rd_T122 l0 x11_1).f4) x42_2).f1.f0), .int .i64 ((rd_T177 ((rd_T122 l0 x11_1).f4) x42_2).f1.f1), .slice A127_4 ((rd_T177 ((rd_T122 l0 x11_1).f4) x42_2).f2).length c127_4, .slice A127_5 ((rd_T177 ((rd_T122 l0 x11_1).f4) x42_2).f3).length c127_5, .slice A127_6 ((rd_T177 ((rd_T122 l0 x11_1).f4) x42_2).f4).length c127_6, .int .i64 ((rd_T177 ((rd_T122 l0 x11_1).f4) x42_2).f5.f0), .string ((rd_T177 ((rd_T122 l0 x11_1).f4) x42_2).f5.f1.f0), .int .i64 0, .int .i64 0, .int .i64 0, .int .i64 0, .slice none 0 0]) ?_ 9 _ rfl; (with_reducible repeat (first | refine blk_drewN ?_ _ | refine blk_drew ?_ | refine blk_alloc ?_ _)); refine blk_put (cs := #[.string ((rd_T177 ((rd_T122 l0 x11_1).f4) x42_2).f0.f0), .int .i64 ((rd_T177 ((rd_T122 l0 x11_1).f4) x42_2).f0.f1), .string ((rd_T177 ((rd_T122 l0 x11_1).f4) x42_2).f1.f0), .int .i64 ((rd_T177 ((rd_T122 l0 x11_1).f4) x42_2).f1.f1), .slice A127_4 ((rd_T177 ((rd_T122 l0 x11_1).f4) x42_2).f2).length c127_4, .slice A127_5 ((rd_T177 ((rd_T122 l0 x11_1).f4) x42_2).f3).length c127_5, .slice A127_6 ((rd_T177 ((rd_T122 l0 x11_1).f4) x42_2).f4).length c127_6, .int .i64 ((rd_T177 ((rd_T122 l0 x11_1).f4) x42_2).f5.f0), .string (⟨#[]⟩ : ByteArray), .int .i64 0, .int .i64 0, .int .i64 0, .int .i64 0, .slice none 0 0]) ?_ 8 _ rfl; (with_reducible repeat (first | refine blk_drewN ?_ _ | refine blk_drew ?_ | refine blk_alloc ?_ _)); refine blk_put (cs := #[.string ((rd_T177 ((rd_T122 l0 x11_1).f4) x42_2).f0.f0), .int .i64 ((rd_T177 ((rd_T122 l0 x11_1).f4) x42_2).f0.f1), .string ((rd_T177 ((rd_T122 l0 x11_1).f4) x42_2).f1.f0), .int .i64 ((rd_T177 ((rd_T122 l0 x11_1).f4) x42_2).f1.f1), .slice A127_4 ((rd_T177 ((rd_T122 l0 x11_1).f4) x42_2).f2).length c127_4, .slice A127_5 ((rd_T177 ((rd_T122 l0 x11_1).f4) x42_2).f3).length c127_5, .slice A127_6 ((rd_T177 ((rd_T122 l0 x11_1).f4) x42_2).f4).length c127_6, .int .i64 0, .string (⟨#[]⟩ : ByteArray), .int .i64 0, .int .i64 0, .int .i64 0, .int .i64 0, .slice none 0 0]) ?_ 7 _ rfl; (with_reducible repeat (first | refine blk_drewN ?_ _ | refine blk_drew ?_ | refine blk_alloc ?_ _)); refine blk_put (cs := #[.string ((rd_T177 ((rd_T122 l0 x11_1).f4) x42_2).f0.f0), .int .i64 ((rd_T177 ((rd_T122 l0 x11_1).f4) x42_2).f0.f1), .string ((rd_T177 ((rd_T122 l0 x11_1).f4) x42_2).f1.f0), .int .i64 ((rd_T177 ((rd_T122 l0 x11_1).f4) x42_2).f1.f1), .slice A127_4 ((rd_T177 ((rd_T122 l0 x11_1).f4) x42_2).f2).length c127_4, .slice A127_5 ((rd_T177 ((rd_T122 l0 x11_1).f4) x42_2).f3).length c127_5, .slice none 0 0, .int .i64 0, .string (⟨#[]⟩ : ByteArray), .int .i64 0, .int .i64 0, .int .i64 0, .int .i64 0, .slice none 0 0]) ?_ 6 _ rfl; (with_reducible repeat (first | refine blk_drewN ?_ _ | refine blk_drew ?_ | refine blk_alloc ?_ _)); refine blk_put (cs := #[.string ((rd_T177 ((rd_T122 l0 x11_1).f4) x42_2).f0.f0), .int .i64 ((rd_T177 ((rd_T122 l0 x11_1).f4) x42_2).f0.f1), .string ((rd_T177 ((rd_T122 l0 x11_1).f4) x42_2).f1.f0), .int .i64 ((rd_T177 ((rd_T122 l0 x11_1).f4) x42_2).f1.f1), .slice A127_4 ((rd_T177 ((rd_T122 l0 x11_1).f4) x42_2).f2).length c127_4, .slice none 0 0, .slice none 0 0, .int .i64 0, .string (⟨#[]⟩ : ByteArray), .int .i64 0, .int .i64 0, .int .i64 0, .int .i64 0, .slice none 0 0]) ?_ 5 _ rfl; (with_reducible repeat (first | refine blk_drewN ?_ _ | refine blk_drew ?_ | refine blk_alloc ?_ _)); refine blk_put (cs := #[.string ((rd_T177 ((rd_T122 l0 x11_1).f4) x42_2).f0.f0), .int .i64 ((rd_T177 ((rd_T122 l0 x11_1).f4) x42_2).f0.f1), .string ((rd_T177 ((rd_T122 l0 x11_1).f4) x42_2).f1.f0), .int .i64 ((rd_T177 ((rd_T122 l0 x11_1).f4) x42_2).f1.f1), .slice none 0 0, .slice none 0 0, .slice none 0 0, .int .i64 0, .string (⟨#[]⟩ : ByteArray), .int .i64 0, .int .i64 0, .int .i64 0, .int .i64 0, .slice none 0 0]) ?_ 4 _ rfl; (with_reducible repeat (first | refine blk_drewN ?_ _ | refine blk_drew ?_ | refine blk_alloc ?_ _)); refine blk_put (cs := #[.string ((rd_T177 ((rd_T122 l0 x11_1).f4) x42_2).f0.f0), .int .i64 ((rd_T177 ((rd_T122 l0 x11_1).f4) x42_2).f0.f1), .string ((rd_T177 ((rd_T122 l0 x11_1).f4) x42_2).f1.f0), .int .i64 0, .slice none 0 0, .slice none 0 0, .slice none 0 0, .int .i64 0, .string (⟨#[]⟩ : ByteArray), .int .i64 0, .int .i64 0, .int .i64 0, .int .i64 0, .slice none 0 0]) ?_ 3 _ rfl; (with_reducible repeat (first | refine blk_drewN ?_ _ | refine blk_drew ?_ | refine blk_alloc ?_ _)); refine blk_put (cs := #[.string ((rd_T177 ((rd_T122 l0 x11_1).f4) x42_2).f0.f0), .int .i64 ((rd_T177 ((rd_T122 l0 x11_1).f4) x42_2).f0.f1), .string (⟨#[]⟩ : ByteArray), .int .i64 0, .slice none 0 0, .slice none 0 0, .slice none 0 0, .int .i64 0, .string (⟨#[]⟩ : ByteArray), .int .i64 0, .int .i64 0, .int .i64 0, .int .i64 0, .slice none 0 0]) ?_ 2 _ rfl; (with_reducible repeat (first | refine blk_drewN ?_ _ | refine blk_drew ?_ | refine blk_alloc ?_ _)); refine blk_put (cs := #[.string ((rd_T177 ((rd_T122 l0 x11_1).f4) x42_2).f0.f0), .int .i64 0, .string (⟨#[]⟩ : ByteArray), .int .i64 0, .slice none 0 0, .slice none 0 0, .slice none 0 0, .int .i64 0, .string (⟨#[]⟩ : ByteArray), .int .i64 0, .int .i64 0, .int .i64 0, .int .i64 0, .slice none 0 0]) ?_ 1 _ rfl; (with_reducible repeat (first | refine blk_drewN ?_ _ | refine blk_drew ?_ | refine blk_alloc ?_ _)); refine blk_put (cs := #[.string (⟨#[]⟩ : ByteArray), .int .i64 0, .string (⟨#[]⟩ : ByteArray), .int .i64 0, .slice none 0 0, .slice none 0 0, .slice none 0 0, .int .i64 0, .string (⟨#[]⟩ : ByteArray), .int .i64 0, .int .i64 0, .int .i64 0, .int .i64 0, .slice none 0 0]) ?_ 0 _ rfl; (with_reducible repeat (first | refine blk_drewN ?_ _ | refine blk_drew ?_ | refine blk_alloc ?_ _)); exact BK128.out⟩
                        have n2_ : Aside0 (Below w.heap.size w ((((((((((((((w26.setCell ⟨gb128, 0, none⟩ (.string ((rd_T177 ((rd_T122 l0 x11_1).f4) x42_2).f0.f0))).setCell ⟨gb128, 1, none⟩ (.int .i64 ((rd_T177 ((rd_T122 l0 x11_1).f4) x42_2).f0.f1))).setCell ⟨gb128, 2, none⟩ (.string ((rd_T177 ((rd_T122 l0 x11_1).f4) x42_2).f1.f0))).setCell ⟨gb128, 3, none⟩ (.int .i64 ((rd_T177 ((rd_T122 l0 x11_1).f4) x42_2).f1.f1))).setCell ⟨gb128, 4, none⟩ (.slice A127_4 ((rd_T177 ((rd_T122 l0 x11_1).f4) x42_2).f2).length c127_4)).setCell ⟨gb128, 5, none⟩ (.slice A127_5 ((rd_T177 ((rd_T122 l0 x11_1).f4) x42_2).f3).length c127_5)).setCell ⟨gb128, 6, none⟩ (.slice A127_6 ((rd_T177 ((rd_T122 l0 x11_1).f4) x42_2).f4).length c127_6)).setCell ⟨gb128, 7, none⟩ (.int .i64 ((rd_T177 ((rd_T122 l0 x11_1).f4) x42_2).f5.f0))).setCell ⟨gb128, 8, none⟩ (.string ((rd_T177 ((rd_T122 l0 x11_1).f4) x42_2).f5.f1.f0))).setCell ⟨gb128, 9, none⟩ (.int .i64 ((rd_T177 ((rd_T122 l0 x11_1).f4) x42_2).f5.f1.f1))).setCell ⟨gb128, 10, none⟩ (.int .i64 ((rd_T177 ((rd_T122 l0 x11_1).f4) x42_2).f5.f2))).setCell ⟨gb128, 11, none⟩ (.int .i64 ((rd_T177 ((rd_T122 l0 x11_1).f4) x42_2).f5.f3))).setCell ⟨gb128, 12, none⟩ (.int .i64 ((rd_T177 ((rd_T122 l0 x11_1).f4) x42_2).f5.f4))).setCell ⟨gb128, 13, none⟩ (.slice A127_13 ((rd_T177 ((rd_T122 l0 x11_1).f4) x42_2).f5.f5).length c127_13))) := ⟨by repeat (first | (with_reducible first | exact HB.out | apply below_alloc | apply pw_below_drewN | apply below_drew1 | refine below_set ?_ GE124.out | refine below_set ?_ GE128.out) | exact HB.out)⟩
                        (try clear BK124)
                        (try clear BK128)
                        (try clear HB)
                        generalize ((((((((((((((w26.setCell ⟨gb128, 0, none⟩ (.string ((rd_T177 ((rd_T122 l0 x11_1).f4) x42_2).f0.f0))).setCell ⟨gb128, 1, none⟩ (.int .i64 ((rd_T177 ((rd_T122 l0 x11_1).f4) x42_2).f0.f1))).setCell ⟨gb128, 2, none⟩ (.string ((rd_T177 ((rd_T122 l0 x11_1).f4) x42_2).f1.f0))).setCell ⟨gb128, 3, none⟩ (.int .i64 ((rd_T177 ((rd_T122 l0 x11_1).f4) x42_2).f1.f1))).setCell ⟨gb128, 4, none⟩ (.slice A127_4 ((rd_T177 ((rd_T122 l0 x11_1).f4) x42_2).f2).length c127_4)).setCell ⟨gb128, 5, none⟩ (.slice A127_5 ((rd_T177 ((rd_T122 l0 x11_1).f4) x42_2).f3).length c127_5)).setCell ⟨gb128, 6, none⟩ (.slice A127_6 ((rd_T177 ((rd_T122 l0 x11_1).f4) x42_2).f4).length c127_6)).setCell ⟨gb128, 7, none⟩ (.int .i64 ((rd_T177 ((rd_T122 l0 x11_1).f4) x42_2).f5.f0))).setCell ⟨gb128, 8, none⟩ (.string ((rd_T177 ((rd_T122 l0 x11_1).f4) x42_2).f5.f1.f0))).setCell ⟨gb128, 9, none⟩ (.int .i64 ((rd_T177 ((rd_T122 l0 x11_1).f4) x42_2).f5.f1.f1))).setCell ⟨gb128, 10, none⟩ (.int .i64 ((rd_T177 ((rd_T122 l0 x11_1).f4) x42_2).f5.f2))).setCell ⟨gb128, 11, none⟩ (.int .i64 ((rd_T177 ((rd_T122 l0 x11_1).f4) x42_2).f5.f3))).setCell ⟨gb128, 12, none⟩ (.int .i64 ((rd_T177 ((rd_T122 l0 x11_1).f4) x42_2).f5.f4))).setCell ⟨gb128, 13, none⟩ (.slice A127_13 ((rd_T177 ((rd_T122 l0 x11_1).f4) x42_2).f5.f5).length c127_13)) = w29 at n0_ n1_ n2_ ⊢
                        have BK124 := n0_
                        have BK128 := n1_
                        have HB := n2_
                        clear n0_ n1_ n2_
                        have n0_ := Aside0.mk (blk_drew BK124.out)
                        have n1_ := Aside0.mk (blk_drew BK128.out)
                        have n2_ := Aside0.mk (below_drew1 HB.out)
                        clear BK124
                        clear BK128
                        clear HB
                        have BK124 := n0_
                        have BK128 := n1_
                        have HB := n2_
                        clear n0_ n1_ n2_
                        refine start_ (n := 26) (S := fun w' => w'.cell? ⟨gb128, 0, none⟩ = some (.string ((rd_T177 ((rd_T122 l0 x11_1).f4) x42_2).f0.f0)) ∧ w'.cell? ⟨gb128, 1, none⟩ = some (.int .i64 ((rd_T177 ((rd_T122 l0 x11_1).f4) x42_2).f0.f1)) ∧ w'.cell? ⟨gb128, 2, none⟩ = some (.string ((rd_T177 ((rd_T122 l0 x11_1).f4) x42_2).f1.f0)) ∧ w'.cell? ⟨gb128, 3, none⟩ = some (.int .i64 ((rd_T177 ((rd_T122 l0 x11_1).f4) x42_2).f1.f1)) ∧ w'.cell? ⟨gb128, 4, none⟩ = some (.slice A127_4 ((rd_T177 ((rd_T122 l0 x11_1).f4) x42_2).f2).length c127_4) ∧ w'.cell? ⟨gb128, 5, none⟩ = some (.slice A127_5 ((rd_T177 ((rd_T122 l0 x11_1).f4) x42_2).f3).length c127_5) ∧ w'.cell? ⟨gb128, 6, none⟩ = some (.slice A127_6 ((rd_T177 ((rd_T122 l0 x11_1).f4) x42_2).f4).length c127_6) ∧ w'.cell? ⟨gb128, 7, none⟩ = some (.int .i64 ((rd_T177 ((rd_T122 l0 x11_1).f4) x42_2).f5.f0)) ∧ w'.cell? ⟨gb128, 8, none⟩ = some (.string ((rd_T177 ((rd_T122 l0 x11_1).f4) x42_2).f5.f1.f0)) ∧ w'.cell? ⟨gb128, 9, none⟩ = some (.int .i64 ((rd_T177 ((rd_T122 l0 x11_1).f4) x42_2).f5.f1.f1)) ∧ w'.cell? ⟨gb128, 10, none⟩ = some (.int .i64 ((rd_T177 ((rd_T122 l0 x11_1).f4) x42_2).f5.f2)) ∧ w'.cell? ⟨gb128, 11, none⟩ = some (.int .i64 ((rd_T177 ((rd_T122 l0 x11_1).f4) x42_2).f5.f3)) ∧ w'.cell? ⟨gb128, 12, none⟩ = some (.int .i64 ((rd_T177 ((rd_T122 l0 x11_1).f4) x42_2).f5.f4)) ∧ w'.cell? ⟨gb128, 13, none⟩ = some (.slice A127_13 ((rd_T177 ((rd_T122 l0 x11_1).f4) x42_2).f5.f5).length c127_13)) (ds := []) #[false, false, false, false, false, false, false, false, false, false, false, false, false, false, false, false, false, false, false, false, false, false, false, false, false, false] (by kernel_rfl) rfl rfl ⟨(blk_cell BK128.out 0).trans rfl, (blk_cell BK128.out 1).trans rfl, (blk_cell BK128.out 2).trans rfl, (blk_cell BK128.out 3).trans rfl, (blk_cell BK128.out 4).trans rfl, (blk_cell BK128.out 5).trans rfl, (blk_cell BK128.out 6).trans rfl, (blk_cell BK128.out 7).trans rfl, (blk_cell BK128.out 8).trans rfl, (blk_cell BK128.out 9).trans rfl, (blk_cell BK128.out 10).trans rfl, (blk_cell BK128.out 11).trans rfl, (blk_cell BK128.out 12).trans rfl, (blk_cell BK128.out 13).trans rfl⟩ (fun hHeld => ?_); refine with_tabW namesakelaw13_Size.tab10 namesakelaw13_Size.bits10 (fun HT_ HW_ => ?_)
                        generalize w29.drew = w30 at BK124 BK128 HB hHeld ⊢
                        refine pure_ (i := 0) (N := some 48) (v := ?_) (a' := ?_) #[true, false, false, false, false, false, false, false, false, false, false, false, false, false, false, false, false, false, false, false, false, false, false, false, false, false] rfl rfl (any_of HT_.out (by kernel_rfl)) (fun _ _ _ h => h) (Or.inl ⟨by rfl, ?_⟩) ?_ ?_
                        rotate_left
                        · intro w'
                          go_simp
                          with_reducible rfl
                        rotate_left
                        · simp only [Act.put, List.setIfInBounds_toArray, List.set_cons_zero, List.set_cons_succ, i64_w, i32_w]
                          rfl
                        refine pure_ (i := 2) (N := some 50) (v := ?_) (a' := ?_) #[true, false, true, false, false, false, false, false, false, false, false, false, false, false, false, false, false, false, false, false, false, false, false, false, false, false] rfl rfl (any_of HT_.out (by kernel_rfl)) (fun _ _ _ h => h) (Or.inl ⟨by rfl, ?_⟩) ?_ ?_
                        rotate_left
                        · intro w'
                          go_simp
                          with_reducible rfl
                        rotate_left
                        · simp only [Act.put, List.setIfInBounds_toArray, List.set_cons_zero, List.set_cons_succ, i64_w, i32_w]
                          rfl
                        refine pure_ (i := 4) (N := some 52) (v := ?_) (a' := ?_) #[true, false, true, false, true, false, false, false, false, false, false, false, false, false, false, false, false, false, false, false, false, false, false, false, false, false] rfl rfl (any_of HT_.out (by kernel_rfl)) (fun _ _ _ h => h) (Or.inl ⟨by rfl, ?_⟩) ?_ ?_
                        rotate_left
                        · intro w'
                          go_simp
                          with_reducible rfl
                        rotate_left
                        · simp only [Act.put, List.setIfInBounds_toArray, List.set_cons_zero, List.set_cons_succ, i64_w, i32_w]
                          rfl
                        refine pure_ (i := 6) (N := some 54) (v := ?_) (a' := ?_) #[true, false, true, false, true, false, true, false, false, false, false, false, false, false, false, false, false, false, false, false, false, false, false, false, false, false] rfl rfl (any_of HT_.out (by kernel_rfl)) (fun _ _ _ h => h) (Or.inl ⟨by rfl, ?_⟩) ?_ ?_
                        rotate_left
                        · intro w'
                          go_simp
                          with_reducible rfl
                        rotate_left
                        · simp only [Act.put, List.setIfInBounds_toArray, List.set_cons_zero, List.set_cons_succ, i64_w, i32_w]
                          rfl
                        refine pure_ (i := 8) (N := some 56) (v := ?_) (a' := ?_) #[true, false, true, false, true, false, true, false, true, false, false, false, false, false, false, false, false, false, false, false, false, false, false, false, false, false] rfl rfl (any_of HT_.out (by kernel_rfl)) (fun _ _ _ h => h) (Or.inl ⟨by rfl, ?_⟩) ?_ ?_
                        rotate_left
                        · intro w'
                          go_simp
                          with_reducible rfl
                        rotate_left
                        · simp only [Act.put, List.setIfInBounds_toArray, List.set_cons_zero, List.set_cons_succ, i64_w, i32_w]
                          rfl
                        refine pure_ (i := 9) (N := some 57) (v := ?_) (a' := ?_) #[true, false, true, false, true, false, true, false, true, true, false, false, false, false, false, false, false, false, false, false, false, false, false, false, false, false] rfl rfl (any_of HT_.out (by kernel_rfl)) (fun _ _ _ h => h) (Or.inl ⟨by rfl, ?_⟩) ?_ ?_
                        rotate_left
                        · intro w'
                          go_simp
                          with_reducible rfl
                        rotate_left
                        · simp only [Act.put, List.setIfInBounds_toArray, List.set_cons_zero, List.set_cons_succ, i64_w, i32_w]
                          rfl
                        refine pure_ (i := 10) (N := some 58) (v := ?_) (a' := ?_) #[true, false, true, false, true, false, true, false, true, true, true, false, false, false, false, false, false, false, false, false, false, false, false, false, false, false] rfl rfl (any_of HT_.out (by kernel_rfl)) (fun _ _ _ h => h) (Or.inl ⟨by rfl, ?_⟩) ?_ ?_
                        rotate_left
                        · intro w'
                          go_simp
                          with_reducible rfl
                        rotate_left
                        · simp only [Act.put, List.setIfInBounds_toArray, List.set_cons_zero, List.set_cons_succ, i64_w, i32_w]
                          rfl
                        refine pure_ (i := 11) (N := some 59) (v := ?_) (a' := ?_) #[true, false, true, false, true, false, true, false, true, true, true, true, false, false, false, false, false, false, false, false, false, false, false, false, false, false] rfl rfl (any_of HT_.out (by kernel_rfl)) (fun _ _ _ h => h) (Or.inl ⟨by rfl, ?_⟩) ?_ ?_
                        rotate_left
                        · intro w'
                          go_simp
                          with_reducible rfl
                        rotate_left
                        · simp only [Act.put, List.setIfInBounds_toArray, List.set_cons_zero, List.set_cons_succ, i64_w, i32_w]
                          rfl
                        refine pure_ (i := 14) (N := some 62) (v := ?_) (a' := ?_) #[true, false, true, false, true, false, true, false, true, true, true, true, false, false, true, false, false, false, false, false, false, false, false, false, false, false] rfl rfl (any_of HT_.out (by kernel_rfl)) (fun _ _ _ h => h) (Or.inl ⟨by rfl, ?_⟩) ?_ ?_
                        rotate_left
                        · intro w'
                          go_simp
                          with_reducible rfl
                        rotate_left
                        · simp only [Act.put, List.setIfInBounds_toArray, List.set_cons_zero, List.set_cons_succ, i64_w, i32_w]
                          rfl
                        refine pure_ (i := 15) (N := some 63) (v := ?_) (a' := ?_) #[true, false, true, false, true, false, true, false, true, true, true, true, false, false, true, true, false, false, false, false, false, false, false, false, false, false] rfl rfl (any_of HT_.out (by kernel_rfl)) (fun _ _ _ h => h) (Or.inl ⟨by rfl, ?_⟩) ?_ ?_
                        rotate_left
                        · intro w'
                          go_simp
                          with_reducible rfl
                        rotate_left
                        · simp only [Act.put, List.setIfInBounds_toArray, List.set_cons_zero, List.set_cons_succ, i64_w, i32_w]
                          rfl
                        refine take_ (i := 1) (N := some 49) (v := ?_) (a' := ?_) #[true, true, true, false, true, false, true, false, true, true, true, true, false, false, true, true, false, false, false, false, false, false, false, false, false, false] rfl rfl (take_ofW HT_.out HW_.out (by kernel_rfl)) (fun _ _ _ h => h) (Or.inl ⟨by rfl, ?_⟩) hHeld ?_ ?_
                        rotate_left
                        · rintro w' ⟨s0, s1, s2, s3, s4, s5, s6, s7, s8, s9, s10, s11, s12, s13⟩
                          go_simp
                          with_reducible rfl
                        rotate_left
                        · simp only [Act.put, List.setIfInBounds_toArray, List.set_cons_zero, List.set_cons_succ, i64_w, i32_w]
                          rfl
                        refine take_ (i := 3) (N := some 51) (v := ?_) (a' := ?_) #[true, true, true, true, true, false, true, false, true, true, true, true, false, false, true, true, false, false, false, false, false, false, false, false, false, false] rfl rfl (take_ofW HT_.out HW_.out (by kernel_rfl)) (fun _ _ _ h => h) (Or.inl ⟨by rfl, ?_⟩) hHeld ?_ ?_
                        rotate_left
                        · rintro w' ⟨s0, s1, s2, s3, s4, s5, s6, s7, s8, s9, s10, s11, s12, s13⟩
                          go_simp
                          with_reducible rfl
                        rotate_left
                        · simp only [Act.put, List.setIfInBounds_toArray, List.set_cons_zero, List.set_cons_succ, i64_w, i32_w]
                          rfl
                        refine take_ (i := 5) (N := some 53) (v := ?_) (a' := ?_) #[true, true, true, true, true, true, true, false, true, true, true, true, false, false, true, true, false, false, false, false, false, false, false, false, false, false] rfl rfl (take_ofW HT_.out HW_.out (by kernel_rfl)) (fun _ _ _ h => h) (Or.inl ⟨by rfl, ?_⟩) hHeld ?_ ?_
                        rotate_left
                        · rintro w' ⟨s0, s1, s2, s3, s4, s5, s6, s7, s8, s9, s10, s11, s12, s13⟩
                          go_simp
                          with_reducible rfl
                        rotate_left
                        · simp only [Act.put, List.setIfInBounds_toArray, List.set_cons_zero, List.set_cons_succ, i64_w, i32_w]
                          rfl
                        refine take_ (i := 7) (N := some 55) (v := ?_) (a' := ?_) #[true, true, true, true, true, true, true, true, true, true, true, true, false, false, true, true, false, false, false, false, false, false, false, false, false, false] rfl rfl (take_ofW HT_.out HW_.out (by kernel_rfl)) (fun _ _ _ h => h) (Or.inl ⟨by rfl, ?_⟩) hHeld ?_ ?_
                        rotate_left
                        · rintro w' ⟨s0, s1, s2, s3, s4, s5, s6, s7, s8, s9, s10, s11, s12, s13⟩
                          go_simp
                          with_reducible rfl
                        rotate_left
                        · simp only [Act.put, List.setIfInBounds_toArray, List.set_cons_zero, List.set_cons_succ, i64_w, i32_w]
                          rfl
                        refine take_ (i := 12) (N := some 60) (v := ?_) (a' := ?_) #[true, true, true, true, true, true, true, true, true, true, true, true, true, false, true, true, false, false, false, false, false, false, false, false, false, false] rfl rfl (take_ofW HT_.out HW_.out (by kernel_rfl)) (fun _ _ _ h => h) (Or.inl ⟨by rfl, ?_⟩) hHeld ?_ ?_
                        rotate_left
                        · rintro w' ⟨s0, s1, s2, s3, s4, s5, s6, s7, s8, s9, s10, s11, s12, s13⟩
                          go_simp
                          with_reducible rfl
                        rotate_left
                        · simp only [Act.put, List.setIfInBounds_toArray, List.set_cons_zero, List.set_cons_succ, i64_w, i32_w]
                          rfl
                        refine pure_ (i := 13) (N := some 61) (v := ?_) (a' := ?_) #[true, true, true, true, true, true, true, true, true, true, true, true, true, true, true, true, false, false, false, false, false, false, false, false, false, false] rfl rfl (any_of HT_.out (by kernel_rfl)) (fun _ _ _ h => h) (Or.inl ⟨by rfl, ?_⟩) ?_ ?_
                        rotate_left
                        · intro w'
                          go_simp
                          with_reducible rfl
                        rotate_left
                        · simp only [Act.put, List.setIfInBounds_toArray, List.set_cons_zero, List.set_cons_succ, i64_w, i32_w]
                          rfl
                        refine take_ (i := 16) (N := some 64) (v := ?_) (a' := ?_) #[true, true, true, true, true, true, true, true, true, true, true, true, true, true, true, true, true, false, false, false, false, false, false, false, false, false] rfl rfl (take_ofW HT_.out HW_.out (by kernel_rfl)) (fun _ _ _ h => h) (Or.inl ⟨by rfl, ?_⟩) hHeld ?_ ?_
                        rotate_left
                        · rintro w' ⟨s0, s1, s2, s3, s4, s5, s6, s7, s8, s9, s10, s11, s12, s13⟩
                          go_simp
                          with_reducible rfl
                        rotate_left
                        · simp only [Act.put, List.setIfInBounds_toArray, List.set_cons_zero, List.set_cons_succ, i64_w, i32_w]
                          rfl
                        refine pure_ (i := 17) (N := some 65) (v := ?_) (a' := ?_) #[true, true, true, true, true, true, true, true, true, true, true, true, true, true, true, true, true, true, false, false, false, false, false, false, false, false] rfl rfl (any_of HT_.out (by kernel_rfl)) (fun _ _ _ h => h) (Or.inl ⟨by rfl, ?_⟩) ?_ ?_
                        rotate_left
                        · intro w'
                          go_simp
                          with_reducible rfl
                        rotate_left
                        · simp only [Act.put, List.setIfInBounds_toArray, List.set_cons_zero, List.set_cons_succ, i64_w, i32_w]
                          rfl
                        refine pure_ (i := 18) (N := some 66) (v := ?_) (a' := ?_) #[true, true, true, true, true, true, true, true, true, true, true, true, true, true, true, true, true, true, true, false, false, false, false, false, false, false] rfl rfl (any_of HT_.out (by kernel_rfl)) (fun _ _ _ h => h) (Or.inl ⟨by rfl, ?_⟩) ?_ ?_
                        rotate_left
                        · intro w'
                          go_simp
                          with_reducible rfl
                        rotate_left
                        · simp only [Act.put, List.setIfInBounds_toArray, List.set_cons_zero, List.set_cons_succ, i64_w, i32_w]
                          rfl
                        refine pure_ (i := 19) (N := some 67) (v := ?_) (a' := ?_) #[true, true, true, true, true, true, true, true, true, true, true, true, true, true, true, true, true, true, true, true, false, false, false, false, false, false] rfl rfl (any_of HT_.out (by kernel_rfl)) (fun _ _ _ h => h) (Or.inl ⟨by rfl, ?_⟩) ?_ ?_
                        rotate_left
                        · intro w'
                          go_simp
                          with_reducible rfl
                        rotate_left
                        · simp only [Act.put, List.setIfInBounds_toArray, List.set_cons_zero, List.set_cons_succ, i64_w, i32_w]
                          rfl
                        refine pure_ (i := 20) (N := some 68) (v := ?_) (a' := ?_) #[true, true, true, true, true, true, true, true, true, true, true, true, true, true, true, true, true, true, true, true, true, false, false, false, false, false] rfl rfl (any_of HT_.out (by kernel_rfl)) (fun _ _ _ h => h) (Or.inl ⟨by rfl, ?_⟩) ?_ ?_
                        rotate_left
                        · intro w'
                          go_simp
                          with_reducible rfl
                        rotate_left
                        · simp only [Act.put, List.setIfInBounds_toArray, List.set_cons_zero, List.set_cons_succ, i64_w, i32_w]
                          rfl
                        refine one_ (i := 21) (N := some 69) #[true, true, true, true, true, true, true, true, true, true, true, true, true, true, true, true, true, true, true, true, true, true, false, false, false, false] rfl rfl (one_of HT_.out (by kernel_rfl)) (by decide) (fun K hK => ?_)
                        refine goes_ Try.func82 (by kernel_rfl) rfl #[.slice A127_4 ((rd_T177 ((rd_T122 l0 x11_1).f4) x42_2).f2).length c127_4, .int .i64 (wrap64 ((wrap64 (x1_2 - 1)) - (wrap64 (Int.tdiv (wrap64 ((((rd_T177 ((rd_T122 l0 x11_1).f4) x42_2).f0.f0).size : Int) + (((rd_T177 ((rd_T122 l0 x11_1).f4) x42_2).f1.f0).size : Int))) 50))))] (by rfl) rfl rfl (by (try simp only [List.map_toArray, List.map_cons, List.map_nil]); first | done | rfl | (simp only [List.length_drop, List.length_take]; rfl)) ?_
                        with_reducible refine (namesakelaw13_vars.calls k2 _ _ ((rd_T177 ((rd_T122 l0 x11_1).f4) x42_2).f2) (wrap64 ((wrap64 (x1_2 - 1)) - (wrap64 (Int.tdiv (wrap64 ((((rd_T177 ((rd_T122 l0 x11_1).f4) x42_2).f0.f0).size : Int) + (((rd_T177 ((rd_T122 l0 x11_1).f4) x42_2).f1.f0).size : Int))) 50)))) t129 _ ?side1 ?side2 A22.out).mono ?_
                        (case side1 => repeat (first | exact (Kd.C_below HR127_4.out HB.out) | (with_reducible refine Kd.C_alloc ?_ _) | (with_reducible refine Kd.C_drewN ?_ _) | (with_reducible refine Kd.C_drew ?_)))
                        (case side2 => exact HC127_4.out)
                        rintro e w31 ⟨rfl, hb⟩
                        refine ⟨_, rfl, ?_⟩
                        have n0_ := Aside0.mk (blk_below (g := gb124) (o := .cells #[.bool ((rd_T122 l0 x11_1).f0), .string ((rd_T122 l0 x11_1).f1.f0), .int .i64 ((rd_T122 l0 x11_1).f1.f1), .string ((rd_T122 l0 x11_1).f2.f0), .int .i64 ((rd_T122 l0 x11_1).f2.f1), .slice A123_5 ((rd_T122 l0 x11_1).f3).length c123_5, .slice (some ad127) ((rd_T122 l0 x11_1).f4).length c123_6, .string ((rd_T122 l0 x11_1).f5.f0), .int .i64 ((rd_T122 l0 x11_1).f5.f1), .slice A123_9 ((rd_T122 l0 x11_1).f6).length c123_9] 122 (0, 0)) (by (with_reducible repeat (first | refine blk_drewN ?_ _ | refine blk_drew ?_ | refine blk_alloc ?_ _)); exact BK124.out) hb)
                        have n1_ := Aside0.mk (blk_below (g := gb128) (o := .cells #[.string ((rd_T177 ((rd_T122 l0 x11_1).f4) x42_2).f0.f0), .int .i64 ((rd_T177 ((rd_T122 l0 x11_1).f4) x42_2).f0.f1), .string ((rd_T177 ((rd_T122 l0 x11_1).f4) x42_2).f1.f0), .int .i64 ((rd_T177 ((rd_T122 l0 x11_1).f4) x42_2).f1.f1), .slice A127_4 ((rd_T177 ((rd_T122 l0 x11_1).f4) x42_2).f2).length c127_4, .slice A127_5 ((rd_T177 ((rd_T122 l0 x11_1).f4) x42_2).f3).length c127_5, .slice A127_6 ((rd_T177 ((rd_T122 l0 x11_1).f4) x42_2).f4).length c127_6, .int .i64 ((rd_T177 ((rd_T122 l0 x11_1).f4) x42_2).f5.f0), .string ((rd_T177 ((rd_T122 l0 x11_1).f4) x42_2).f5.f1.f0), .int .i64 ((rd_T177 ((rd_T122 l0 x11_1).f4) x42_2).f5.f1.f1), .int .i64 ((rd_T177 ((rd_T122 l0 x11_1).f4) x42_2).f5.f2), .int .i64 ((rd_T177 ((rd_T122 l0 x11_1).f4) x42_2).f5.f3), .int .i64 ((rd_T177 ((rd_T122 l0 x11_1).f4) x42_2).f5.f4), .slice A127_13 ((rd_T177 ((rd_T122 l0 x11_1).f4) x42_2).f5.f5).length c127_13] 177 (0, 0)) (by (with_reducible repeat (first | refine blk_drewN ?_ _ | refine blk_drew ?_ | refine blk_alloc ?_ _)); exact BK128.out) hb)
                        have n2_ := Aside0.mk (below_step (by repeat (first | (with_reducible first | exact HB.out | apply below_alloc | apply pw_below_drewN | apply below_drew1 | refine below_set ?_ GE124.out | refine below_set ?_ GE128.out) | exact HB.out)) hb)
                        clear BK124
                        clear BK128
                        clear HB
                        have BK124 := n0_
                        have BK128 := n1_
                        have HB := n2_
                        clear n0_ n1_ n2_
                        (try clear hb)
                        (try clear hb2)
                        (try clear hk)
                        (try clear hi)
                        refine hK.out _ _ ⟨(blk_cell BK128.out 0).trans rfl, (blk_cell BK128.out 1).trans rfl, (blk_cell BK128.out 2).trans rfl, (blk_cell BK128.out 3).trans rfl, (blk_cell BK128.out 4).trans rfl, (blk_cell BK128.out 5).trans rfl, (blk_cell BK128.out 6).trans rfl, (blk_cell BK128.out 7).trans rfl, (blk_cell BK128.out 8).trans rfl, (blk_cell BK128.out 9).trans rfl, (blk_cell BK128.out 10).trans rfl, (blk_cell BK128.out 11).trans rfl, (blk_cell BK128.out 12).trans rfl, (blk_cell BK128.out 13).trans rfl⟩ (fun hHeld => ?_)
                        clear hK K
                        refine norm_ (a' := ?_) ?_ ?_
                        rotate_left
                        · show Act.put _ (some 69) _ = _
                          simp only [Act.put, List.setIfInBounds_toArray, List.set_cons_zero, List.set_cons_succ, i64_w, i32_w]
                          rfl
                        refine one_ (i := 22) (N := some 70) #[true, true, true, true, true, true, true, true, true, true, true, true, true, true, true, true, true, true, true, true, true, true, true, false, false, false] rfl rfl (one_of HT_.out (by kernel_rfl)) (by decide) (fun K hK => ?_)
                        refine goes_ Try.func82 (by kernel_rfl) rfl #[.slice A127_5 ((rd_T177 ((rd_T122 l0 x11_1).f4) x42_2).f3).length c127_5, .int .i64 t129] (by rfl) rfl rfl (by (try simp only [List.map_toArray, List.map_cons, List.map_nil]); first | done | rfl | (simp only [List.length_drop, List.length_take]; rfl)) ?_
                        with_reducible refine (namesakelaw13_vars.calls k2 _ _ ((rd_T177 ((rd_T122 l0 x11_1).f4) x42_2).f3) t129 t130 _ ?side1 ?side2 A23.out).mono ?_
                        (case side1 => repeat (first | exact (Kd.C_below HR127_5.out HB.out) | (with_reducible refine Kd.C_alloc ?_ _) | (with_reducible refine Kd.C_drewN ?_ _) | (with_reducible refine Kd.C_drew ?_)))
                        (case side2 => exact HC127_5.out)
                        rintro e w32 ⟨rfl, hb⟩
                        refine ⟨_, rfl, ?_⟩
                        have n0_ := Aside0.mk (blk_below (g := gb124) (o := .cells #[.bool ((rd_T122 l0 x11_1).f0), .string ((rd_T122 l0 x11_1).f1.f0), .int .i64 ((rd_T122 l0 x11_1).f1.f1), .string ((rd_T122 l0 x11_1).f2.f0), .int .i64 ((rd_T122 l0 x11_1).f2.f1), .slice A123_5 ((rd_T122 l0 x11_1).f3).length c123_5, .slice (some ad127) ((rd_T122 l0 x11_1).f4).length c123_6, .string ((rd_T122 l0 x11_1).f5.f0), .int .i64 ((rd_T122 l0 x11_1).f5.f1), .slice A123_9 ((rd_T122 l0 x11_1).f6).length c123_9] 122 (0, 0)) (by (with_reducible repeat (first | refine blk_drewN ?_ _ | refine blk_drew ?_ | refine blk_alloc ?_ _)); exact BK124.out) hb)
                        have n1_ := Aside0.mk (blk_below (g := gb128) (o := .cells #[.string ((rd_T177 ((rd_T122 l0 x11_1).f4) x42_2).f0.f0), .int .i64 ((rd_T177 ((rd_T122 l0 x11_1).f4) x42_2).f0.f1), .string ((rd_T177 ((rd_T122 l0 x11_1).f4) x42_2).f1.f0), .int .i64 ((rd_T177 ((rd_T122 l0 x11_1).f4) x42_2).f1.f1), .slice A127_4 ((rd_T177 ((rd_T122 l0 x11_1).f4) x42_2).f2).length c127_4, .slice A127_5 ((rd_T177 ((rd_T122 l0 x11_1).f4) x42_2).f3).length c127_5, .slice A127_6 ((rd_T177 ((rd_T122 l0 x11_1).f4) x42_2).f4).length c127_6, .int .i64 ((rd_T177 ((rd_T122 l0 x11_1).f4) x42_2).f5.f0), .string ((rd_T177 ((rd_T122 l0 x11_1).f4) x42_2).f5.f1.f0), .int .i64 ((rd_T177 ((rd_T122 l0 x11_1).f4) x42_2).f5.f1.f1), .int .i64 ((rd_T177 ((rd_T122 l0 x11_1).f4) x42_2).f5.f2), .int .i64 ((rd_T177 ((rd_T122 l0 x11_1).f4) x42_2).f5.f3), .int .i64 ((rd_T177 ((rd_T122 l0 x11_1).f4) x42_2).f5.f4), .slice A127_13 ((rd_T177 ((rd_T122 l0 x11_1).f4) x42_2).f5.f5).length c127_13] 177 (0, 0)) (by (with_reducible repeat (first | refine blk_drewN ?_ _ | refine blk_drew ?_ | refine blk_alloc ?_ _)); exact BK128.out) hb)
                        have n2_ := Aside0.mk (below_step (by repeat (first | (with_reducible first | exact HB.out | apply below_alloc | apply pw_below_drewN | apply below_drew1 | refine below_set ?_ GE124.out | refine below_set ?_ GE128.out) | exact HB.out)) hb)
                        clear BK124
                        clear BK128
                        clear HB
                        have BK124 := n0_
                        have BK128 := n1_
                        have HB := n2_
                        clear n0_ n1_ n2_
                        (try clear hb)
                        (try clear hb2)
                        (try clear hk)
                        (try clear hi)
                        refine hK.out _ _ ⟨(blk_cell BK128.out 0).trans rfl, (blk_cell BK128.out 1).trans rfl, (blk_cell BK128.out 2).trans rfl, (blk_cell BK128.out 3).trans rfl, (blk_cell BK128.out 4).trans rfl, (blk_cell BK128.out 5).trans rfl, (blk_cell BK128.out 6).trans rfl, (blk_cell BK128.out 7).trans rfl, (blk_cell BK128.out 8).trans rfl, (blk_cell BK128.out 9).trans rfl, (blk_cell BK128.out 10).trans rfl, (blk_cell BK128.out 11).trans rfl, (blk_cell BK128.out 12).trans rfl, (blk_cell BK128.out 13).trans rfl⟩ (fun hHeld => ?_)
                        clear hK K
                        refine norm_ (a' := ?_) ?_ ?_
                        rotate_left
                        · show Act.put _ (some 70) _ = _
                          simp only [Act.put, List.setIfInBounds_toArray, List.set_cons_zero, List.set_cons_succ, i64_w, i32_w]
                          rfl
                        refine one_ (i := 23) (N := some 71) #[true, true, true, true, true, true, true, true, true, true, true, true, true, true, true, true, true, true, true, true, true, true, true, true, false, false] rfl rfl (one_of HT_.out (by kernel_rfl)) (by decide) (fun K hK => ?_)
                        refine goes_ Try.func81 (by kernel_rfl) rfl #[.slice A127_6 ((rd_T177 ((rd_T122 l0 x11_1).f4) x42_2).f4).length c127_6, .int .i64 t130] (by rfl) rfl rfl (by (try simp only [List.map_toArray, List.map_cons, List.map_nil]); first | done | rfl | (simp only [List.length_drop, List.length_take]; rfl)) ?_
                        with_reducible refine (namesakelaw13_stmts.calls k2 _ _ ((rd_T177 ((rd_T122 l0 x11_1).f4) x42_2).f4) t130 t131 _ ?side1 ?side2 A24.out).mono ?_
                        (case side1 => repeat (first | exact (Kd.C_below HR127_6.out HB.out) | (with_reducible refine Kd.C_alloc ?_ _) | (with_reducible refine Kd.C_drewN ?_ _) | (with_reducible refine Kd.C_drew ?_)))
                        (case side2 => exact HC127_6.out)
                        rintro e w33 ⟨rfl, hb⟩
                        refine ⟨_, rfl, ?_⟩
                        have n0_ := Aside0.mk (blk_below (g := gb124) (o := .cells #[.bool ((rd_T122 l0 x11_1).f0), .string ((rd_T122 l0 x11_1).f1.f0), .int .i64 ((rd_T122 l0 x11_1).f1.f1), .string ((rd_T122 l0 x11_1).f2.f0), .int .i64 ((rd_T122 l0 x11_1).f2.f1), .slice A123_5 ((rd_T122 l0 x11_1).f3).length c123_5, .slice (some ad127) ((rd_T122 l0 x11_1).f4).length c123_6, .string ((rd_T122 l0 x11_1).f5.f0), .int .i64 ((rd_T122 l0 x11_1).f5.f1), .slice A123_9 ((rd_T122 l0 x11_1).f6).length c123_9] 122 (0, 0)) (by (with_reducible repeat (first | refine blk_drewN ?_ _ | refine blk_drew ?_ | refine blk_alloc ?_ _)); exact BK124.out) hb)
                        have n1_ := Aside0.mk (blk_below (g := gb128) (o := .cells #[.string ((rd_T177 ((rd_T122 l0 x11_1).f4) x42_2).f0.f0), .int .i64 ((rd_T177 ((rd_T122 l0 x11_1).f4) x42_2).f0.f1), .string ((rd_T177 ((rd_T122 l0 x11_1).f4) x42_2).f1.f0), .int .i64 ((rd_T177 ((rd_T122 l0 x11_1).f4) x42_2).f1.f1), .slice A127_4 ((rd_T177 ((rd_T122 l0 x11_1).f4) x42_2).f2).length c127_4, .slice A127_5 ((rd_T177 ((rd_T122 l0 x11_1).f4) x42_2).f3).length c127_5, .slice A127_6 ((rd_T177 ((rd_T122 l0 x11_1).f4) x42_2).f4).length c127_6, .int .i64 ((rd_T177 ((rd_T122 l0 x11_1).f4) x42_2).f5.f0), .string ((rd_T177 ((rd_T122 l0 x11_1).f4) x42_2).f5.f1.f0), .int .i64 ((rd_T177 ((rd_T122 l0 x11_1).f4) x42_2).f5.f1.f1), .int .i64 ((rd_T177 ((rd_T122 l0 x11_1).f4) x42_2).f5.f2), .int .i64 ((rd_T177 ((rd_T122 l0 x11_1).f4) x42_2).f5.f3), .int .i64 ((rd_T177 ((rd_T122 l0 x11_1).f4) x42_2).f5.f4), .slice A127_13 ((rd_T177 ((rd_T122 l0 x11_1).f4) x42_2).f5.f5).length c127_13] 177 (0, 0)) (by (with_reducible repeat (first | refine blk_drewN ?_ _ | refine blk_drew ?_ | refine blk_alloc ?_ _)); exact BK128.out) hb)
                        have n2_ := Aside0.mk (below_step (by repeat (first | (with_reducible first | exact HB.out | apply below_alloc | apply pw_below_drewN | apply below_drew1 | refine below_set ?_ GE124.out | refine below_set ?_ GE128.out) | exact HB.out)) hb)
                        clear BK124
                        clear BK128
                        clear HB
                        have BK124 := n0_
                        have BK128 := n1_
                        have HB := n2_
                        clear n0_ n1_ n2_
                        (try clear hb)
                        (try clear hb2)
                        (try clear hk)
                        (try clear hi)
                        refine hK.out _ _ ⟨(blk_cell BK128.out 0).trans rfl, (blk_cell BK128.out 1).trans rfl, (blk_cell BK128.out 2).trans rfl, (blk_cell BK128.out 3).trans rfl, (blk_cell BK128.out 4).trans rfl, (blk_cell BK128.out 5).trans rfl, (blk_cell BK128.out 6).trans rfl, (blk_cell BK128.out 7).trans rfl, (blk_cell BK128.out 8).trans rfl, (blk_cell BK128.out 9).trans rfl, (blk_cell BK128.out 10).trans rfl, (blk_cell BK128.out 11).trans rfl, (blk_cell BK128.out 12).trans rfl, (blk_cell BK128.out 13).trans rfl⟩ (fun hHeld => ?_)
                        clear hK K
                        refine norm_ (a' := ?_) ?_ ?_
                        rotate_left
                        · show Act.put _ (some 71) _ = _
                          simp only [Act.put, List.setIfInBounds_toArray, List.set_cons_zero, List.set_cons_succ, i64_w, i32_w]
                          rfl
                        refine one_ (i := 24) (N := some 72) #[true, true, true, true, true, true, true, true, true, true, true, true, true, true, true, true, true, true, true, true, true, true, true, true, true, false] rfl rfl (one_of HT_.out (by kernel_rfl)) (by decide) (fun K hK => ?_)
                        refine goes_ Try.func83 (by kernel_rfl) rfl #[.agg #[.int .i64 ((rd_T177 ((rd_T122 l0 x11_1).f4) x42_2).f5.f0), .string ((rd_T177 ((rd_T122 l0 x11_1).f4) x42_2).f5.f1.f0), .int .i64 ((rd_T177 ((rd_T122 l0 x11_1).f4) x42_2).f5.f1.f1), .int .i64 ((rd_T177 ((rd_T122 l0 x11_1).f4) x42_2).f5.f2), .int .i64 ((rd_T177 ((rd_T122 l0 x11_1).f4) x42_2).f5.f3), .int .i64 ((rd_T177 ((rd_T122 l0 x11_1).f4) x42_2).f5.f4), .slice A127_13 ((rd_T177 ((rd_T122 l0 x11_1).f4) x42_2).f5.f5).length c127_13], .int .i64 t131] (by rfl) rfl rfl (by (try simp only [List.map_toArray, List.map_cons, List.map_nil]); first | done | rfl | (simp only [List.length_drop, List.length_take]; rfl)) ?_
                        with_reducible refine (namesakelaw13_exp.calls k2 ((rd_T177 ((rd_T122 l0 x11_1).f4) x42_2).f5.f0) ((rd_T177 ((rd_T122 l0 x11_1).f4) x42_2).f5.f1.f0) ((rd_T177 ((rd_T122 l0 x11_1).f4) x42_2).f5.f1.f1) ((rd_T177 ((rd_T122 l0 x11_1).f4) x42_2).f5.f2) ((rd_T177 ((rd_T122 l0 x11_1).f4) x42_2).f5.f3) ((rd_T177 ((rd_T122 l0 x11_1).f4) x42_2).f5.f4) _ _ ((rd_T177 ((rd_T122 l0 x11_1).f4) x42_2).f5.f5) t131 t132 _ ?side1 ?side2 A25.out).mono ?_
                        (case side1 => repeat (first | exact (Kd.C_below HR127_13.out HB.out) | (with_reducible refine Kd.C_alloc ?_ _) | (with_reducible refine Kd.C_drewN ?_ _) | (with_reducible refine Kd.C_drew ?_)))
                        (case side2 => exact HC127_13.out)
                        rintro e w34 ⟨rfl, hb⟩
                        refine ⟨_, rfl, ?_⟩
                        have n0_ := Aside0.mk (blk_below (g := gb124) (o := .cells #[.bool ((rd_T122 l0 x11_1).f0), .string ((rd_T122 l0 x11_1).f1.f0), .int .i64 ((rd_T122 l0 x11_1).f1.f1), .string ((rd_T122 l0 x11_1).f2.f0), .int .i64 ((rd_T122 l0 x11_1).f2.f1), .slice A123_5 ((rd_T122 l0 x11_1).f3).length c123_5, .slice (some ad127) ((rd_T122 l0 x11_1).f4).length c123_6, .string ((rd_T122 l0 x11_1).f5.f0), .int .i64 ((rd_T122 l0 x11_1).f5.f1), .slice A123_9 ((rd_T122 l0 x11_1).f6).length c123_9] 122 (0, 0)) (by (with_reducible repeat (first | refine blk_drewN ?_ _ | refine blk_drew ?_ | refine blk_alloc ?_ _)); exact BK124.out) hb)
                        have n1_ := Aside0.mk (blk_below (g := gb128) (o := .cells #[.string ((rd_T177 ((rd_T122 l0 x11_1).f4) x42_2).f0.f0), .int .i64 ((rd_T177 ((rd_T122 l0 x11_1).f4) x42_2).f0.f1), .string ((rd_T177 ((rd_T122 l0 x11_1).f4) x42_2).f1.f0), .int .i64 ((rd_T177 ((rd_T122 l0 x11_1).f4) x42_2).f1.f1), .slice A127_4 ((rd_T177 ((rd_T122 l0 x11_1).f4) x42_2).f2).length c127_4, .slice A127_5 ((rd_T177 ((rd_T122 l0 x11_1).f4) x42_2).f3).length c127_5, .slice A127_6 ((rd_T177 ((rd_T122 l0 x11_1).f4) x42_2).f4).length c127_6, .int .i64 ((rd_T177 ((rd_T122 l0 x11_1).f4) x42_2).f5.f0), .string ((rd_T177 ((rd_T122 l0 x11_1).f4) x42_2).f5.f1.f0), .int .i64 ((rd_T177 ((rd_T122 l0 x11_1).f4) x42_2).f5.f1.f1), .int .i64 ((rd_T177 ((rd_T122 l0 x11_1).f4) x42_2).f5.f2), .int .i64 ((rd_T177 ((rd_T122 l0 x11_1).f4) x42_2).f5.f3), .int .i64 ((rd_T177 ((rd_T122 l0 x11_1).f4) x42_2).f5.f4), .slice A127_13 ((rd_T177 ((rd_T122 l0 x11_1).f4) x42_2).f5.f5).length c127_13] 177 (0, 0)) (by (with_reducible repeat (first | refine blk_drewN ?_ _ | refine blk_drew ?_ | refine blk_alloc ?_ _)); exact BK128.out) hb)
                        have n2_ := Aside0.mk (below_step (by repeat (first | (with_reducible first | exact HB.out | apply below_alloc | apply pw_below_drewN | apply below_drew1 | refine below_set ?_ GE124.out | refine below_set ?_ GE128.out) | exact HB.out)) hb)
                        clear BK124
                        clear BK128
                        clear HB
                        have BK124 := n0_
                        have BK128 := n1_
                        have HB := n2_
                        clear n0_ n1_ n2_
                        (try clear hb)
                        (try clear hb2)
                        (try clear hk)
                        (try clear hi)
                        refine hK.out _ _ ⟨(blk_cell BK128.out 0).trans rfl, (blk_cell BK128.out 1).trans rfl, (blk_cell BK128.out 2).trans rfl, (blk_cell BK128.out 3).trans rfl, (blk_cell BK128.out 4).trans rfl, (blk_cell BK128.out 5).trans rfl, (blk_cell BK128.out 6).trans rfl, (blk_cell BK128.out 7).trans rfl, (blk_cell BK128.out 8).trans rfl, (blk_cell BK128.out 9).trans rfl, (blk_cell BK128.out 10).trans rfl, (blk_cell BK128.out 11).trans rfl, (blk_cell BK128.out 12).trans rfl, (blk_cell BK128.out 13).trans rfl⟩ (fun hHeld => ?_)
                        clear hK K
                        refine norm_ (a' := ?_) ?_ ?_
                        rotate_left
                        · show Act.put _ (some 72) _ = _
                          simp only [Act.put, List.setIfInBounds_toArray, List.set_cons_zero, List.set_cons_succ, i64_w, i32_w]
                          rfl
                        refine pure_ (i := 25) (N := some 1) (v := ?_) (a' := ?_) #[true, true, true, true, true, true, true, true, true, true, true, true, true, true, true, true, true, true, true, true, true, true, true, true, true, true] rfl rfl (any_of HT_.out (by kernel_rfl)) (fun _ _ _ h => h) (Or.inl ⟨by rfl, ?_⟩) ?_ ?_
                        rotate_left
                        · intro w'
                          go_simp
                          with_reducible rfl
                        rotate_left
                        · simp only [Act.put, List.setIfInBounds_toArray, List.set_cons_zero, List.set_cons_succ, i64_w, i32_w]
                          rfl
                        refine done_ (done_of HT_.out (by kernel_rfl)) ?_
                        try go_wp2
                        go_roundg k2
                        case measure => have := HK1.out; have := HK2.out; omega
                        case rel => exact ⟨(t132), (wrap64 (x42_2 + 1)), (by first | rfl | (simp; done) | (simp [*]; done)), (by first | rfl | (simp; done) | (simp [*]; done)), H', ⟨by have := HK1.out; have := HK2.out; omega⟩, ⟨by (with_reducible repeat (first | refine blk_drewN ?_ _ | refine blk_drew ?_ | refine blk_alloc ?_ _)); exact BK124.out⟩, ⟨by repeat (first | (with_reducible first | exact HB.out | apply below_alloc | apply pw_below_drewN | apply below_drew1 | refine below_set ?_ GE124.out | refine below_set ?_ GE128.out) | exact HB.out)⟩⟩
                    · rw [if_neg c17] at H
                      exact absurd H (by simp)
                  · rw [if_neg c16] at H
                    exact absurd H (by simp)
                · rw [if_neg c15] at H
                  have c15b0 : decide (x42_2 < (((rd_T122 l0 x11_1).f4).length : Int)) = false := decide_eq_false c15
                  clear c15
                  by_cases c35 : x1_2 < 0
                  · rw [if_pos c35] at H
                    have c35b0 : decide (x1_2 < 0) = true := decide_eq_true c35
                    clear c35
                    obtain rfl := Option.some.inj H
                    go_wp2
                    go_ret
                    exact ⟨by first | rfl | (simp [errW_none, errW_some] <;> rfl) | (simp [*, errW_none, errW_some] <;> rfl), by repeat (first | (with_reducible first | exact HB.out | apply below_alloc | apply pw_below_drewN | apply below_drew1 | refine below_set ?_ GE124.out) | exact HB.out)⟩
                  · rw [if_neg c35] at H
                    have c35b0 : decide (x1_2 < 0) = false := decide_eq_false c35
                    clear c35
                    have H' := Aside0.mk H
                    clear H
                    go_wp2
                    go_roundg k2
                    case measure => have := HK1.out; have := HK2.out; omega
                    case rel => exact ⟨(x1_2), (wrap64 (x11_1 + 1)), (by first | rfl | (simp; done) | (simp [*]; done)), (by first | rfl | (simp; done) | (simp [*]; done)), H', ⟨by have := HK1.out; have := HK2.out; omega⟩, ⟨by repeat (first | (with_reducible first | exact HB.out | apply below_alloc | apply pw_below_drewN | apply below_drew1 | refine below_set ?_ GE124.out) | exact HB.out)⟩⟩
          · rw [if_neg c5] at H
            exact absurd H (by simp)
        · rw [if_neg c4] at H
          exact absurd H (by simp)
      · rw [if_neg c3] at H
        have c3b0 : decide (x11_1 < (l0.length : Int)) = false := decide_eq_false c3
        clear c3
        obtain rfl := Option.some.inj H
        go_wp2
        go_ret
        exact ⟨by first | rfl | (simp [errW_none, errW_some] <;> rfl) | (simp [*, errW_none, errW_some] <;> rfl), by repeat (first | (with_reducible first | exact HB.out | apply below_alloc | apply pw_below_drewN | apply below_drew1) | exact HB.out)⟩

end Go.Proofs.Ytoakelgcbbbieaa
