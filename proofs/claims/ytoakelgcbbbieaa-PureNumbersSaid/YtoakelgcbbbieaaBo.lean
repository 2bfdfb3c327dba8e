/- The chapter's example: alive. -/
import Derived.Test.YtoakelgcbbbieaaBn
namespace Go.Proofs.Ytoakelgcbbbieaa
open Go.RowKit Go.Maps Go.Shelf Go.Proofs.YtoakelgcbbbieaaW.PrintWords Go.Proofs.YtoakelgcbbbieaaW.PrintLast Go.Proofs.YtoakelgcbbbieaaW.PrintMore
set_option linter.unusedVariables false
set_option linter.unusedSimpArgs false
set_option maxRecDepth 100000

def numE (k : Int) : S58 := ⟨25, ⟨⟨#[]⟩, 0⟩, k, 0, 0, []⟩
def pE : S58 := ⟨28, ⟨⟨#[112]⟩, 0⟩, 0, 0, 0, []⟩
def sumE : S58 := ⟨18, ⟨⟨#[]⟩, 0⟩, 0, 0, 0, [pE, numE 1]⟩
def exE : S58 := ⟨20, ⟨⟨#[]⟩, 0⟩, 0, 0, 0, [sumE, numE 2]⟩

theorem res80 {tmps : Array Value} {W : World} {b : Nat} {x : S58} {A : Option Addr} {c : Nat} (h : tmps.getD 2 undef = .pointer (some ⟨b, 0, none⟩)) (hb : W.heap[b]? = some (.cells (eX x A c) 58 (0, 0))) : (results Try.f80 tmps).run Try.prog W = .ok (.agg (eX x A c)) W := by
  have h' : tmps[2]?.getD undef = .pointer (some ⟨b, 0, none⟩) := by simpa using h
  have c0 : W.cell? ⟨b, 0, none⟩ = some (.int .i64 x.f0) := (cell_blk hb 0).trans rfl
  have c1 : W.cell? ⟨b, 1, none⟩ = some (.string x.f1.f0) := (cell_blk hb 1).trans rfl
  have c2 : W.cell? ⟨b, 2, none⟩ = some (.int .i64 x.f1.f1) := (cell_blk hb 2).trans rfl
  have c3 : W.cell? ⟨b, 3, none⟩ = some (.int .i64 x.f2) := (cell_blk hb 3).trans rfl
  have c4 : W.cell? ⟨b, 4, none⟩ = some (.int .i64 x.f3) := (cell_blk hb 4).trans rfl
  have c5 : W.cell? ⟨b, 5, none⟩ = some (.int .i64 x.f4) := (cell_blk hb 5).trans rfl
  have c6 : W.cell? ⟨b, 6, none⟩ = some (.slice A x.f5.length c) := (cell_blk hb 6).trans rfl
  simp [results, Try.results80, h', go_sem, c0, c1, c2, c3, c4, c5, c6]
theorem res67 {tmps : Array Value} {W : World} {b : Nat} {x : S58} {A : Option Addr} {c : Nat} (h : tmps.getD 0 undef = .pointer (some ⟨b, 0, none⟩)) (hb : W.heap[b]? = some (.cells (eX x A c) 58 (0, 0))) : (results Try.f67 tmps).run Try.prog W = .ok (.agg (eX x A c)) W := by
  have h' : tmps[0]?.getD undef = .pointer (some ⟨b, 0, none⟩) := by simpa using h
  have c0 : W.cell? ⟨b, 0, none⟩ = some (.int .i64 x.f0) := (cell_blk hb 0).trans rfl
  have c1 : W.cell? ⟨b, 1, none⟩ = some (.string x.f1.f0) := (cell_blk hb 1).trans rfl
  have c2 : W.cell? ⟨b, 2, none⟩ = some (.int .i64 x.f1.f1) := (cell_blk hb 2).trans rfl
  have c3 : W.cell? ⟨b, 3, none⟩ = some (.int .i64 x.f2) := (cell_blk hb 3).trans rfl
  have c4 : W.cell? ⟨b, 4, none⟩ = some (.int .i64 x.f3) := (cell_blk hb 4).trans rfl
  have c5 : W.cell? ⟨b, 5, none⟩ = some (.int .i64 x.f4) := (cell_blk hb 5).trans rfl
  have c6 : W.cell? ⟨b, 6, none⟩ = some (.slice A x.f5.length c) := (cell_blk hb 6).trans rfl
  simp [results, Try.results67, h', go_sem, c0, c1, c2, c3, c4, c5, c6]

theorem num_calls (w : World) (k : Int) : Calls Try.prog 80 #[.int .i64 k] w fun e w' => e = .returned (.agg (eX (numE k) none 0)) ∧ Below w.heap.size w w' := by
  go_enter Try.func80, Try.ntmps80
  go_wp2
  exact bodyPost_ret (v := .agg (eX (numE k) none 0)) (res80 (x := numE k) rfl (World.alloc_heap_new w _)) rfl ⟨rfl, (Below.refl _ _).alloc (Nat.le_refl _) _⟩

set_option maxHeartbeats 1000000 in
theorem example_calls (w : World) : Calls Try.prog 67 #[] w fun e w' => ∃ A c, e = .returned (.agg (eX exE A c)) ∧ exE.f5.length ≤ c ∧ Kd.C k58 w' A exE.f5.length exE.f5 ∧ Below w.heap.size w w' := by
  go_enter Try.func67, Try.ntmps67
  go_wp2_with fail
  obtain ⟨w0, hw0⟩ : ∃ w0, w0 = w.alloc (.cells #[.int .i64 0, .string ⟨#[]⟩, .int .i64 0, .int .i64 0, .int .i64 0, .int .i64 0, .slice none 0 0] 58) := ⟨_, rfl⟩
  have hb0 : w0.heap[w.heap.size]? = some (.cells #[.int .i64 0, .string ⟨#[]⟩, .int .i64 0, .int .i64 0, .int .i64 0, .int .i64 0, .slice none 0 0] 58 (0, 0)) := by rw [hw0]; exact World.alloc_heap_new w _
  have HB0 := Lib.hid (show Below w.heap.size w w0 by rw [hw0]; exact (Below.refl _ _).alloc (Nat.le_refl _) _)
  have hs0 : w0.heap.size = w.heap.size + 1 := by rw [hw0]; simp
  rw [← hw0]
  clear hw0
  refine (num_calls w0 1).mono ?_
  rintro e w1 ⟨rfl, h1⟩
  have HK1 := Lib.hid ((h1.block w.heap.size (by omega)).trans hb0)
  have HB1 := Lib.hid h1
  have hs1 := h1.size
  clear h1 hb0
  dsimp only [numE]
  go_wp2_with fail
  obtain ⟨w2, hw2⟩ : ∃ w2, w2 = w1.alloc (.cells #[.int .i64 28, .string ⟨#[112]⟩, .int .i64 0, .int .i64 0, .int .i64 0, .int .i64 0, .slice none 0 0, .int .i64 25, .string ⟨#[]⟩, .int .i64 0, .int .i64 1, .int .i64 0, .int .i64 0, .slice none 0 0] 58) := ⟨_, rfl⟩
  have hC2 : w2.heap[w1.heap.size]? = some (.cells #[.int .i64 28, .string ⟨#[112]⟩, .int .i64 0, .int .i64 0, .int .i64 0, .int .i64 0, .slice none 0 0, .int .i64 25, .string ⟨#[]⟩, .int .i64 0, .int .i64 1, .int .i64 0, .int .i64 0, .slice none 0 0] 58 (0, 0)) := by
    rw [hw2]
    exact World.alloc_heap_new w1 _
  have HB2 := Lib.hid (show Below w1.heap.size w1 w2 by rw [hw2]; exact (Below.refl _ _).alloc (Nat.le_refl _) _)
  have HC2 := Lib.hid hC2
  have HK2 := Lib.hid ((HB2.out.block _ (by omega)).trans HK1.out)
  have hs2 : w2.heap.size = w1.heap.size + 1 := by rw [hw2]; simp
  rw [← hw2]
  clear hw2 hC2
  refine (num_calls w2 2).mono ?_
  rintro e w3 ⟨rfl, h3⟩
  have HK3 := Lib.hid ((h3.block w.heap.size (by omega)).trans HK2.out)
  have HC3 := Lib.hid ((h3.block w1.heap.size (by omega)).trans HC2.out)
  have HB3 := Lib.hid h3
  have hs3 := h3.size
  have hlt : w.heap.size < w3.heap.size := by omega
  have c0 : w3.cell? ⟨w.heap.size, 0, none⟩ = some (.int .i64 0) := (cell_blk HK3.out 0).trans rfl
  have c1 : w3.cell? ⟨w.heap.size, 1, none⟩ = some (.string ⟨#[]⟩) := (cell_blk HK3.out 1).trans rfl
  have c2 : w3.cell? ⟨w.heap.size, 2, none⟩ = some (.int .i64 0) := (cell_blk HK3.out 2).trans rfl
  have c3 : w3.cell? ⟨w.heap.size, 3, none⟩ = some (.int .i64 0) := (cell_blk HK3.out 3).trans rfl
  have c4 : w3.cell? ⟨w.heap.size, 4, none⟩ = some (.int .i64 0) := (cell_blk HK3.out 4).trans rfl
  have c5 : w3.cell? ⟨w.heap.size, 5, none⟩ = some (.int .i64 0) := (cell_blk HK3.out 5).trans rfl
  have c6 : w3.cell? ⟨w.heap.size, 6, none⟩ = some (.slice none 0 0) := (cell_blk HK3.out 6).trans rfl
  have hf := frozen_blk HK3.out
  clear h3
  dsimp only [numE]
  go_wp2
  obtain ⟨S, hS⟩ : ∃ S, S = ((((((w3.setCell ⟨w.heap.size, 0, none⟩ (.int .i64 20)).setCell ⟨w.heap.size, 1, none⟩ (.string ⟨#[]⟩)).setCell ⟨w.heap.size, 2, none⟩ (.int .i64 0)).setCell ⟨w.heap.size, 3, none⟩ (.int .i64 0)).setCell ⟨w.heap.size, 4, none⟩ (.int .i64 0)).setCell ⟨w.heap.size, 5, none⟩ (.int .i64 0)).setCell ⟨w.heap.size, 6, none⟩ (.slice (some ⟨w3.heap.size, 0, none⟩) 2 2) := ⟨_, rfl⟩
  have hSk : S.heap[w.heap.size]? = some (.cells (eX exE (some ⟨w3.heap.size, 0, none⟩) 2) 58 (0, 0)) := by
    rw [hS]
    exact heap_setCell_same (heap_setCell_same (heap_setCell_same (heap_setCell_same (heap_setCell_same (heap_setCell_same (heap_setCell_same HK3.out 0 _) 1 _) 2 _) 3 _) 4 _) 5 _) 6 _
  have hSs : S.heap.size = w3.heap.size := by rw [hS]; simp
  have hSo : ∀ k, k ≠ w.heap.size → S.heap[k]? = w3.heap[k]? := fun k hk => by
    rw [hS]
    rw [Below.heap_setCell _ _ _ k hk, Below.heap_setCell _ _ _ k hk, Below.heap_setCell _ _ _ k hk, Below.heap_setCell _ _ _ k hk, Below.heap_setCell _ _ _ k hk, Below.heap_setCell _ _ _ k hk, Below.heap_setCell _ _ _ k hk]
  have hSb : Below w.heap.size w3 S := by
    rw [hS]
    exact ((((((((Below.refl _ _).setCell (p := ⟨w.heap.size, 0, none⟩) (Nat.le_refl _) _).setCell (p := ⟨w.heap.size, 1, none⟩) (Nat.le_refl _) _).setCell (p := ⟨w.heap.size, 2, none⟩) (Nat.le_refl _) _).setCell (p := ⟨w.heap.size, 3, none⟩) (Nat.le_refl _) _).setCell (p := ⟨w.heap.size, 4, none⟩) (Nat.le_refl _) _).setCell (p := ⟨w.heap.size, 5, none⟩) (Nat.le_refl _) _).setCell (p := ⟨w.heap.size, 6, none⟩) (Nat.le_refl _) _)
  rw [← hS]
  obtain ⟨V, hV⟩ : ∃ V, V = S.alloc (.cells #[.int .i64 18, .string ⟨#[]⟩, .int .i64 0, .int .i64 0, .int .i64 0, .int .i64 0, .slice (some ⟨w1.heap.size, 0, none⟩) 2 2, .int .i64 25, .string ⟨#[]⟩, .int .i64 0, .int .i64 2, .int .i64 0, .int .i64 0, .slice none 0 0] 58) := ⟨_, rfl⟩
  have hVb : Below S.heap.size S V := by rw [hV]; exact (Below.refl _ _).alloc (Nat.le_refl _) _
  have hVn : V.heap[w3.heap.size]? = some (.cells #[.int .i64 18, .string ⟨#[]⟩, .int .i64 0, .int .i64 0, .int .i64 0, .int .i64 0, .slice (some ⟨w1.heap.size, 0, none⟩) 2 2, .int .i64 25, .string ⟨#[]⟩, .int .i64 0, .int .i64 2, .int .i64 0, .int .i64 0, .slice none 0 0] 58 (0, 0)) := by
    rw [hV, ← hSs]; exact World.alloc_heap_new S _
  have hV1 := (hVb.block w1.heap.size (by omega)).trans ((hSo _ (by omega)).trans HC3.out)
  have hVk := (hVb.block w.heap.size (by omega)).trans hSk
  rw [← hV]
  clear hV hS
  have hK1 : Kd.C k58 V (some ⟨w1.heap.size, 0, none⟩) 2 [pE, numE 1] :=
    C_blk (xs := [pE, numE 1]) hV1 ⟨rfl, fun j p hj => by
      match j, hj with
      | 0, hj => injection hj with hj; subst hj; exact k58_mk _ pE (A6 := none) (c6 := 0) (Nat.le_refl _) (Kd.C_nil _ _)
      | 1, hj => injection hj with hj; subst hj; exact k58_mk _ (numE 1) (A6 := none) (c6 := 0) (Nat.le_refl _) (Kd.C_nil _ _)
      | j + 2, hj => simp at hj⟩ (by decide)
  have hK2 : Kd.C k58 V (some ⟨w3.heap.size, 0, none⟩) 2 [sumE, numE 2] :=
    C_blk (xs := [sumE, numE 2]) hVn ⟨rfl, fun j p hj => by
      match j, hj with
      | 0, hj => injection hj with hj; subst hj; exact k58_mk _ sumE (A6 := some ⟨w1.heap.size, 0, none⟩) (c6 := 2) (Nat.le_refl _) hK1
      | 1, hj => injection hj with hj; subst hj; exact k58_mk _ (numE 2) (A6 := none) (c6 := 0) (Nat.le_refl _) (Kd.C_nil _ _)
      | j + 2, hj => simp at hj⟩ (by decide)
  have hfin : Below w.heap.size w V := ((((HB0.out.trans (HB1.out.mono (by omega))).trans (HB2.out.mono (by omega))).trans (HB3.out.mono (by omega))).trans hSb).trans (hVb.mono (by omega))
  exact bodyPost_ret (v := .agg (eX exE (some ⟨w3.heap.size, 0, none⟩) 2)) (res67 (x := exE) rfl hVk) rfl ⟨_, _, rfl, Nat.le_refl _, hK2, hfin⟩
end Go.Proofs.Ytoakelgcbbbieaa
