/- Small laws of blocks and cells that the Pure statements lean on (as they stand in my other texts, laid here without those). -/
import Derived.Test.YtoakelgcbbbieaaAa
import Derived.LoopTactic
import Derived.Deep.LoopGhost
import Derived.Deep.AppendLies
import Derived.Deep.DrawnRows
import Derived.Deep.RegionLaw
import Derived.StillTailTactics
import Derived.Deep.DeepCutAuto
import Derived.WalkKit
import Derived.KernelRfl
import Derived.OwnWalk
import Derived.WalkSpells
import Derived.Maps.OwnSet
import Derived.RowKit3
import Derived.Deep.QuietTactic
import Derived.BigQuiet
import Derived.Deep.RegionHeld3
import Derived.Outline
import Derived.Lib.Hide
import Derived.RangeFuncNested
import Derived.RangeFuncBound
import Derived.RangeFuncCalls
import Derived.RangeFuncLeaves
import Derived.Shelf.Abstract
import Derived.Shelf.RegionOpen
import Derived.OwnWalkIn
import Derived.TacticsInMore
import Derived.LoopNIn
import Derived.LoopIn
namespace Go.Proofs.Ytoakelgcbbbieaa
open Go.RowKit Go.Maps Go.Shelf Go.Proofs.YtoakelgcbbbieaaW.PrintWords Go.Proofs.YtoakelgcbbbieaaW.PrintLast Go.Proofs.YtoakelgcbbbieaaW.PrintMore
set_option linter.unusedVariables false
set_option linter.unusedSimpArgs false
set_option maxRecDepth 100000
theorem cell_block {w : World} {a : Addr} {v : Value} (h : w.cell? a = some v) : a.block < w.heap.size := by
  unfold World.cell? at h
  split at h
  · rename_i h2; exact (Array.getElem?_eq_some_iff.1 h2).1
  · cases h

theorem cell_blk {w : World} {tb : Nat} {cs : Array Value} {t : TypeId} (h : w.heap[tb]? = some (.cells cs t (0, 0))) (j : Nat) : w.cell? ⟨tb, j, none⟩ = cs[j]? := by simp [World.cell?, h]

theorem frozen_blk {w : World} {tb : Nat} {cs : Array Value} {t : TypeId} (h : w.heap[tb]? = some (.cells cs t (0, 0))) (j : Nat) : w.frozen? ⟨tb, j, none⟩ = false := by simp [World.frozen?, h]

theorem heap_setCell_same {w : World} {tb : Nat} {cs : Array Value} {t : TypeId} (h : w.heap[tb]? = some (.cells cs t (0, 0))) (j : Nat) (v : Value) : (w.setCell ⟨tb, j, none⟩ v).heap[tb]? = some (.cells (cs.setIfInBounds j v) t (0, 0)) := by
  simp [World.setCell, Array.getElem?_modify, h]

theorem C_blk {α : Type} {d : Kd α} {w : World} {g e : Nat} {xs : List α} {inner : Array Value} (hb : w.heap[g]? = some (.cells inner e (0, 0))) (h : Reps (d.K w) d.sz xs inner.toList) (hm : xs.length ≤ 9223372036854775807) : d.C w (some ⟨g, 0, none⟩) xs.length xs := by
  refine ⟨rfl, hm, fun _ => ⟨_, rfl, fun j p hj => ⟨(inner.toList.drop (j * d.sz)).take d.sz, d.K_len (h.2 j p hj), h.2 j p hj, fun i u hu => ?_⟩⟩⟩
  have h1 : inner[j * d.sz + i]? = some u := by
    have hi := (List.getElem?_eq_some_iff.1 hu).1
    rw [List.length_take] at hi
    rw [List.getElem?_take_of_lt (by omega), List.getElem?_drop] at hu
    simpa using hu
  have h2 : (⟨g, 0, none⟩ : Addr).add (j * d.sz + i) = ⟨g, j * d.sz + i, none⟩ := by
    unfold Addr.add
    split
    · next h0 => rw [h0]
    · simp
  rw [h2, cell_blk hb, h1]

theorem grown_below {w w' : World} (h : Below w.heap.size w w') : w.grownBy w' none := ⟨h.os, h.tape, h.output, h.size, fun k hk _ => h.block k hk⟩

structure But (n₀ b : Nat) (A B : World) : Prop where
  os : B.os = A.os
  tape : B.tape = A.tape
  output : B.output = A.output
  size : A.heap.size ≤ B.heap.size
  block : ∀ k, k < n₀ → k ≠ b → B.heap[k]? = A.heap[k]?

theorem But.trans {n₀ b : Nat} {A B C : World} (h : But n₀ b A B) (k : But n₀ b B C) : But n₀ b A C :=
  ⟨k.os.trans h.os, k.tape.trans h.tape, k.output.trans h.output, Nat.le_trans h.size k.size, fun i hi hb => (k.block i hi hb).trans (h.block i hi hb)⟩

theorem But.of_below {n₀ b B0 : Nat} {A B : World} (h : Below B0 A B) (hn : n₀ ≤ B0) : But n₀ b A B := ⟨h.os, h.tape, h.output, h.size, fun k hk _ => h.block k (Nat.lt_of_lt_of_le hk hn)⟩

theorem But.refl (n₀ b : Nat) (A : World) : But n₀ b A A := ⟨rfl, rfl, rfl, Nat.le_refl _, fun _ _ _ => rfl⟩

theorem But.cell {n₀ b : Nat} {A B : World} (h : But n₀ b A B) {g o : Nat} (hg : g < n₀) (hb : g ≠ b) : B.cell? ⟨g, o, none⟩ = A.cell? ⟨g, o, none⟩ := by simp [World.cell?, h.block g hg hb]

theorem But.below {n₀ b : Nat} {A B : World} (h : But n₀ b A B) {B0 : Nat} (h1 : B0 ≤ n₀) (h2 : B0 ≤ b) : Below B0 A B := ⟨h.os, h.tape, h.output, h.size, fun k hk => h.block k (by omega) (by omega)⟩

theorem But.putObj {n₀ b : Nat} (W : World) (l : Nat) (o : Obj) (hl : n₀ ≤ l) : But n₀ b W (W.putObj l o) :=
  ⟨rfl, rfl, rfl, by simp, fun k hk _ => World.putObj_heap_other (by omega)⟩

theorem below_putObj {B : Nat} {A W : World} (h : Below B A W) {D : Nat} (hD : B ≤ D) (o : Obj) : Below B A (W.putObj D o) :=
  h.trans ⟨rfl, rfl, rfl, by simp, fun k hk => World.putObj_heap_other (by omega)⟩

theorem cell_putObj {W : World} {D b : Nat} (o : Obj) (h : b ≠ D) : (W.putObj D o).cell? ⟨b, 0, none⟩ = W.cell? ⟨b, 0, none⟩ := World.cell?_of_block (World.putObj_heap_other h)
end Go.Proofs.Ytoakelgcbbbieaa
