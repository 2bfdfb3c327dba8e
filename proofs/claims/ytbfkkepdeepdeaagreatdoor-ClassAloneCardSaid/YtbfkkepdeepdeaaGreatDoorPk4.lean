/- A part of the proof: The row of ClassAlone: for every input the statement returns true; and its card. -/
import Derived.Sort.QuietIn
import Derived.RangeFuncWrites
import Derived.Maps.OwnIn
import Derived.Maps.AppendAt
import Derived.OneCell
import Derived.Shelf.SlLaysF0
import Derived.Test.YtbfkkepdeepdeaaGreatDoorChecked
import Derived.Test.YtbfkkepdeepdeaaGreatDoorProg
import Derived.Maps.OwnSet
import Derived.WalkKit
import Derived.KernelRfl
import Derived.RowKit3
import Derived.Deep.QuietTactic
import Derived.BigQuiet
import Derived.Deep.RegionHeld3
import Derived.Outline
import Derived.Lib.Hide
import Derived.WalkSpells
import Derived.LoopTactic
import Derived.Deep.LoopGhost
import Derived.Deep.AppendLies
import Derived.Deep.DrawnRows
import Derived.Deep.RegionLaw
import Derived.StillTailTactics
import Derived.Deep.DeepCutAuto
import Derived.RangeFuncNested
import Derived.RangeFuncBound
import Derived.RangeFuncCalls
import Derived.RangeFuncLeaves
import Derived.Shelf.Abstract
import Derived.Shelf.RegionOpen
import Derived.OwnWalkIn
import Derived.TacticsInMore
import Derived.LoopNIn
import Derived.LoopIn
import Derived.RangeFuncBox
import Derived.Sort.Defs
import Derived.Sort.Statements
import Derived.Lib.SlicesCompact
import Derived.Lib.SliceRun
import Derived.Shelf.RegionOpenPlain
import Derived.Shelf.SlSortCmp.InsertionK
import Derived.Shelf.SlSortCmp.WholeK
import Derived.Shelf.SlSortCmp.NoneTotal
import Derived.Test.YtbfkkepdeepdeaaGreatDoorPk3
section
namespace Go.Proofs.YtbfkkepdeepdeaaGreatDoor
open Go Go.RowKit Go.Maps Go.Shelf Go.Proofs.YtbfkkepdeepdeaaGreatDoorW.PrintWords Go.Proofs.YtbfkkepdeepdeaaGreatDoorW.PrintLast Go.Proofs.YtbfkkepdeepdeaaGreatDoorW.PrintMore
set_option linter.unusedVariables false
set_option linter.unusedSimpArgs false
set_option maxRecDepth 100000
attribute [local go_sem] Oper.semAt_some
def realT (t : Tok) : Bool := !(t.kind == 1) && !(t.kind == 2)
def realL (l : List Tok) : List Tok := l.filter realT
def tokR (t : Tok) (cs : List Value) : Prop := cs = [.int .i64 t.kind, .int .i64 t.fr, .int .i64 t.to]
structure RealI (w w0 : World) (pre : List Tok) (W : World) : Prop where
  bad : ∀ t, t ∈ pre → t.kind ≠ 7
  x2 : W.heap[w.heap.size]? = some (.cells #[.slice none 0 0] 219 (0, 0))
  x3 : W.heap[w.heap.size + 1]? = some (.cells #[.int .i64 0] 3 (0, 0))
  x4 : W.heap[w.heap.size + 2]? = some (.cells #[.nilIface] 48 (0, 0))
  x5 : ∃ v, W.heap[w.heap.size + 3]? = some (.cells #[v] 219 (0, 0)) ∧ OwnRow tokR 262 3 W w0.heap.size v (realL pre)
  bel : Below w.heap.size w W
  size : w0.heap.size ≤ W.heap.size
structure RealX (w : World) (c : Code) (pre : List Tok) (W : World) : Prop where
  ret : c = .ret
  one : ∃ q t, pre = q ++ [t] ∧ (∀ t, t ∈ q → t.kind ≠ 7) ∧ t.kind = 7 ∧ W.heap[w.heap.size + 1]? = some (.cells #[.int .i64 t.fr] 3 (0, 0))
  x2 : W.heap[w.heap.size]? = some (.cells #[.slice none 0 0] 219 (0, 0))
  x4 : W.heap[w.heap.size + 2]? = some (.cells #[.iface 77 (.int .i64 2)] 48 (0, 0))
  bel : Below w.heap.size w W
section
variable {w w0 W W' : World} {row : Option Nat} {B : Nat}
theorem cells_kept {k : Nat} {cs : Array Value} {T : TypeId} {fr : Nat × Nat} (hg : W.grownBy W' row) (hr : ∀ r, row = some r → B ≤ r ∧ ∃ o : Obj, W.heap[r]? = some o ∧ o.isCells = false) (h : W.heap[k]? = some (.cells cs T fr)) : W'.heap[k]? = some (.cells cs T fr) :=
  (hg.block k (Array.getElem?_eq_some_iff.1 h).1 (fun e => by obtain ⟨-, o, ho, hc⟩ := hr k e.symm; rw [h] at ho; cases ho; cases hc)).trans h
theorem below_kept (hb : Below w.heap.size w W) (hg : W.grownBy W' row) (hr : ∀ r, row = some r → w.heap.size ≤ r) : Below w.heap.size w W' :=
  ⟨hg.os.trans hb.os, hg.tape.trans hb.tape, hg.output.trans hb.output, Nat.le_trans hb.size hg.size, fun k hk => (hg.block k (Nat.lt_of_lt_of_le hk hb.size) (fun e => by have := hr k e.symm; omega)).trans (hb.block k hk)⟩
theorem row_kept {base : Nat} {v : Value} {l : List Tok} (h : OwnRow tokR 262 3 W base v l) (hg : W.grownBy W' row) (hr : ∀ r, row = some r → B ≤ r ∧ ∃ o : Obj, W.heap[r]? = some o ∧ o.isCells = false) : OwnRow tokR 262 3 W' base v l := by
  obtain ⟨inner, ho, hr2⟩ := h
  refine ⟨inner, own_move ho (fun k hk => ?_), hr2⟩
  rcases ho.2 with ⟨rfl, -⟩ | ⟨g, cap, cur, rfl, hb, hh, r⟩
  · cases hk
  · simp only [Value.ownBlock, Option.some.injEq] at hk
    subst hk
    rw [cells_kept hg hr hh, hh]
theorem real_own (hw : w.heap.size ≤ w0.heap.size) : OwnFrom w0.heap.size (RealI w w0) := fun pre W W' row hs hg hr => by
  obtain ⟨v, h5, hrow⟩ := hs.x5
  exact ⟨hs.bad, cells_kept hg hr hs.x2, cells_kept hg hr hs.x3, cells_kept hg hr hs.x4, ⟨v, cells_kept hg hr h5, row_kept hrow hg hr⟩, below_kept hs.bel hg (fun r e => Nat.le_trans hw (hr r e).1), Nat.le_trans hs.size hg.size⟩
theorem realx_own (hw : w.heap.size ≤ w0.heap.size) (c : Code) : OwnFrom w0.heap.size (RealX w c) := fun pre W W' row hs hg hr => by
  obtain ⟨q, t, h1, h2, h3, h4⟩ := hs.one
  exact ⟨hs.ret, ⟨q, t, h1, h2, h3, cells_kept hg hr h4⟩, cells_kept hg hr hs.x2, cells_kept hg hr hs.x4, below_kept hs.bel hg (fun r e => Nat.le_trans hw (hr r e).1)⟩
end
section
variable {F : Fence} {n : Nat} {P : Program} {ops : Array Oper} {rest : List Oper} {o : Oper} {a : Act} {Q : Exit → Act → World → Prop} {α : Type} {R : α → List Value → Prop}
theorem OwnRow.appendIn {W : World} (base : Nat) (hgd : o.guard = none) (s x : Operand) (t e : TypeId) (z : Value) (size bytes : Nat)
    (ho : o.op = .call { callee := .builtin .append, args := #[s, x], argTypes := #[t, t] })
    (ht : P.underlying t = some (.slice e)) (hinfo : (P.info? e).map (fun i => (i.zero, i.size, i.bytes)) = some (some z, size, bytes)) (hz : z.cells.size = size) (hs0 : 0 < size) (hb0 : 0 < bytes)
    (v : Value) (ps : List α) (p : α) (cs : List Value) (hs : a.eval s = v) (hx : a.eval x = .slice (some ⟨W.heap.size, 0, none⟩) 1 1) (hp : R p cs) (hcs : cs.length = size) (h1 : ∀ u ∈ cs, u.oneCell' = true)
    (HO : OwnRow R e size W base v ps) (hbase : base ≤ W.heap.size) (hl : (ps.length + 1) * bytes ≤ 140737488355328)
    (h : ∀ v1 w1, OwnRow R e size w1 base v1 (ps ++ [p]) → W.grownBy w1 v.ownBlock → wpListIn F n P ops Q rest (a.put o.dst v1) w1) :
    wpListIn F n P ops Q (o :: rest) a (W.alloc (.cells cs.toArray e)) := by
  obtain ⟨inner, hown, hr⟩ := HO
  obtain ⟨i, hi, h2, h3, h4⟩ : ∃ i, P.info? e = some i ∧ i.zero = some z ∧ i.size = size ∧ i.bytes = bytes := by
    cases hi : P.info? e with
    | none => rw [hi] at hinfo; cases hinfo
    | some i =>
      rw [hi] at hinfo
      simp only [Option.map_some, Option.some.injEq, Prod.mk.injEq] at hinfo
      exact ⟨i, rfl, hinfo.1, hinfo.2.1, hinfo.2.2⟩
  have hown2 : (W.alloc (.cells cs.toArray e)).ownsRow base e size v ps.length inner := own_move hown (fun k hk => Below.heap_alloc _ _ _ (own_lt hown k hk))
  have hll : ps.length + 1 ≤ 140737488355328 := Nat.le_trans (Nat.le_mul_of_pos_right _ hb0) hl
  refine wpListIn_append_own_at _ hgd s x t ho base e i z size bytes ht hi h2 h3 h4 hz hs0 v ps.length inner hs hown2 ⟨W.heap.size, 0, none⟩ 1 1 cs hx (by rw [Nat.one_mul]; exact hcs) (fun j u hu => ?_) h1 (by simp only [maxLen]; omega) hl (by simp; omega) (fun v1 w1 r1 r2 _ _ => ?_)
  · rw [show ((⟨W.heap.size, 0, none⟩ : Addr).add j) = ⟨W.heap.size, j, none⟩ from by unfold Addr.add; split <;> simp_all]
    rw [cell_blk (heap_alloc_new W (.cells cs.toArray e)) j]
    simpa using hu
  · refine h v1 w1 ⟨inner ++ cs, by rw [List.length_append, List.length_singleton]; exact r1, hr.snoc hp hcs⟩ ⟨r2.os, r2.tape, r2.output, Nat.le_trans (by simp) r2.size, fun k hk hn => ?_⟩
    rw [r2.block k (by simp; omega) hn, Below.heap_alloc _ _ _ hk]
end
section
variable {w w0 W W' : World} {pre : List Tok} {x : Tok}
theorem realL_off (h : x.kind = 1 ∨ x.kind = 2) : realL (pre ++ [x]) = realL pre := by
  have : realT x = false := by rcases h with h | h <;> simp [realT, h]
  simp [realL, List.filter_append, this]
theorem realL_on (h1 : ¬ x.kind = 1) (h2 : ¬ x.kind = 2) : realL (pre ++ [x]) = realL pre ++ [x] := by
  have : realT x = true := by simp [realT, h1, h2]
  simp [realL, List.filter_append, this]
theorem bad_snoc (h : ∀ t, t ∈ pre → t.kind ≠ 7) (h7 : ¬ x.kind = 7) : ∀ t, t ∈ pre ++ [x] → t.kind ≠ 7 := fun t ht => by
  rcases List.mem_append.1 ht with ht | ht
  · exact h t ht
  · rw [List.mem_singleton.1 ht]; exact h7
theorem real_off (hI : RealI w w0 pre W) (h7 : ¬ x.kind = 7) (h : x.kind = 1 ∨ x.kind = 2) : RealI w w0 (pre ++ [x]) W :=
  ⟨bad_snoc hI.bad h7, hI.x2, hI.x3, hI.x4, by rw [realL_off h]; exact hI.x5, hI.bel, hI.size⟩
theorem real_on {v v1 : Value} {H : List Nat} (hs : w0.heap.size = w.heap.size + 5) (hH : w.heap.size + 3 ∈ H) (hI : RealI w w0 pre W) (h7 : ¬ x.kind = 7) (h1 : ¬ x.kind = 1) (h2 : ¬ x.kind = 2) (hx5 : W.heap[w.heap.size + 3]? = some (.cells #[v] 219 (0, 0)))
    (hrow : OwnRow tokR 262 3 W w0.heap.size v (realL pre)) (hO : OwnRow tokR 262 3 W' w0.heap.size v1 (realL pre ++ [x])) (hg : W.grownBy W' v.ownBlock) :
    KeepsFrom w0.heap.size W (W'.setCell ⟨w.heap.size + 3, 0, none⟩ v1) ∧ But w0.heap.size H W (W'.setCell ⟨w.heap.size + 3, 0, none⟩ v1) ∧ RealI w w0 (pre ++ [x]) (W'.setCell ⟨w.heap.size + 3, 0, none⟩ v1) := by
  obtain ⟨inner, ho, hr⟩ := hrow
  obtain ⟨inner1, ho1, hr1⟩ := hO
  have hne : ∀ k, k < w0.heap.size → some k ≠ v.ownBlock := fun k hk e => by have := own_base ho k e.symm; omega
  have hk5 : W'.heap[w.heap.size + 3]? = some (.cells #[v] 219 (0, 0)) := (hg.block _ (by have := hI.size; omega) (hne _ (by omega))).trans hx5
  have hl : ∀ k, k < w0.heap.size → k ≠ w.heap.size + 3 → (W'.setCell ⟨w.heap.size + 3, 0, none⟩ v1).heap[k]? = W.heap[k]? := fun k hk hn =>
    (Below.heap_setCell _ _ _ k hn).trans (hg.block k (by have := hI.size; omega) (hne k hk))
  refine ⟨((KeepsOthers.of_grownBy hg (fun j o hj hjo => ?_)).trans (KeepsOthers.setCell _ _ _)).from _, ⟨hg.os, hg.tape, hg.output, by simpa using hg.size, fun k hk hn => hl k hk (fun e => hn (e ▸ hH))⟩, ?_⟩
  · obtain ⟨cells, hc⟩ := own_typed ho j hj
    rw [hjo] at hc; cases hc; rfl
  · refine ⟨bad_snoc hI.bad h7, (hl _ (by omega) (by omega)).trans hI.x2, (hl _ (by omega) (by omega)).trans hI.x3, (hl _ (by omega) (by omega)).trans hI.x4, ⟨v1, one_setCell hk5, ?_⟩, ?_, by have := hg.size; have := hI.size; simp; omega⟩
    · rw [realL_on h1 h2]
      refine ⟨inner1, own_move ho1 (fun k hk => Below.heap_setCell _ _ _ k (fun e => ?_)), hr1⟩
      have := own_base ho1 k hk
      simp only at e
      omega
    · exact (Below.trans hI.bel ⟨hg.os, hg.tape, hg.output, hg.size, fun k hk => hg.block k (Nat.lt_of_lt_of_le hk hI.bel.size) (hne k (by omega))⟩).setCell (by simp) _
theorem real_bad (hs : w0.heap.size = w.heap.size + 5) (hI : RealI w w0 pre W) (h7 : x.kind = 7) (B : Nat) :
    KeepsFrom B W (((W.setCell ⟨w.heap.size, 0, none⟩ (.slice none 0 0)).setCell ⟨w.heap.size + 1, 0, none⟩ (.int .i64 x.fr)).setCell ⟨w.heap.size + 1 + 1, 0, none⟩ (.iface 77 (.int .i64 2))).drew ∧
    RealX w .ret (pre ++ [x]) (((W.setCell ⟨w.heap.size, 0, none⟩ (.slice none 0 0)).setCell ⟨w.heap.size + 1, 0, none⟩ (.int .i64 x.fr)).setCell ⟨w.heap.size + 1 + 1, 0, none⟩ (.iface 77 (.int .i64 2))).drew := by
  refine ⟨((((KeepsOthers.setCell _ _ _).trans (KeepsOthers.setCell _ _ _)).trans (KeepsOthers.setCell _ _ _)).trans (KeepsOthers.drew _)).from _, rfl, ⟨pre, x, rfl, hI.bad, h7, ?_⟩, ?_, ?_, ?_⟩
  · show (World.setCell _ _ _).heap[_]? = _
    rw [Below.heap_setCell _ _ _ _ (by simp)]
    exact one_setCell ((Below.heap_setCell _ _ _ _ (by simp)).trans hI.x3)
  · show (World.setCell _ _ _).heap[_]? = _
    rw [Below.heap_setCell _ _ _ _ (by simp; omega), Below.heap_setCell _ _ _ _ (by simp)]
    exact one_setCell hI.x2
  · show (World.setCell _ _ _).heap[_]? = _
    exact one_setCell (((Below.heap_setCell _ _ _ _ (by simp)).trans (Below.heap_setCell _ _ _ _ (by simp; omega))).trans hI.x4)
  · exact (((hI.bel.setCell (Nat.le_refl _) _).setCell (by simp) _).setCell (by simp; omega) _).drew
end
theorem resR {tmps : Array Value} {W : World} {b2 b3 b4 : Nat} {v2 v3 v4 : Value} (h2 : tmps.getD 2 undef = .pointer (some ⟨b2, 0, none⟩)) (h3 : tmps.getD 3 undef = .pointer (some ⟨b3, 0, none⟩)) (h4 : tmps.getD 4 undef = .pointer (some ⟨b4, 0, none⟩))
    (c2 : W.cell? ⟨b2, 0, none⟩ = some v2) (c3 : W.cell? ⟨b3, 0, none⟩ = some v3) (c4 : W.cell? ⟨b4, 0, none⟩ = some v4) : (results Tryz.f110 tmps).run Tryz.prog W = .ok (.tuple #[v2, v3, v4]) W := by
  have h2' : tmps[2]?.getD undef = .pointer (some ⟨b2, 0, none⟩) := by simpa using h2
  have h3' : tmps[3]?.getD undef = .pointer (some ⟨b3, 0, none⟩) := by simpa using h3
  have h4' : tmps[4]?.getD undef = .pointer (some ⟨b4, 0, none⟩) := by simpa using h4
  simp [results, Tryz.results110, h2', h3', h4', go_sem, c2, c3, c4]
theorem below_putObj {B : Nat} {A W : World} (h : Below B A W) {D : Nat} (hD : B ≤ D) (o : Obj) : Below B A (W.putObj D o) :=
  h.trans ⟨rfl, rfl, rfl, by simp, fun k hk => World.putObj_heap_other (by omega)⟩
theorem cell_putObj {W : World} {D b : Nat} (o : Obj) (h : b ≠ D) : (W.putObj D o).cell? ⟨b, 0, none⟩ = W.cell? ⟨b, 0, none⟩ := World.cell?_of_block (World.putObj_heap_other h)
set_option maxHeartbeats 2000000 in
theorem Real_calls (s : ByteArray) (hs : s.size ≤ 4000) {w : World} (E : Env w) : Calls Tryz.prog 110 #[.string s] w fun e w' => Below w.heap.size w w' ∧ ((∃ A c, e = .returned (.tuple #[.slice A (realL (toksP s)).length c, .int .i64 0, .nilIface]) ∧ (realL (toksP s)).length ≤ c ∧ kTok.C w' A (realL (toksP s)).length (realL (toksP s)) ∧ (∀ t, t ∈ toksP s → t.kind ≠ 7) ∧ ∀ ad, A = some ad → w.heap.size ≤ ad.block ∧ ad.block < w'.heap.size) ∨ (∃ q t, (q ++ [t]) <+: toksP s ∧ (∀ t, t ∈ q → t.kind ≠ 7) ∧ t.kind = 7 ∧ e = .returned (.tuple #[.slice none 0 0, .int .i64 t.fr, .iface 77 (.int .i64 2)]))) := by
  have HE := Lib.hid E
  clear E
  refine (callsIn_wide (n := 3)).1 ?_
  refine callsIn_of_wp_marks Tryz.func110 rfl trivial ?_ rfl
  simp only [Tryz.ntmps110, List.size_toArray, List.length_cons, List.length_nil, Nat.reduceAdd, Nat.reduceSub, Array.replicate_succ, Array.replicate_zero, List.push_toArray, List.append_toArray, List.nil_append, List.cons_append]
  refine wpIn_wide.2 ?_
  go_wp2_with fail
  refine (All_calls s).mono ?_
  rintro e w1 ⟨rfl, hw1⟩
  have hs1 : w1.heap.size = w.heap.size + 5 := by rw [hw1]; simp
  have HX2 := Lib.hid (show w1.heap[w.heap.size]? = some (.cells #[.slice none 0 0] 219 (0, 0)) by
    rw [hw1]
    iterate 4 rw [Below.heap_alloc _ _ _ (by simp; try omega)]
    exact heap_alloc_new w _)
  have HX3 := Lib.hid (show w1.heap[w.heap.size + 1]? = some (.cells #[.int .i64 0] 3 (0, 0)) by
    rw [hw1]
    iterate 3 rw [Below.heap_alloc _ _ _ (by simp; try omega)]
    have := heap_alloc_new (w.alloc (.cells #[.slice none 0 0] 219)) (.cells #[.int .i64 0] 3); simpa using this)
  have HX4 := Lib.hid (show w1.heap[w.heap.size + 2]? = some (.cells #[.nilIface] 48 (0, 0)) by
    rw [hw1]
    iterate 2 rw [Below.heap_alloc _ _ _ (by simp; try omega)]
    have := heap_alloc_new ((w.alloc (.cells #[.slice none 0 0] 219)).alloc (.cells #[.int .i64 0] 3)) (.cells #[.nilIface] 48); simpa using this)
  have HX5 := Lib.hid (show w1.heap[w.heap.size + 3]? = some (.cells #[.slice none 0 0] 219 (0, 0)) by
    rw [hw1]
    rw [Below.heap_alloc _ _ _ (by simp; try omega)]
    have := heap_alloc_new (((w.alloc (.cells #[.slice none 0 0] 219)).alloc (.cells #[.int .i64 0] 3)).alloc (.cells #[.nilIface] 48)) (.cells #[.slice none 0 0] 219); simpa using this)
  have HX6 := Lib.hid (show w1.heap[w.heap.size + 4]? = some (.cells #[.string s] 9 (0, 0)) by
    rw [hw1]
    have := heap_alloc_new ((((w.alloc (.cells #[.slice none 0 0] 219)).alloc (.cells #[.int .i64 0] 3)).alloc (.cells #[.nilIface] 48)).alloc (.cells #[.slice none 0 0] 219)) (.cells #[.string s] 9); simpa using this)
  have hb1 : Below w.heap.size w w1 := by
    rw [hw1]
    exact (((((Below.refl _ _).alloc (Nat.le_refl _) _).alloc (by simp) _).alloc (by simp; omega) _).alloc (by simp; omega) _).alloc (by simp; omega) _
  have HB1 := Lib.hid hb1
  have HE1 := Lib.hid (HE.out.below hb1)
  have hlow := HE.out.low
  clear hw1 hb1
  go_wp2_with fail
  refine (wpIn_wide (n := 3)).1 ?_
  have hEW : ∀ W', But w1.heap.size [w.heap.size, w.heap.size + 1, w.heap.size + 2, w.heap.size + 3] w1 W' → Env W' := fun W' h => h.env HE1.out (by omega) (fun k hk => by simp at hk; omega)
  refine wpIn_rangeFunc_ownH (F := Fence.wide) (n := 3) (w := w1) (w0 := w1) rfl (by decide) (gf := 175) (lb := #[.pointer (some ⟨w.heap.size + 1 + 1 + 1 + 1, 0, none⟩)]) rfl trivial (enters_of Tryz.func175 (by kernel_rfl) rfl)
    (toks_stops (n := 2) (by decide) (H := [w.heap.size, w.heap.size + 1, w.heap.size + 2, w.heap.size + 3]) hs hEW ((cell_blk HX6.out 0).trans rfl) (by omega) (by simp; omega))
    (fun h k => h.trans k) (fun W l o o' hl _ _ _ => But.putObj W l o' hl) (Below.refl _ _) (fun _ => rfl) (RealI w w1) (RealX w) (real_own (by omega)) (realx_own (by omega)) ?start
    (fun x a' W => ∃ Bx, w1.heap.size ≤ Bx ∧ W.heap[Bx]? = some (.cells #[.int .i64 x.kind, .int .i64 x.fr, .int .i64 x.to] 262 (0, 0)) ∧ a' = { tmps := #[.string s, undef, .pointer (some ⟨w.heap.size, 0, none⟩), .pointer (some ⟨w.heap.size + 1, 0, none⟩), .pointer (some ⟨w.heap.size + 1 + 1, 0, none⟩), .pointer (some ⟨w.heap.size + 1 + 1 + 1, 0, none⟩), .pointer (some ⟨Bx, 0, none⟩), .string s, .func (.func 175) #[] #[.pointer (some ⟨w.heap.size + 1 + 1 + 1 + 1, 0, none⟩)], tokV x, undef, undef, undef, undef, undef, undef, undef, undef, undef, undef, undef, undef, undef, undef, undef], defers := [] })
    ?hax ?assign ?body ?done ?stop
  case start => exact ⟨(fun t h => by cases h), HX2.out, HX3.out, HX4.out, ⟨_, HX5.out, OwnRow.none_ _ _ _ _ _⟩, HB1.out, Nat.le_refl _⟩
  case hax =>
    intro x a'
    rintro _ W W' row ⟨Bx, h1, h2, h3⟩ hg hr
    exact ⟨Bx, h1, cells_kept hg hr h2, h3⟩
  case assign =>
    rintro l pre x W K hi hK
    gi_wp2
    exact hK _ _ ((KeepsOthers.alloc _ _).from _) (But.of_below ((Below.refl _ W).alloc (Nat.le_refl _) _) hi.size) ((real_own (by omega)).alloc _ hi) ⟨W.heap.size, hi.size, World.alloc_heap_new _ _, rfl⟩
  case body =>
    rintro l pre x a' W hl ⟨r, hr⟩ hI ⟨Bx, hBx, hX, rfl⟩ hlt
    have c0 := (cell_blk hX 0).trans rfl
    have c1 := (cell_blk hX 1).trans rfl
    have c2 := (cell_blk hX 2).trans rfl
    have HXX := Lib.hid hX
    have HII := Lib.hid hI
    have hbl : Bx < W.heap.size := (Array.getElem?_eq_some_iff.1 hX).1
    clear hX hI
    by_cases h7 : x.kind = 7
    · have HK := Lib.hid h7
      obtain ⟨xk, xf, xt⟩ := x
      simp only at h7 HK c0 c1 c2
      subst h7
      gi_wp2
      have y2 := (cell_blk HII.out.x2 0).trans rfl
      have y3 := (cell_blk HII.out.x3 0).trans rfl
      have y4 := (cell_blk HII.out.x4 0).trans rfl
      have f2 := frozen_blk HII.out.x2 0
      have f3 := frozen_blk HII.out.x3 0
      have f4 := frozen_blk HII.out.x4 0
      gi_region
      all_goals gi_wp2
      all_goals exact real_bad (x := ⟨7, xf, xt⟩) hs1 HII.out rfl _
    · by_cases h12 : x.kind = 1 ∨ x.kind = 2
      · obtain ⟨xk, xf, xt⟩ := x
        have HO := Lib.hid (real_off HII.out h7 h12)
        simp only at h7 h12 c0 c1 c2
        rcases h12 with rfl | rfl
        · gi_wp2
          exact ⟨KeepsFrom.refl _ _, But.refl _ _ _, HO.out⟩
        · gi_wp2
          exact ⟨KeepsFrom.refl _ _, But.refl _ _ _, HO.out⟩
      · have h1 : ¬ x.kind = 1 := fun e => h12 (.inl e)
        have h2 : ¬ x.kind = 2 := fun e => h12 (.inr e)
        clear h12
        obtain ⟨v, y5, hrow⟩ := HII.out.x5
        have y5c := (cell_blk y5 0).trans rfl
        have HR5 := Lib.hid y5
        have HROW := Lib.hid hrow
        have hL : (realL pre).length ≤ 4001 := Nat.le_of_lt (Nat.lt_of_le_of_lt (List.length_filter_le _ _) hlt)
        obtain ⟨A0, cc, rfl, -⟩ := hrow.slice_
        obtain ⟨q, hq⟩ : ∃ q, q = (realL pre).length := ⟨_, rfl⟩
        rw [← hq] at y5c HR5 HROW hL
        have HQ := Lib.hid hq
        clear y5 hrow hq
        obtain ⟨xk, xf, xt⟩ := x
        have H7 := Lib.hid h7
        have H1 := Lib.hid h1
        have H2 := Lib.hid h2
        simp only at h7 h1 h2 c0 c1 c2
        gi_wp2_with (gi_at_builtin; refine OwnRow.appendIn (R := tokR) w1.heap.size rfl (.tmp 12) (.tmp 14) 219 262 (.agg #[.int .i64 0, .int .i64 0, .int .i64 0]) 3 24 rfl (by kernel_rfl) (by kernel_rfl) rfl (by decide) (by decide) (.slice A0 q cc) (realL pre) ⟨xk, xf, xt⟩ [.int .i64 xk, .int .i64 xf, .int .i64 xt] rfl rfl rfl rfl (by simp [Value.oneCell']) HROW.out HII.out.size (by rw [← HQ.out]; omega) ?_; intro v1 w5 hO5 hg5; have hx5 := (hg5.block (w.heap.size + 3) (by have := HII.out.size; omega) (fun e => by have := HROW.out; obtain ⟨inn, ho, -⟩ := this; have := own_base ho _ e.symm; omega)).trans HR5.out; have y5d := (cell_blk hx5 0).trans rfl; have f5d := frozen_blk hx5 0; have HON := Lib.hid (real_on hs1 (H := [w.heap.size, w.heap.size + 1, w.heap.size + 2, w.heap.size + 3]) (by simp) HII.out H7.out H1.out H2.out HR5.out HROW.out hO5 hg5); obtain ⟨A5, c5, e5, -⟩ := hO5.slice_; (obtain ⟨q5, hq5⟩ : ∃ q, q = (realL pre ++ [(⟨xk, xf, xt⟩ : Tok)]).length := ⟨_, rfl⟩); rw [← hq5] at e5; clear hq5 hO5 hg5 hx5; subst e5)
        have hh := HON.out
        rw [hs1] at hh
        exact hh
  case done =>
    rintro D xs W hD hxs hI hK
    subst hxs
    obtain ⟨v, x5, hrow⟩ := hI.x5
    have y5 := (cell_blk x5 0).trans rfl
    have y2 := (cell_blk hI.x2 0).trans rfl
    have y3 := (cell_blk hI.x3 0).trans rfl
    have y4 := (cell_blk hI.x4 0).trans rfl
    have f2 := frozen_blk hI.x2 0
    have f3 := frozen_blk hI.x3 0
    have f4 := frozen_blk hI.x4 0
    obtain ⟨A0, cc, rfl, hlc⟩ := hrow.slice_
    obtain ⟨q, hq⟩ : ∃ q, q = (realL (toksP s)).length := ⟨_, rfl⟩
    have HROW := Lib.hid hrow
    have HII := Lib.hid hI
    have HKD := Lib.hid hK
    have HXX5 := Lib.hid x5
    rw [← hq] at HROW HXX5 y5 hlc
    have HQ := Lib.hid hq
    have HD := Lib.hid hD
    clear hI x5 hrow hq hK hD
    gi_wp2
    go_wp2
    have hK2 : ((((W.setCell ⟨w.heap.size, 0, none⟩ (.slice A0 q cc)).setCell ⟨w.heap.size + 1, 0, none⟩ (.int .i64 0)).setCell ⟨w.heap.size + 1 + 1, 0, none⟩ .nilIface)).heap[D]? = some (Obj.deferred (some [])) := by
      have := HD.out
      rw [Below.heap_setCell _ _ _ _ (by simp; omega), Below.heap_setCell _ _ _ _ (by simp; omega), Below.heap_setCell _ _ _ _ (by simp; omega)]
      exact HKD.out
    refine ⟨by simp, .inl ⟨_, _, rfl, run_takeDeferred hK2, ?_⟩⟩
    have hbw : Below w.heap.size w ((((W.setCell ⟨w.heap.size, 0, none⟩ (.slice A0 q cc)).setCell ⟨w.heap.size + 1, 0, none⟩ (.int .i64 0)).setCell ⟨w.heap.size + 1 + 1, 0, none⟩ .nilIface)) :=
      ((HII.out.bel.setCell (Nat.le_refl _) _).setCell (by simp) _).setCell (by simp; omega) _
    have hDD := HD.out
    have e2 : ((((W.setCell ⟨w.heap.size, 0, none⟩ (.slice A0 q cc)).setCell ⟨w.heap.size + 1, 0, none⟩ (.int .i64 0)).setCell ⟨w.heap.size + 1 + 1, 0, none⟩ .nilIface)).heap[w.heap.size]? = some (.cells #[.slice A0 q cc] 219 (0, 0)) := by
      rw [Below.heap_setCell _ _ _ _ (by simp; omega), Below.heap_setCell _ _ _ _ (by simp)]
      exact one_setCell HII.out.x2
    have e3 : ((((W.setCell ⟨w.heap.size, 0, none⟩ (.slice A0 q cc)).setCell ⟨w.heap.size + 1, 0, none⟩ (.int .i64 0)).setCell ⟨w.heap.size + 1 + 1, 0, none⟩ .nilIface)).heap[w.heap.size + 1]? = some (.cells #[.int .i64 0] 3 (0, 0)) := by
      rw [Below.heap_setCell _ _ _ _ (by simp)]
      exact one_setCell ((Below.heap_setCell _ _ _ _ (by simp)).trans HII.out.x3)
    have e4 : ((((W.setCell ⟨w.heap.size, 0, none⟩ (.slice A0 q cc)).setCell ⟨w.heap.size + 1, 0, none⟩ (.int .i64 0)).setCell ⟨w.heap.size + 1 + 1, 0, none⟩ .nilIface)).heap[w.heap.size + 1 + 1]? = some (.cells #[.nilIface] 48 (0, 0)) :=
      one_setCell (((Below.heap_setCell _ _ _ _ (by simp)).trans (Below.heap_setCell _ _ _ _ (by simp; omega))).trans HII.out.x4)
    have hrows : OwnRow tokR 262 3 (((((W.setCell ⟨w.heap.size, 0, none⟩ (.slice A0 q cc)).setCell ⟨w.heap.size + 1, 0, none⟩ (.int .i64 0)).setCell ⟨w.heap.size + 1 + 1, 0, none⟩ .nilIface)).putObj D (.deferred none)) w1.heap.size (.slice A0 q cc) (realL (toksP s)) := by
      obtain ⟨inner, ho, hr⟩ := HROW.out
      refine ⟨inner, own_move ho (fun k hk => ?_), hr⟩
      have hbk := own_base ho k hk
      obtain ⟨cells, hc⟩ := own_typed ho k hk
      have hKK := HKD.out
      have hne : k ≠ D := fun e => by rw [e, hKK] at hc; cases hc
      rw [World.putObj_heap_other hne, Below.heap_setCell _ _ _ _ (by simp; omega), Below.heap_setCell _ _ _ _ (by simp; omega), Below.heap_setCell _ _ _ _ (by simp; omega)]
    refine ⟨_, resR (b2 := w.heap.size) (b3 := w.heap.size + 1) (b4 := w.heap.size + 1 + 1) rfl rfl rfl ((cell_putObj _ (by omega)).trans ((cell_blk e2 0).trans rfl)) ((cell_putObj _ (by omega)).trans ((cell_blk e3 0).trans rfl)) ((cell_putObj _ (by omega)).trans ((cell_blk e4 0).trans rfl)), below_putObj hbw (by omega) _, .inl ?_⟩
    obtain ⟨A2, c2, ee, hle, hrd⟩ := hrows.reads
    have hqq := HQ.out
    cases ee
    obtain ⟨inner, ho, hr⟩ := hrows
    refine ⟨A0, cc, rfl, hle, ?_, HII.out.bad, fun ad e => ?_⟩
    · exact hrd.imp_ (Below.refl _ _) (fun p c h => by rw [show c = cTok p from h]; exact kTok_mk _ p)
    · have := own_base ho ad.block (by rw [e]; rfl)
      exact ⟨by omega, own_lt ho ad.block (by rw [e]; rfl)⟩
  case stop =>
    rintro D c pre W hD hpre hI hK
    obtain ⟨rfl, ⟨q, t, rfl, hq, h7, x3⟩, x2, x4, hbl⟩ := hI
    gi_wp2
    go_wp2
    refine ⟨by simp, .inl ⟨_, _, rfl, run_takeDeferred hK, ?_⟩⟩
    refine ⟨_, resR (b2 := w.heap.size) (b3 := w.heap.size + 1) (b4 := w.heap.size + 1 + 1) rfl rfl rfl ((cell_putObj _ (by omega)).trans ((cell_blk x2 0).trans rfl)) ((cell_putObj _ (by omega)).trans ((cell_blk x3 0).trans rfl)) ((cell_putObj _ (by omega)).trans ((cell_blk x4 0).trans rfl)), below_putObj hbl (by omega) _, .inr ⟨q, t, hpre, hq, h7, rfl⟩⟩
end Go.Proofs.YtbfkkepdeepdeaaGreatDoor
end
section
namespace Go.Proofs.YtbfkkepdeepdeaaGreatDoor
open Go Go.RowKit Go.Proofs.YtbfkkepdeepdeaaGreatDoorW.PrintWords Go.Proofs.YtbfkkepdeepdeaaGreatDoorW.PrintLast Go.Proofs.YtbfkkepdeepdeaaGreatDoorW.PrintMore
set_option linter.unusedVariables false
set_option linter.unusedSimpArgs false
set_option maxRecDepth 100000
attribute [local go_sem] Oper.semAt_some
def ChainT (n : Int) : Int → List Tok → Prop
  | _, [] => True
  | p, t :: r => p ≤ t.fr ∧ t.fr ≤ t.to ∧ t.to ≤ n ∧ ChainT n t.to r
theorem ChainT.from {n : Int} {p q : Int} {l : List Tok} (h : ChainT n q l) (hp : p ≤ q) : ChainT n p l := by
  cases l with
  | nil => trivial
  | cons t r => exact ⟨Int.le_trans hp h.1, h.2⟩
theorem ChainT.filter {n : Int} (f : Tok → Bool) : ∀ {p : Int} {l : List Tok}, ChainT n p l → ChainT n p (l.filter f)
  | _, [], _ => trivial
  | p, t :: r, ⟨h1, h2, h3, h4⟩ => by
    rw [List.filter_cons]
    split
    · exact ⟨h1, h2, h3, h4.filter f⟩
    · exact (h4.filter f).from (Int.le_trans h1 h2)
theorem toksG_chain : ∀ (f p : Nat) (l : List UInt8) (n : Nat), p + l.length ≤ n → ChainT n p (toksG f p l)
  | 0, _, _, _, _ => trivial
  | f + 1, p, [], n, _ => trivial
  | f + 1, p, c :: r, n, h => by
    obtain ⟨h1, h2⟩ := nextP_len c r
    unfold toksG
    simp only
    refine ⟨Int.le_refl _, by simp only; omega, by simp only; omega, ?_⟩
    have := toksG_chain f (p + (nextP (c :: r)).2) ((c :: r).drop (nextP (c :: r)).2) n (by rw [List.length_drop]; omega)
    exact_mod_cast this
theorem toksG_len : ∀ (f p : Nat) (l : List UInt8), (toksG f p l).length ≤ f
  | 0, _, _ => Nat.le_refl _
  | f + 1, p, [] => by unfold toksG; simp
  | f + 1, p, c :: r => by unfold toksG; simp only [List.length_cons]; have := toksG_len f (p + (nextP (c :: r)).2) ((c :: r).drop (nextP (c :: r)).2); omega
theorem chain_get {n : Int} : ∀ {L : List Tok} {p : Int} (_ : 0 ≤ p) (_ : ChainT n p L) (k : Nat) (t : Tok), L[k]? = some t → 0 ≤ t.fr ∧ t.fr ≤ t.to ∧ t.to ≤ n ∧ 0 ≤ (if k = 0 then p else lastOf L k) ∧ (if k = 0 then p else lastOf L k) ≤ t.fr
  | [], _, _, _, k, t, h => by simp at h
  | x :: r, p, h0, ⟨h1, h2, h3, h4⟩, 0, t, h => by
    simp only [List.getElem?_cons_zero, Option.some.injEq] at h
    subst h
    simp only [if_true]
    omega
  | x :: r, p, h0, ⟨h1, h2, h3, h4⟩, k + 1, t, h => by
    simp only [List.getElem?_cons_succ] at h
    have := chain_get (by omega) h4 k t h
    rw [if_neg (by omega)]
    cases k with
    | zero => simpa [lastOf] using this
    | succ k => simpa [lastOf] using this
theorem fit_real (s : ByteArray) (hs : s.size ≤ 4000) : Fit s (realL (toksP s)) := by
  have hl : (toksP s).length ≤ s.size := toksG_len _ _ _
  refine ⟨hs, Nat.le_trans (List.length_filter_le _ _) (by omega), fun k t hk => ?_⟩
  have hc := (toksG_chain s.size 0 s.data.toList s.size (by rw [Nat.zero_add, ← Lib.size_eq]; exact Nat.le_refl _)).filter realT
  have := chain_get (Int.le_refl 0) (by exact_mod_cast hc) k t hk
  cases k with
  | zero => simpa [lastOf] using this
  | succ k => simpa using this
def badOf (l : List Tok) : Option Int := (l.find? (fun t => decide (t.kind = 7))).map (·.fr)
theorem badOf_none {l : List Tok} (h : ∀ t, t ∈ l → t.kind ≠ 7) : badOf l = none := by
  unfold badOf
  rw [List.find?_eq_none.2 (fun t ht => by simpa using h t ht)]
  rfl
theorem badOf_some {q l : List Tok} {t : Tok} (hp : (q ++ [t]) <+: l) (h : ∀ t, t ∈ q → t.kind ≠ 7) (h7 : t.kind = 7) : badOf l = some t.fr := by
  obtain ⟨r, rfl⟩ := hp
  unfold badOf
  rw [List.append_assoc, List.find?_append, List.find?_eq_none.2 (fun t ht => by simpa using h t ht)]
  simp [h7]
def openP (s : ByteArray) : Option (Int × Int) := if 4000 < s.size then some (4000, 4) else (badOf (toksP s)).map (fun p => (p, 2))
abbrev u0 : Cu := ⟨0, 0, 0, 0⟩
theorem New_calls (s : ByteArray) {w : World} (E : Env w) : Calls Tryz.prog 73 #[.string s] w fun e w' => Below w.heap.size w w' ∧
    ((∃ p k, openP s = some (p, k) ∧ e = .returned (.tuple #[.pointer none, .int .i64 p, .iface 77 (.int .i64 k)])) ∨
     (openP s = none ∧ ∃ cb A c, w.heap.size ≤ cb ∧ e = .returned (.tuple #[.pointer (some ⟨cb, 0, none⟩), .int .i64 0, .nilIface]) ∧ RdP w' cb s A c (realL (toksP s)) u0)) := by
  have HE := Lib.hid E
  clear E
  by_cases hs : 4000 < s.size
  · have hi : (4000 : Int) < (s.size : Int) := by omega
    have HO := Lib.hid (show openP s = some (4000, 4) by unfold openP; rw [if_pos hs])
    clear hs
    go_enter Tryz.func73, Tryz.ntmps73
    go_wp2_with fail
    go_ret3
    exact ⟨Below.refl _ _, .inl ⟨_, _, HO.out, rfl⟩⟩
  · have hi : (s.size : Int) ≤ 4000 := by omega
    have HS := Lib.hid hs
    clear hs
    go_enter Tryz.func73, Tryz.ntmps73
    go_wp2_with fail
    refine (Real_calls s (by omega) HE.out).mono ?_
    rintro e w1 ⟨h1, ⟨A, c, rfl, hlc, hC, hb, hA⟩ | ⟨q, t, hp, hq, h7, rfl⟩⟩
    · have HO := Lib.hid (show openP s = none by unfold openP; rw [if_neg HS.out, badOf_none hb]; rfl)
      have HC := Lib.hid hC
      have HB1 := Lib.hid h1
      have HF := Lib.hid (fit_real s (by omega))
      obtain ⟨L, hL⟩ : ∃ L, L = realL (toksP s) := ⟨_, rfl⟩
      obtain ⟨n, hn⟩ : ∃ n, n = L.length := ⟨_, rfl⟩
      rw [← hL, ← hn] at HC hlc
      rw [← hL] at HF
      rw [← hL, ← hn]
      have HL := Lib.hid hL
      have HN := Lib.hid hn
      have HLT := Lib.hid hA
      clear hC h1 hA hb hL hn
      go_wp2_with fail
      go_ret3
      have hA1 : Below w1.heap.size w1 (w1.alloc (.cells #[.string s, .slice A n c, .int .i64 0, .int .i64 0, .int .i64 0, .int .i64 0, .int .i64 0] 223)) := (Below.refl _ _).alloc (Nat.le_refl _) _
      refine ⟨below_step HB1.out hA1, .inr ⟨HO.out, w1.heap.size, A, c, HB1.out.size, rfl, ?_⟩⟩
      rw [← HL.out]
      have hnn := HN.out
      refine ⟨?_, ?_, fun ad e => (HLT.out ad e).2, HF.out, Nat.zero_le _, Nat.zero_le _⟩
      · rw [← hnn]; exact World.alloc_heap_new w1 _
      · rw [← hnn]; exact Kd.C_below HC.out hA1
    · have HO := Lib.hid (show openP s = some (t.fr, 2) by unfold openP; rw [if_neg HS.out, badOf_some hp hq h7]; rfl)
      have HB1 := Lib.hid h1
      clear h1 hp hq h7
      go_wp2_with fail
      go_ret3
      exact ⟨HB1.out, .inl ⟨_, _, HO.out, rfl⟩⟩
end Go.Proofs.YtbfkkepdeepdeaaGreatDoor
end
section
namespace Go.Proofs.YtbfkkepdeepdeaaGreatDoor
open Go Go.RowKit Go.Proofs.YtbfkkepdeepdeaaGreatDoorW.PrintWords Go.Proofs.YtbfkkepdeepdeaaGreatDoorW.PrintLast Go.Proofs.YtbfkkepdeepdeaaGreatDoorW.PrintMore
set_option linter.unusedVariables false
set_option linter.unusedSimpArgs false
set_option maxRecDepth 100000
attribute [local go_sem] Oper.semAt_some
def readPd (s : ByteArray) : Pd ⊕ (Int × Int) := match openP s with
  | some (p, k) => .inr (p, k)
  | none => if (classes s (realL (toksP s))).2.err = 0 then .inl ⟨mk 2 (classes s (realL (toksP s))).1, endOf s (realL (toksP s)) (classes s (realL (toksP s))).2⟩
    else .inr ((classes s (realL (toksP s))).2.pos, (classes s (realL (toksP s))).2.err)
structure PdRes (H : List Nat) (w : World) (r : Pd ⊕ (Int × Int)) (e : Ending) (w' : World) : Prop where
  keep : Below w.heap.size w w'
  val : (∃ x A c, r = .inl x ∧ e = .returned (.tuple #[.agg (aPd x A c), .int .i64 0, .nilIface]) ∧ x.tree.kids.length ≤ c ∧ kNd.C (hole H w') A x.tree.kids.length x.tree.kids) ∨
    (∃ p k, r = .inr (p, k) ∧ e = .returned (.tuple #[.agg (aPd zPd none 0), .int .i64 p, .iface 77 (.int .i64 k)]))
theorem Pd_res {i j k : Nat} {F : Func} {tmps : Array Value} {W : World} {b : Nat} {x : Pd} {A : Option Addr} {c : Nat} (hF : F.results = #[.cell i 124, .tmp j, .tmp k]) (h : tmps.getD i undef = .pointer (some ⟨b, 0, none⟩)) (hb : W.heap[b]? = some (.cells (aPd x A c) 124 (0, 0))) :
    (results F tmps).run Tryz.prog W = .ok (.tuple #[.agg (aPd x A c), tmps.getD j undef, tmps.getD k undef]) W := by
  have h' : tmps[i]?.getD undef = .pointer (some ⟨b, 0, none⟩) := by simpa using h
  have c0 := cell_blk hb 0
  have c1 := cell_blk hb 1
  have c2 := cell_blk hb 2
  have c3 := cell_blk hb 3
  have c4 := cell_blk hb 4
  have c5 := cell_blk hb 5
  simp [results, hF, h', go_sem, c0, c1, c2, c3, c4, c5]
theorem set6 {W : World} {b : Nat} {a0 a1 a2 a3 a4 a5 : Value} {T : TypeId} (hb : W.heap[b]? = some (.cells #[a0, a1, a2, a3, a4, a5] T (0, 0))) (v0 v1 v2 v3 v4 v5 : Value) :
    ((((((W.setCell ⟨b, 0, none⟩ v0).setCell ⟨b, 1, none⟩ v1).setCell ⟨b, 2, none⟩ v2).setCell ⟨b, 3, none⟩ v3).setCell ⟨b, 4, none⟩ v4).setCell ⟨b, 5, none⟩ v5).heap[b]? = some (.cells #[v0, v1, v2, v3, v4, v5] T (0, 0)) :=
  heap_setCell_same (heap_setCell_same (heap_setCell_same (heap_setCell_same (heap_setCell_same (heap_setCell_same hb 0 v0) 1 v1) 2 v2) 3 v3) 4 v4) 5 v5
theorem keep6b {w W : World} {b : Nat} (h : Below w.heap.size w W) (hb : w.heap.size ≤ b) (v0 v1 v2 v3 v4 v5 : Value) :
    Below w.heap.size w ((((((W.setCell ⟨b, 0, none⟩ v0).setCell ⟨b, 1, none⟩ v1).setCell ⟨b, 2, none⟩ v2).setCell ⟨b, 3, none⟩ v3).setCell ⟨b, 4, none⟩ v4).setCell ⟨b, 5, none⟩ v5) :=
  (keep5b h hb v0 v1 v2 v3 v4).setCell (p := ⟨b, 5, none⟩) hb _
theorem low6 {W : World} {b k : Nat} (hk : k ≠ b) (v0 v1 v2 v3 v4 v5 : Value) :
    ((((((W.setCell ⟨b, 0, none⟩ v0).setCell ⟨b, 1, none⟩ v1).setCell ⟨b, 2, none⟩ v2).setCell ⟨b, 3, none⟩ v3).setCell ⟨b, 4, none⟩ v4).setCell ⟨b, 5, none⟩ v5).heap[k]? = W.heap[k]? := by
  rw [Below.heap_setCell _ _ _ _ hk, Below.heap_setCell _ _ _ _ hk, Below.heap_setCell _ _ _ _ hk, Below.heap_setCell _ _ _ _ hk, Below.heap_setCell _ _ _ _ hk, Below.heap_setCell _ _ _ _ hk]
theorem box6 {W : World} {b : Nat} {a0 a1 a2 a3 a4 a5 : Value} {T : TypeId} (h : W.heap[b]? = some (.cells #[a0, a1, a2, a3, a4, a5] T (0, 0))) :
    (W.cell? ⟨b, 0, none⟩ = some a0 ∧ W.cell? ⟨b, 1, none⟩ = some a1 ∧ W.cell? ⟨b, 2, none⟩ = some a2 ∧ W.cell? ⟨b, 3, none⟩ = some a3 ∧ W.cell? ⟨b, 4, none⟩ = some a4 ∧ W.cell? ⟨b, 5, none⟩ = some a5) ∧
    (W.frozen? ⟨b, 0, none⟩ = false ∧ W.frozen? ⟨b, 1, none⟩ = false ∧ W.frozen? ⟨b, 2, none⟩ = false ∧ W.frozen? ⟨b, 3, none⟩ = false ∧ W.frozen? ⟨b, 4, none⟩ = false ∧ W.frozen? ⟨b, 5, none⟩ = false) :=
  ⟨⟨(cell_blk h 0).trans rfl, (cell_blk h 1).trans rfl, (cell_blk h 2).trans rfl, (cell_blk h 3).trans rfl, (cell_blk h 4).trans rfl, (cell_blk h 5).trans rfl⟩, frozen_blk h 0, frozen_blk h 1, frozen_blk h 2, frozen_blk h 3, frozen_blk h 4, frozen_blk h 5⟩
theorem cls_left {s : ByteArray} {L : List Tok} (u : Cu) (h : 0 < left L u) : left L (cls s L u).2 < left L u := by
  unfold cls
  split
  · unfold main
    exact Nat.lt_of_le_of_lt ((((((any_adv _ _).trans (wants_adv _ _)).trans (any_adv _ _)).trans (wants_adv _ _)).trans (stmts_adv _)).trans (wants_adv _ _)).leftLe (take_left _ h)
  · simp only
    exact Nat.lt_of_le_of_lt ((((((any_adv _ _).trans (super_adv _)).trans (want_adv _ _)).trans (sevLoop_adv field_adv _ _ _)).trans (sevLoop_adv method_adv _ _ _)).trans (want_adv _ _)).leftLe (take_left _ h)
theorem lastOf_bound {s : ByteArray} {L : List Tok} (F : Fit s L) (n : Nat) : 0 ≤ lastOf L n ∧ lastOf L n ≤ (s.size : Int) := by
  cases n with
  | zero => exact ⟨Int.le_refl 0, Int.natCast_nonneg _⟩
  | succ k =>
    cases h : L[k]? with
    | none =>
      have e : lastOf L (k + 1) = 0 := by simp [lastOf, h]
      rw [e]; omega
    | some t =>
      have e : lastOf L (k + 1) = t.to := by simp [lastOf, h]
      rw [e]; have := F.tok k t h; omega
set_option maxHeartbeats 2000000 in
theorem Read_calls (s : ByteArray) {w : World} (E : Env w) (H : List Nat) (hH : ∀ k, k ∈ H → k < w.heap.size) : Calls Tryz.prog 61 #[.string s] w (PdRes H w (readPd s)) := by
  have HHH := Lib.hid hH
  clear hH
  obtain ⟨w1, hw1⟩ : ∃ w1, w1 = w.alloc (.cells (aPd zPd none 0) 124) := ⟨_, rfl⟩
  have hA1 : Below w.heap.size w w1 := by rw [hw1]; exact (Below.refl _ _).alloc (Nat.le_refl _) _
  have hz1 : w1.heap.size = w.heap.size + 1 := by rw [hw1]; simp
  have HY := Lib.hid (show w1.heap[w.heap.size]? = some (.cells (aPd zPd none 0) 124 (0, 0)) by rw [hw1]; exact World.alloc_heap_new w _)
  have HE1 := Lib.hid (E.below hA1)
  have HA := Lib.hid hA1
  clear hA1 E
  go_enter Tryz.func61, Tryz.ntmps61
  go_wp2_with fail
  have Ez := HE1.out
  rw [hw1] at Ez
  refine (New_calls s Ez).mono ?_
  clear Ez
  rintro e w2 ⟨h2, ⟨p, k, ho, rfl⟩ | ⟨ho, cb, A, c, hcb, rfl, R⟩⟩
  · rw [← hw1] at h2
    have hy2 := (h2.block w.heap.size (by omega)).trans HY.out
    obtain ⟨⟨b0, b1, b2, b3, b4, b5⟩, f0, f1, f2, f3, f4, f5⟩ := box6 hy2
    have HY2 := Lib.hid hy2
    have HK2 := Lib.hid (below_step HA.out h2)
    have HV := Lib.hid (show readPd s = .inr (p, k) by unfold readPd; rw [ho])
    clear hy2 h2 ho
    go_wp2_with fail
    exact bodyPost_ret (Pd_res (x := zPd) (A := none) (c := 0) Tryz.results61 rfl (set6 HY2.out _ _ _ _ _ _)) rfl ⟨keep6b HK2.out (Nat.le_refl _) _ _ _ _ _ _, .inr ⟨p, k, HV.out, rfl⟩⟩
  · rw [← hw1] at h2 hcb
    obtain ⟨L, hL⟩ : ∃ L, L = realL (toksP s) := ⟨_, rfl⟩
    rw [← hL] at R
    have HL := Lib.hid hL
    have HO := Lib.hid ho
    have HG := Lib.hid (show Good (cb :: w.heap.size :: H) cb w2 from ⟨List.mem_cons_self, fun k hk => by
      have := R.lt; have := h2.size
      rcases List.mem_cons.1 hk with e | hk
      · omega
      · rcases List.mem_cons.1 hk with e | hk
        · omega
        · have := HHH.out k hk; omega⟩)
    have HR0 := Lib.hid R
    have HY2 := Lib.hid ((h2.block w.heap.size (by omega)).trans HY.out)
    have HK2 := Lib.hid (below_step HA.out h2)
    have hll := R.fit.len
    have hcl := R.lt
    have hw2s : w1.heap.size ≤ w2.heap.size := h2.size
    clear hL ho R h2
    go_wp2_with fail
    go_loopw [8] (fun v wr => ∃ (f : Nat) (l : List Nd) (u2 : Cu) (H2 : List Nat), left L u2 ≤ f ∧ l.length + f ≤ L.length + 1 ∧ Hid (classes s L = sevLoop (fun c => decide (0 < left L c)) (cls s L) f l u2) ∧ Hid (u2.deep = 0) ∧ Hid (Lst w2.heap.size (cb :: w.heap.size :: H) wr H2 v l) ∧ Hid (RdP wr cb s A c L u2) ∧ Hid (Keep [cb] w2 wr)) (fun v wr => leftW cb L.length wr)
    case atStart =>
      have h0 : left L u0 ≤ L.length + 1 := by unfold left; split <;> omega
      exact ⟨L.length + 1, [], u0, (cb :: w.heap.size :: H), h0, by simp, Lib.hid rfl, Lib.hid rfl, Lib.hid (Lst.nil _ HG.out.all), HR0, Lib.hid (Keep.refl _ _)⟩
    case round =>
      obtain ⟨f, l, u2, H2, hf, hlen, hq, hdp, hLs, hR, hK⟩ := hrel
      rcases Nat.eq_zero_or_pos (left L u2) with h0 | h0
      · have HQ := Lib.hid (show classes s L = (l, u2) by rw [hq.out, sevLoop_end (by rw [h0]; rfl)])
        have HZ := Lib.hid h0
        clear h0 hq
        go_wp2_with fail
        refine (Left_calls hR.out).mono ?_
        rw [HZ.out]
        rintro e w3 ⟨rfl, h3⟩
        have HR3 := Lib.hid (hR.out.below h3)
        have HL3 := Lib.hid (hLs.out.keep (Keep.of_below h3) HG.out.cb (by omega))
        have HK3 := Lib.hid (hK.out.trans (Keep.of_below h3))
        clear h3
        go_wp2_with fail
        refine (Failed_calls HR3.out).mono ?_
        rintro e w4 ⟨pp, rfl, hpp, h4⟩
        have HR4 := Lib.hid (HR3.out.below h4)
        have HL4 := Lib.hid (HL3.out.keep (Keep.of_below h4) HG.out.cb (by omega))
        have HK4 := Lib.hid (HK3.out.trans (Keep.of_below h4))
        have HPP := Lib.hid hpp
        clear h4 hpp
        by_cases e0 : u2.err = 0
        · rw [show errV u2.err = .nilIface by unfold errV; rw [if_pos e0]]
          have HE0 := Lib.hid e0
          obtain ⟨A4, c4, e4, hle4, hC4⟩ := HL4.out.reads (fun k hk => by have := HG.out.all k hk; exact this)
          subst e4
          obtain ⟨q, hq⟩ : ∃ q, q = l.length := ⟨_, rfl⟩
          have HMK := Lib.hid (Make_calls (w := w4) (A := A4) (c := c4) 2 (cb :: w.heap.size :: H) (fun k hk => by have := HG.out.all k hk; have := HK4.out.size; omega) hC4 (by omega))
          rw [← hq] at HMK
          rw [← hq]
          have HQL := Lib.hid hq
          clear hC4 e0 hq
          go_wp2_with fail
          refine HMK.out.mono ?_
          rw [HQL.out]
          rintro e w5 ⟨A5, c5, rfl, hc5, hC5, h5⟩
          obtain ⟨n5, hn5⟩ : ∃ n, n = mk 2 l := ⟨_, rfl⟩
          have hk5 : n5.kids = l := by rw [hn5]; rfl
          rw [← hn5]
          rw [← hk5] at hc5 hC5
          have HN5 := Lib.hid hn5
          have HC5 := Lib.hid hC5
          have Hc5 := Lib.hid hc5
          have HR5 := Lib.hid (HR4.out.below h5)
          have HK5 := Lib.hid (HK4.out.trans (Keep.of_below h5))
          clear hn5 hk5 hc5 hC5 h5
          go_wp2_with fail
          refine (End_calls HR5.out HE0.out HZ.out (lastOf_bound HR5.out.fit _).1 (lastOf_bound HR5.out.fit _).2).mono ?_
          obtain ⟨en, hen⟩ : ∃ en, en = endOf s L u2 := ⟨_, rfl⟩
          rw [← hen]
          have HEN := Lib.hid hen
          rintro e w6 ⟨rfl, h6⟩
          have HV := Lib.hid (show readPd s = .inl ⟨n5, en⟩ by unfold readPd; rw [HO.out]; simp only [← HL.out, HQ.out]; rw [if_pos HE0.out, HN5.out, HEN.out])
          have HC6 := Lib.hid (up_C up_kNd (hole_more (H' := (cb :: w.heap.size :: H)) (Keep.of_below (H := []) h6) (fun k hk => .inl hk)) HC5.out)
          have HK6 := Lib.hid (HK5.out.trans (Keep.of_below h6))
          have hy6 := (HK6.out.block w.heap.size (by omega) (by simp; omega)).trans HY2.out
          obtain ⟨⟨b0, b1, b2, b3, b4, b5⟩, f0, f1, f2, f3, f4, f5⟩ := box6 hy6
          have HY6 := Lib.hid hy6
          have HKF := Lib.hid (show Below w.heap.size w w6 from HK2.out.trans ⟨HK6.out.os, HK6.out.tape, HK6.out.output, HK6.out.size, fun k hk => HK6.out.block k (by omega) (by simp; omega)⟩)
          clear hy6 h6 hen
          go_wp2_with fail
          refine bodyPost_ret (Pd_res (x := ⟨n5, en⟩) (A := A5) (c := c5) Tryz.results61 rfl (set6 HY6.out _ _ _ _ _ _)) rfl ⟨keep6b HKF.out (Nat.le_refl _) _ _ _ _ _ _, .inl ⟨⟨n5, en⟩, A5, c5, HV.out, rfl, Hc5.out, ?_⟩⟩
          refine up_C up_kNd (fun a v hc => ?_) HC6.out
          obtain ⟨n1, n2⟩ := hole_cell_iff.1 hc
          have hne : a.block ≠ w.heap.size := fun e => n1 (by rw [e]; simp)
          exact hole_cell_iff.2 ⟨fun e => n1 (List.mem_cons_of_mem _ (List.mem_cons_of_mem _ e)), (World.cell?_of_block (a := a) (low6 hne _ _ _ _ _ _)).trans n2⟩
        · rw [show errV u2.err = .iface 77 (.int .i64 u2.err) by unfold errV; rw [if_neg e0]]
          have hpq := HPP.out e0
          subst hpq
          have HV := Lib.hid (show readPd s = .inr (u2.pos, u2.err) by unfold readPd; rw [HO.out]; simp only [← HL.out, HQ.out]; rw [if_neg e0])
          have hy4 := (HK4.out.block w.heap.size (by omega) (by simp; omega)).trans HY2.out
          obtain ⟨⟨b0, b1, b2, b3, b4, b5⟩, f0, f1, f2, f3, f4, f5⟩ := box6 hy4
          have HY4 := Lib.hid hy4
          have HK5 := Lib.hid (show Below w.heap.size w w4 from HK2.out.trans ⟨HK4.out.os, HK4.out.tape, HK4.out.output, HK4.out.size, fun k hk => HK4.out.block k (by omega) (by simp; omega)⟩)
          clear e0 hy4
          go_wp2_with fail
          exact bodyPost_ret (Pd_res (x := zPd) (A := none) (c := 0) Tryz.results61 rfl (set6 HY4.out _ _ _ _ _ _)) rfl ⟨keep6b HK5.out (Nat.le_refl _) _ _ _ _ _ _, .inr ⟨_, _, HV.out, rfl⟩⟩
      · have hp := cls_left (s := s) u2 h0
        have hpos : 0 < f := by omega
        obtain ⟨g, rfl⟩ : ∃ g, f = g + 1 := ⟨f - 1, by omega⟩
        have HQ := Lib.hid (show classes s L = sevLoop (fun c => decide (0 < left L c)) (cls s L) g (l ++ [(cls s L u2).1]) (cls s L u2).2 by rw [hq.out]; conv => lhs; unfold sevLoop; rw [if_pos (by simpa using h0)])
        have HD2 := Lib.hid ((cls_adv (s := s) (L := L) u2).deep.trans hdp.out)
        obtain ⟨r1, hr1⟩ : ∃ r1, r1 = cls s L u2 := ⟨_, rfl⟩
        rw [← hr1] at hp HQ HD2
        have HR1 := Lib.hid hr1
        obtain ⟨A4, c4, e4, -⟩ := hLs.out.row.slice_
        subst e4
        obtain ⟨q, hq2⟩ : ∃ q, q = left L u2 := ⟨_, rfl⟩
        have HQ2 := Lib.hid hq2
        have hqi : (0 : Int) < (q : Int) := by omega
        clear hq hr1 h0 hq2
        go_wp2_with fail
        refine (Left_calls hR.out).mono ?_
        rw [← HQ2.out]
        rintro e w3 ⟨rfl, h3⟩
        have HR3 := Lib.hid (hR.out.below h3)
        have HL3 := Lib.hid (hLs.out.keep (Keep.of_below h3) HG.out.cb (by omega))
        have HK3 := Lib.hid (hK.out.trans (Keep.of_below h3))
        clear h3
        go_wp2_with fail
        refine (Class_calls (d := 200) (by rw [hdp.out]) HR3.out (HL3.out.good HG.out.cb)).mono ?_
        rw [← HR1.out]
        rintro e w5 ⟨⟨A5, c5, rfl, hl5, hC5⟩, R5, k5⟩
        have HL5 := Lib.hid (HL3.out.keep k5 HG.out.cb (by omega))
        have HK5 := Lib.hid (HK3.out.trans k5)
        have HR5 := Lib.hid R5
        have HC5 := Lib.hid hC5
        have Hl5 := Lib.hid hl5
        have HB5 := Lib.hid HK5.out.size
        have HN5 := Lib.hid (show l.length + 1 ≤ 1000000 by omega)
        clear R5 k5 hC5 hl5
        go_wp2_with ((with_reducible refine gate_builtin (b := .append) (xs := #[.tmp 25, .tmp 28]) rfl ?_); at_builtin; refine Lst.appendOne HL5.out rfl (.tmp 25) (.tmp 28) rfl rfl rfl Hl5.out HC5.out HB5.out HN5.out ?_; intro v6 w6 H6 hL6 hs6 hg6; (obtain ⟨A6, c6, e6, -⟩ := hL6.row.slice_); (obtain ⟨q6, hq6⟩ : ∃ q, q = (l ++ [r1.1]).length := ⟨_, rfl⟩); rw [← hq6] at e6; clear hq6; subst e6; have HL6 := Lib.hid hL6; have HG6 := Lib.hid hg6; have HR6 := Lib.hid (HR5.out.move (hg6.block cb HR5.out.lt (fun e => by have := HL5.out.base _ e.symm; omega)) (fun k hk => hg6.block k (by have := HR5.out.lt; omega) (fun e => by have := HL5.out.base _ e.symm; omega))); clear hL6 hg6)
        have HK6 := Lib.hid (HK5.out.lst HL5.out HG6.out (Nat.le_refl _))
        have hlm : (l ++ [r1.1]).length + g ≤ L.length + 1 := by simp; omega
        have hlf : left L r1.2 ≤ g := by have := HQ2.out; omega
        refine ⟨⟨g, l ++ [r1.1], r1.2, H6, hlf, hlm, HQ, HD2, HL6, HR6, HK6⟩, ?_⟩
        rw [HR6.out.leftW, hR.out.leftW]; exact hp
end Go.Proofs.YtbfkkepdeepdeaaGreatDoor
end
section
namespace Go.Proofs.YtbfkkepdeepdeaaGreatDoor
open Go Go.RowKit Go.Proofs.YtbfkkepdeepdeaaGreatDoorW.PrintWords Go.Proofs.YtbfkkepdeepdeaaGreatDoorW.PrintLast Go.Proofs.YtbfkkepdeepdeaaGreatDoorW.PrintMore
set_option linter.unusedVariables false
set_option linter.unusedSimpArgs false
set_option maxRecDepth 100000
attribute [local go_sem] Oper.semAt_some
def plainR (c : Nat) : Bool := (decide (97 ≤ c) && decide (c ≤ 122)) || ((decide (65 ≤ c) && decide (c ≤ 90)) || ((decide (48 ≤ c) && decide (c ≤ 57)) || (decide (c = 46) || (decide (c = 45) || decide (c = 95)))))
def strangeR (c : Nat) : Bool := !plainR c
def titleP (s : ByteArray) : Bool := decide (s ≠ noB) && (decide (s.size ≤ 40) && !decide (0 ≤ Lib.idxFunc strangeR true s))
theorem ret_b {a b : Bool} (h : a = b) : Ending.returned (.bool a) = .returned (.bool b) := by rw [h]
theorem plain_calls (c : Nat) (hc : c ≤ 1114111) (w : World) : Calls Tryz.prog 106 #[.int .i32 (c : Int)] w fun e w' => e = .returned (.bool (plainR c)) ∧ ∃ q, w' = w.drewN q := by
  have HV := Lib.hid (show plainR c = ((decide (97 ≤ (c : Int)) && decide ((c : Int) ≤ 122)) || ((decide (65 ≤ (c : Int)) && decide ((c : Int) ≤ 90)) || ((decide (48 ≤ (c : Int)) && decide ((c : Int) ≤ 57)) || (decide ((c : Int) = 46) || (decide ((c : Int) = 45) || decide ((c : Int) = 95)))))) by unfold plainR; rw [Bool.eq_iff_iff]; simp only [Bool.or_eq_true, Bool.and_eq_true, decide_eq_true_eq]; omega)
  go_enter Tryz.func106, Tryz.ntmps106
  go_wp2_with fail
  all_goals
    go_ret
    refine ⟨ret_b ?_, 0, rfl⟩
    rw [HV.out, Bool.eq_iff_iff]
    simp only [Bool.or_eq_true, Bool.and_eq_true, decide_eq_true_eq, beq_iff_eq, Bool.false_eq_true, iff_false, iff_true, true_iff, false_iff, true_and, and_true, false_or, or_false]
    omega
theorem strange_gives (c : Nat) (hc : c ≤ 1114111) (w : World) : FnGives Tryz.prog 105 #[] #[encR c] (.bool (strangeR c)) w := by
  show Calls Tryz.prog 105 #[.int .i32 (c : Int)] w fun e w' => e = .returned (.bool (strangeR c)) ∧ ∃ q, w' = w.drewN q
  have HP := Lib.hid (plain_calls c hc)
  obtain ⟨b, hb⟩ : ∃ b, b = plainR c := ⟨_, rfl⟩
  rw [← hb] at HP
  have HV := Lib.hid (show strangeR c = !b by unfold strangeR; rw [hb])
  clear hb
  go_enter Tryz.func105, Tryz.ntmps105
  go_wp2_with fail
  refine (HP.out _).mono ?_
  rintro e w1 ⟨rfl, q, rfl⟩
  go_wp2_with fail
  go_ret
  exact ⟨by rw [HV.out]; rfl, _, rfl⟩
theorem titled_calls (s : ByteArray) (w : World) : Calls Tryz.prog 71 #[.string s] w fun e w' => e = .returned (.bool (titleP s)) ∧ Below w.heap.size w w' := by
  have HC := Lib.hid (Tryz.strings_ContainsFunc_runes 105 #[] (enters_of Tryz.func105 (by kernel_rfl) rfl) strangeR s w (fun W x hx _ => strange_gives x hx W))
  obtain ⟨b, hb⟩ : ∃ b, b = decide (0 ≤ Lib.idxFunc strangeR true s) := ⟨_, rfl⟩
  rw [← hb] at HC
  have HV := Lib.hid (show titleP s = (decide (s ≠ noB) && (decide (s.size ≤ 40) && !b)) by unfold titleP; rw [← hb])
  clear hb
  by_cases h0 : s = noB
  · subst h0
    have HV2 := Lib.hid (show titleP noB = false by rw [HV.out]; rfl)
    clear HC
    go_enter Tryz.func71, Tryz.ntmps71
    go_wp2_with fail
    go_ret
    exact ⟨by rw [HV2.out]; rfl, Below.refl _ _⟩
  · have hne : ¬ s.toList = [] := fun e => h0 (toList_inj.1 (e.trans (by rw [toList_data])))
    have HN := Lib.hid h0
    by_cases h1 : s.size ≤ 40
    · have h1i : (s.size : Int) ≤ 40 := by omega
      have HV2 := Lib.hid (show titleP s = !b by rw [HV.out]; simp [h0, h1])
      clear h0 h1
      go_enter Tryz.func71, Tryz.ntmps71
      go_wp2_with fail
      refine HC.out.mono ?_
      rintro e w1 ⟨rfl, hb1⟩
      go_wp2_with fail
      go_ret
      exact ⟨ret_b (by rw [HV2.out, List.isEmpty_eq_false_iff.2 hne]; rfl), hb1⟩
    · have h1i : (40 : Int) < (s.size : Int) := by omega
      have HV2 := Lib.hid (show titleP s = false by rw [HV.out]; simp [h1])
      clear h0 h1 HC
      go_enter Tryz.func71, Tryz.ntmps71
      go_wp2_with fail
      go_ret
      exact ⟨by rw [HV2.out]; rfl, Below.refl _ _⟩
def placeP (l : List Fl) (n : ByteArray) : Int := match l.findIdx? (fun f => decide (f.name = n)) with
  | some k => k
  | none => -1
theorem place1_calls (f : Fl) (n : ByteArray) {w : World} {bn : Nat} (hn : w.cell? ⟨bn, 0, none⟩ = some (.string n)) : Calls Tryz.prog 109 #[.agg (aFl f), .pointer (some ⟨bn, 0, none⟩)] w fun e w' => e = .returned (.bool (decide (f.name = n))) ∧ Below w.heap.size w w' := by
  have hlt := cell_block hn
  have HB := Lib.hid ((Below.refl w.heap.size w).alloc (Nat.le_refl _) (.cells (aFl f) 85))
  have hn2 := cell_later HB.out hn
  go_enter Tryz.func109, Tryz.ntmps109
  go_wp2_with fail
  go_ret
  exact ⟨ret_b (by rw [Bool.eq_iff_iff]; simp [toList_inj]), HB.out⟩
theorem findIdx_not {l : List Fl} {n : ByteArray} (h : ∀ j, j < l.length → (l.getD j zFl).name ≠ n) : placeP l n = -1 := by
  unfold placeP
  rw [List.findIdx?_eq_none_iff.2 (fun x hx => by
    obtain ⟨j, hj, rfl⟩ := List.mem_iff_getElem.1 hx
    have := h j hj
    rw [List.getD_eq_getElem?_getD, List.getElem?_eq_getElem hj] at this
    simpa using this)]
theorem findIdx_at {l : List Fl} {n : ByteArray} {i : Nat} (hi : i < l.length) (h : ∀ j, j < i → (l.getD j zFl).name ≠ n) (hn : (l.getD i zFl).name = n) : placeP l n = i := by
  unfold placeP
  have : l.findIdx? (fun f => decide (f.name = n)) = some i := by
    rw [List.findIdx?_eq_some_iff_getElem]
    refine ⟨hi, ?_, fun j hj => ?_⟩
    · rw [List.getD_eq_getElem?_getD, List.getElem?_eq_getElem hi] at hn; simpa using hn
    · have := h j hj
      rw [List.getD_eq_getElem?_getD, List.getElem?_eq_getElem (by omega)] at this; simpa using this
  rw [this]
theorem IndexFunc_calls {w : World} {A : Option Addr} {n c : Nat} {l : List Fl} (h : kFl.C w A n l) (s : ByteArray) {bn : Nat} (hn : w.cell? ⟨bn, 0, none⟩ = some (.string s)) :
    Calls Tryz.prog 108 #[.slice A n c, .func (.func 109) #[] #[.pointer (some ⟨bn, 0, none⟩)]] w fun e w' => e = .returned (.int .i64 (placeP l s)) ∧ Below w.heap.size w w' := by
  have hlen := h.1
  have hmax := h.2.1
  have HN := Lib.hid hn
  have HH := Lib.hid h
  have HL := Lib.hid hlen
  clear h hn hlen
  go_enter Tryz.func108, Tryz.ntmps108
  go_wp2_with fail
  go_loopw [8] (fun v wr => ∃ i : Nat, v = .int .i64 i ∧ i ≤ n ∧ Hid (∀ j, j < i → (l.getD j zFl).name ≠ s) ∧ Hid (Below w.heap.size w wr)) (fun v _ => n - (intOf v).toNat)
  case atStart => exact ⟨0, rfl, Nat.zero_le _, Lib.hid (fun j hj => by omega), Lib.hid (Below.refl _ _)⟩
  case round =>
    obtain ⟨i, rfl, hin, hno, hb⟩ := hrel
    by_cases hlt : i < n
    · have hlti : (i : Int) < (n : Int) := by omega
      obtain ⟨ad, e, c0, c1⟩ := kFl_at (fun a v h => cell_later hb.out h) HH.out i hlt
      subst e
      obtain ⟨f, hf⟩ : ∃ f, f = l.getD i zFl := ⟨_, rfl⟩
      rw [← hf] at c0 c1
      have HF := Lib.hid hf
      clear hf
      go_wp2_with fail
      refine (place1_calls f s (cell_later hb.out HN.out)).mono ?_
      by_cases hfs : f.name = s
      · rw [decide_eq_true hfs]
        rintro e w2 ⟨rfl, h2⟩
        have HV := Lib.hid (show placeP l s = i from findIdx_at (by have := HL.out; omega) hno.out (by rw [← HF.out]; exact hfs))
        have HB2 := Lib.hid (below_step hb.out h2)
        clear h2
        go_wp2_with fail
        go_ret
        exact ⟨by rw [HV.out]; rfl, HB2.out⟩
      · rw [decide_eq_false hfs]
        rintro e w2 ⟨rfl, h2⟩
        have HB2 := Lib.hid (below_step hb.out h2)
        have HN2 := Lib.hid (show ∀ j, j < i + 1 → (l.getD j zFl).name ≠ s from fun j hj => by
          rcases Nat.lt_or_ge j i with h | h
          · exact hno.out j h
          · rw [show j = i by omega, ← HF.out]; exact hfs)
        clear h2 hfs
        go_wp2_with fail
        exact ⟨⟨i + 1, by simp, by omega, HN2, HB2⟩, by simp only [intOf]; omega⟩
    · have hge : (n : Int) ≤ (i : Int) := by omega
      have HV := Lib.hid (show placeP l s = -1 from findIdx_not (fun j hj => hno.out j (by have := HL.out; omega)))
      go_wp2_with fail
      go_ret
      exact ⟨by rw [HV.out]; rfl, hb.out⟩
theorem place_calls {w : World} {A : Option Addr} {n c : Nat} {l : List Fl} (h : kFl.C w A n l) (s : ByteArray) : Calls Tryz.prog 72 #[.slice A n c, .string s] w fun e w' => e = .returned (.int .i64 (placeP l s)) ∧ Below w.heap.size w w' := by
  have hB : Below w.heap.size w (w.alloc (.cells #[.string s] 9)) := (Below.refl _ _).alloc (Nat.le_refl _) _
  have HC := Lib.hid (IndexFunc_calls (c := c) (Kd.C_below h hB) s (bn := w.heap.size) ((cell_blk (World.alloc_heap_new w (.cells #[.string s] 9)) 0).trans rfl))
  have HB := Lib.hid hB
  clear h hB
  go_enter Tryz.func72, Tryz.ntmps72
  go_wp2_with fail
  refine HC.out.mono ?_
  rintro e w1 ⟨rfl, h1⟩
  go_wp2_with fail
  go_ret
  exact ⟨rfl, below_step HB.out h1⟩
def fileP (l : List Fl) (i : Nat) : Bool := titleP (l.getD i zFl).name && (decide ((l.getD i zFl).text.size ≤ 4000) && decide (placeP l (l.getD i zFl).name = i))
def rightP (l : List Fl) : Bool := decide (1 ≤ l.length) && (decide (l.length ≤ 8) && (List.range l.length).all (fileP l))
set_option maxHeartbeats 1000000 in
theorem Right_calls {w : World} {A : Option Addr} {n c : Nat} {l : List Fl} (h : kFl.C w A n l) : Calls Tryz.prog 60 #[.slice A n c] w fun e w' => e = .returned (.bool (rightP l)) ∧ Below w.heap.size w w' := by
  have hlen := h.1
  have hmax := h.2.1
  have HH := Lib.hid h
  have HL := Lib.hid hlen
  clear h hlen
  rcases Nat.eq_zero_or_pos n with h0 | h0
  · have HV := Lib.hid (show rightP l = false by unfold rightP; rw [decide_eq_false (by have := HL.out; omega)]; rfl)
    have hn0 : (n : Int) = 0 := by omega
    go_enter Tryz.func60, Tryz.ntmps60
    go_wp2_with fail
    go_ret
    exact ⟨by rw [HV.out]; rfl, Below.refl _ _⟩
  · have hn0 : ((n : Int) == 0) = false := by simp; omega
    rcases Nat.lt_or_ge 8 n with h8 | h8
    · have HV := Lib.hid (show rightP l = false by unfold rightP; rw [decide_eq_false (p := l.length ≤ 8) (by have := HL.out; omega)]; simp)
      have hn8 : (8 : Int) < (n : Int) := by omega
      go_enter Tryz.func60, Tryz.ntmps60
      go_wp2_with fail
      go_ret
      exact ⟨by rw [HV.out]; rfl, Below.refl _ _⟩
    · have hn8 : (n : Int) ≤ 8 := by omega
      go_enter Tryz.func60, Tryz.ntmps60
      go_wp2_with fail
      go_loopw [15] (fun v wr => ∃ i : Nat, v = .int .i64 i ∧ i ≤ n ∧ Hid (∀ j, j < i → fileP l j = true) ∧ Hid (Below w.heap.size w wr)) (fun v _ => n - (intOf v).toNat)
      case atStart => exact ⟨0, rfl, Nat.zero_le _, Lib.hid (fun j hj => by omega), Lib.hid (Below.refl _ _)⟩
      case round =>
        obtain ⟨i, rfl, hin, hok, hb⟩ := hrel
        by_cases hlt : i < n
        · have hlti : (i : Int) < (n : Int) := by omega
          obtain ⟨ad, e, c0, c1⟩ := kFl_at (fun a v h => cell_later hb.out h) HH.out i hlt
          subst e
          obtain ⟨f, hf⟩ : ∃ f, f = l.getD i zFl := ⟨_, rfl⟩
          rw [← hf] at c0 c1
          have HF := Lib.hid hf
          have HBAD := Lib.hid (show fileP l i = false → rightP l = false from fun h => by
            unfold rightP
            rw [show (List.range l.length).all (fileP l) = false from List.all_eq_false.2 ⟨i, List.mem_range.2 (by have := HL.out; omega), by rw [h]; simp⟩]
            simp)
          have HFP := Lib.hid (show fileP l i = (titleP f.name && (decide (f.text.size ≤ 4000) && decide (placeP l f.name = i))) by unfold fileP; rw [← hf])
          obtain ⟨t, ht⟩ : ∃ t, t = titleP f.name := ⟨_, rfl⟩
          have HT := Lib.hid (titled_calls f.name)
          rw [← ht] at HT HFP
          clear hf ht
          have hB2 : Below wr.heap.size wr (wr.alloc (.cells (aFl f) 85)) := (Below.refl _ _).alloc (Nat.le_refl _) _
          have HB2 := Lib.hid (below_step hb.out hB2)
          have HX := Lib.hid (World.alloc_heap_new wr (.cells (aFl f) 85))
          clear hB2
          go_wp2_with fail
          refine (HT.out _).mono ?_
          cases t with
          | false =>
            rintro e w2 ⟨rfl, h2⟩
            have HV := Lib.hid (HBAD.out (by rw [HFP.out]; rfl))
            have HB3 := Lib.hid (below_step HB2.out h2)
            clear h2
            go_wp2_with fail
            go_ret
            exact ⟨by rw [HV.out]; rfl, HB3.out⟩
          | true =>
            rintro e w2 ⟨rfl, h2⟩
            have hx2 := (h2.block wr.heap.size (by simp)).trans HX.out
            have x0 := (cell_blk hx2 0).trans rfl
            have x1 := (cell_blk hx2 1).trans rfl
            have HB3 := Lib.hid (below_step HB2.out h2)
            clear h2 hx2
            by_cases h4 : f.text.size ≤ 4000
            · have h4i : (f.text.size : Int) ≤ 4000 := by omega
              have HPC := Lib.hid (place_calls (c := c) (Kd.C_below HH.out HB3.out) f.name)
              obtain ⟨p, hp⟩ : ∃ p, p = placeP l f.name := ⟨_, rfl⟩
              rw [← hp] at HPC
              have HP := Lib.hid hp
              have HH4 := Lib.hid h4
              clear hp h4
              go_wp2_with fail
              refine HPC.out.mono ?_
              rintro e w3 ⟨rfl, h3⟩
              have HB4 := Lib.hid (below_step HB3.out h3)
              clear h3
              by_cases hpi : p = i
              · have HOK := Lib.hid (show ∀ j, j < i + 1 → fileP l j = true from fun j hj => by
                  rcases Nat.lt_or_ge j i with h | h
                  · exact hok.out j h
                  · rw [show j = i by omega, HFP.out, ← HP.out, hpi]; simp [HH4.out])
                subst hpi
                go_wp2_with fail
                exact ⟨⟨i + 1, by simp, by omega, HOK, HB4⟩, by simp only [intOf]; omega⟩
              · have HV := Lib.hid (HBAD.out (by rw [HFP.out, ← HP.out]; simp [hpi]))
                have hne : (p != (i : Int)) = true := by simpa using hpi
                clear hpi
                go_wp2_with fail
                go_ret
                exact ⟨by rw [HV.out]; rfl, HB4.out⟩
            · have h4i : (4000 : Int) < (f.text.size : Int) := by omega
              have HV := Lib.hid (HBAD.out (by rw [HFP.out]; simp [h4]))
              clear h4
              go_wp2_with fail
              go_ret
              exact ⟨by rw [HV.out]; rfl, HB3.out⟩
        · have hge : (n : Int) ≤ (i : Int) := by omega
          have HV := Lib.hid (show rightP l = true by
            unfold rightP
            rw [decide_eq_true (show 1 ≤ l.length by have := HL.out; omega), decide_eq_true (show l.length ≤ 8 by have := HL.out; omega)]
            simp only [Bool.true_and]
            exact List.all_eq_true.2 (fun j hj => hok.out j (by have := List.mem_range.1 hj; have := HL.out; omega)))
          go_wp2_with fail
          go_ret
          exact ⟨by rw [HV.out]; rfl, hb.out⟩
end Go.Proofs.YtbfkkepdeepdeaaGreatDoor
end
section
namespace Go.Proofs.YtbfkkepdeepdeaaGreatDoor
open Go Go.RowKit Go.Proofs.YtbfkkepdeepdeaaGreatDoorW.PrintWords Go.Proofs.YtbfkkepdeepdeaaGreatDoorW.PrintLast Go.Proofs.YtbfkkepdeepdeaaGreatDoorW.PrintMore
set_option linter.unusedVariables false
set_option linter.unusedSimpArgs false
set_option maxRecDepth 100000
attribute [local go_sem] Oper.semAt_some
theorem up_kPd : Up kPd := up_iso _ (up_pair up_kNd up_string)
theorem appPd : AppInfo kPd 117 124 := ⟨.agg (aPd zPd none 0), 88, by kernel_rfl, by kernel_rfl, rfl, by decide, by decide, by decide⟩
abbrev Fail3 := Int × Int × Int
def stepPd (i : Nat) (r : Pd ⊕ (Int × Int)) (t : List Pd ⊕ Fail3) : List Pd ⊕ Fail3 := match r with
  | .inr (p, k) => .inr (i, p, k)
  | .inl x => match t with
    | .inl t => .inl (x :: t)
    | .inr e => .inr e
def allPdF : Nat → List Fl → List Pd ⊕ Fail3
  | _, [] => .inl []
  | i, f :: r => stepPd i (readPd f.text) (allPdF (i + 1) r)
def joinPd (pre : List Pd) : List Pd ⊕ Fail3 → List Pd ⊕ Fail3
  | .inl t => .inl (pre ++ t)
  | .inr e => .inr e
theorem joinPd_snoc (i : Nat) (pre : List Pd) (x : Pd) (r : List Pd ⊕ Fail3) : joinPd pre (stepPd i (.inl x) r) = joinPd (pre ++ [x]) r := by
  cases r <;> simp [joinPd, stepPd]
def allPd (l : List Fl) : List Pd ⊕ Fail3 := if rightP l = true then allPdF 0 l else .inr (0, 0, 2)
theorem allPdF_drop {l : List Fl} {i : Nat} (hi : i < l.length) : allPdF i (l.drop i) = stepPd i (readPd (l.getD i zFl).text) (allPdF (i + 1) (l.drop (i + 1))) := by
  rw [List.drop_eq_getElem_cons hi]
  rw [show l.getD i zFl = l[i] by rw [List.getD_eq_getElem?_getD, List.getElem?_eq_getElem hi]; rfl]
  rfl
theorem res3c {i j k : Nat} {F : Func} {tmps : Array Value} {W : World} {b : Nat} {p q : Int} (hF : F.results = #[.tmp i, .cell j 46, .tmp k]) (h : tmps.getD j undef = .pointer (some ⟨b, 0, none⟩)) (hb : W.heap[b]? = some (.cells #[.int .i64 p, .int .i64 q] 46 (0, 0))) :
    (results F tmps).run Tryz.prog W = .ok (.tuple #[tmps.getD i undef, .agg #[.int .i64 p, .int .i64 q], tmps.getD k undef]) W := by
  have h' : tmps[j]?.getD undef = .pointer (some ⟨b, 0, none⟩) := by simpa using h
  have c0 := cell_blk hb 0
  have c1 := cell_blk hb 1
  simp [results, hF, h', go_sem, c0, c1]
theorem set2 {W : World} {b : Nat} {a0 a1 : Value} {T : TypeId} (hb : W.heap[b]? = some (.cells #[a0, a1] T (0, 0))) (v0 v1 : Value) :
    ((W.setCell ⟨b, 0, none⟩ v0).setCell ⟨b, 1, none⟩ v1).heap[b]? = some (.cells #[v0, v1] T (0, 0)) := heap_setCell_same (heap_setCell_same hb 0 v0) 1 v1
theorem keep2b {w W : World} {b : Nat} (h : Below w.heap.size w W) (hb : w.heap.size ≤ b) (v0 v1 : Value) : Below w.heap.size w ((W.setCell ⟨b, 0, none⟩ v0).setCell ⟨b, 1, none⟩ v1) :=
  (h.setCell (p := ⟨b, 0, none⟩) hb _).setCell (p := ⟨b, 1, none⟩) hb _
structure AllRes {α : Type} (d : Kd α) (w : World) (r : List α ⊕ Fail3) (e : Ending) (w' : World) : Prop where
  keep : Below w.heap.size w w'
  val : (∃ l A c, r = .inl l ∧ e = .returned (.tuple #[.slice A l.length c, .agg #[.int .i64 0, .int .i64 0], .nilIface]) ∧ l.length ≤ c ∧ d.C w' A l.length l) ∨
    (∃ f p k, r = .inr (f, p, k) ∧ e = .returned (.tuple #[.slice none 0 0, .agg #[.int .i64 f, .int .i64 p], .iface 77 (.int .i64 k)]))
set_option maxHeartbeats 2000000 in
theorem All_files {w : World} {A : Option Addr} {n c : Nat} {l : List Fl} (h : kFl.C w A n l) (E : Env w) : Calls Tryz.prog 43 #[.slice A n c] w (AllRes kPd w (allPd l)) := by
  obtain ⟨w1, hw1⟩ : ∃ w1, w1 = w.alloc (.cells #[.int .i64 0, .int .i64 0] 46) := ⟨_, rfl⟩
  have hA1 : Below w.heap.size w w1 := by rw [hw1]; exact (Below.refl _ _).alloc (Nat.le_refl _) _
  have hz1 : w1.heap.size = w.heap.size + 1 := by rw [hw1]; simp
  have HY := Lib.hid (show w1.heap[w.heap.size]? = some (.cells #[.int .i64 0, .int .i64 0] 46 (0, 0)) by rw [hw1]; exact World.alloc_heap_new w _)
  have HE1 := Lib.hid (E.below hA1)
  have HA := Lib.hid hA1
  have HH := Lib.hid (Kd.C_below h hA1)
  have hlen := h.1
  have hmax := h.2.1
  have HL := Lib.hid hlen
  clear hA1 E h hlen
  go_enter Tryz.func43, Tryz.ntmps43
  go_wp2_with fail
  have Hz := HH.out
  rw [hw1] at Hz
  refine (Right_calls (c := c) Hz).mono ?_
  clear Hz
  cases hr : rightP l with
  | false =>
    rintro e w2 ⟨rfl, h2⟩
    rw [← hw1] at h2
    have HV := Lib.hid (show allPd l = .inr (0, 0, 2) by unfold allPd; rw [if_neg (by rw [hr]; simp)])
    have hy2 := (h2.block w.heap.size (by omega)).trans HY.out
    have x0 := (cell_blk hy2 0).trans rfl
    have x1 := (cell_blk hy2 1).trans rfl
    have f0 := frozen_blk hy2 0
    have f1 := frozen_blk hy2 1
    have HY2 := Lib.hid hy2
    have HK2 := Lib.hid (below_step HA.out h2)
    clear h2 hy2 hr
    go_wp2_with fail
    exact bodyPost_ret (res3c (p := 0) (q := 0) Tryz.results43 rfl (set2 HY2.out _ _)) rfl ⟨keep2b HK2.out (Nat.le_refl _) _ _, .inr ⟨0, 0, 2, HV.out, rfl⟩⟩
  | true =>
    rintro e w2 ⟨rfl, h2⟩
    rw [← hw1] at h2
    have HV0 := Lib.hid (show allPd l = allPdF 0 l by unfold allPd; rw [if_pos hr])
    have HY2 := Lib.hid ((h2.block w.heap.size (by omega)).trans HY.out)
    have HK2 := Lib.hid (below_step HA.out h2)
    have HE2 := Lib.hid (HE1.out.below h2)
    have HH2 := Lib.hid (Kd.C_below HH.out h2)
    have hz2 : w.heap.size < w2.heap.size := by have := h2.size; omega
    have hn8 : n ≤ 8 := by
      unfold rightP at hr
      simp only [Bool.and_eq_true, decide_eq_true_eq] at hr
      have := HL.out; omega
    clear h2 hr
    go_wp2_with fail
    go_loopw [5, 18] (fun v k wr => ∃ (i : Nat) (pre : List Pd) (H2 : List Nat), k = .int .i64 i ∧ i ≤ n ∧ pre.length = i ∧ Hid (allPd l = joinPd pre (allPdF i (l.drop i))) ∧ Hid (LsK kPd 124 w2.heap.size [w.heap.size] wr H2 v pre) ∧ Hid (Below w2.heap.size w2 wr)) (fun v k _ => n - (intOf k).toNat)
    case atStart =>
      refine ⟨0, [], [w.heap.size], rfl, Nat.zero_le _, rfl, Lib.hid ?_, Lib.hid (LsK.nil _ (fun k hk => by simp at hk; omega)), Lib.hid (Below.refl _ _)⟩
      rw [HV0.out, List.drop_zero]
      cases allPdF 0 l <;> simp [joinPd]
    case round =>
      obtain ⟨i, pre, H2, rfl, hin, hpl, hq, hLs, hb⟩ := hrel
      have hbs := hb.out.size
      by_cases hlt : i < n
      · have hlti : (i : Int) < (n : Int) := by omega
        obtain ⟨ad, e, c0, c1⟩ := kFl_at (fun a v h => cell_later hb.out h) HH2.out i hlt
        subst e
        obtain ⟨f, hf⟩ : ∃ f, f = l.getD i zFl := ⟨_, rfl⟩
        rw [← hf] at c0 c1
        obtain ⟨r, hr⟩ : ∃ r, r = readPd f.text := ⟨_, rfl⟩
        have HQ := Lib.hid (show allPd l = joinPd pre (stepPd i r (allPdF (i + 1) (l.drop (i + 1)))) by rw [hq.out, allPdF_drop (by have := HL.out; omega), ← hf, ← hr])
        have HR := Lib.hid hr
        obtain ⟨A4, c4, e4, -⟩ := hLs.out.slice_
        subst e4
        rw [hpl] at hLs ⊢
        obtain ⟨w3, hw3⟩ : ∃ w3, w3 = wr.alloc (.cells (aFl f) 85) := ⟨_, rfl⟩
        have hB3 : Below wr.heap.size wr w3 := by rw [hw3]; exact (Below.refl _ _).alloc (Nat.le_refl _) _
        have HX3 := Lib.hid (show w3.heap[wr.heap.size]? = some (.cells (aFl f) 85 (0, 0)) by rw [hw3]; exact World.alloc_heap_new wr _)
        have HB3 := Lib.hid (below_step hb.out hB3)
        have HE3 := Lib.hid (HE2.out.below (below_step hb.out hB3))
        have HL3 := Lib.hid (hLs.out.below up_kPd hB3)
        clear hf hr hB3 hq
        go_wp2_with fail
        have Ez := HE3.out
        rw [hw3] at Ez
        refine (Read_calls f.text Ez H2 (by rw [← hw3]; exact HL3.out.lt)).mono ?_
        clear Ez
        rw [← HR.out]
        rintro e w4 ⟨h4, ⟨x, A', c', rfl, rfl, hl', hC'⟩ | ⟨p, k, rfl, rfl⟩⟩
        · rw [← hw3] at h4
          have HQ2 := Lib.hid (show allPd l = joinPd (pre ++ [x]) (allPdF (i + 1) (l.drop (i + 1))) by rw [HQ.out, joinPd_snoc])
          have HB4 := Lib.hid (below_step HB3.out h4)
          have HL4 := Lib.hid (HL3.out.below up_kPd h4)
          have hB5 : Below w4.heap.size w4 (w4.alloc (.cells (aPd x A' c') 124)) := (Below.refl _ _).alloc (Nat.le_refl _) _
          have HX5 := Lib.hid (World.alloc_heap_new w4 (.cells (aPd x A' c') 124))
          have HL5 := Lib.hid (HL4.out.below up_kPd hB5)
          have HB5 := Lib.hid (below_step HB4.out hB5)
          have HK5 := Lib.hid (kPd_mk (hole H2 (w4.alloc (.cells (aPd x A' c') 124))) x hl' (up_C up_kNd ((Keep.of_below (H := []) hB5).sub (fun k hk => by cases hk)) hC'))
          have x0 := (cell_blk HX5.out 0).trans rfl
          have x1 := (cell_blk HX5.out 1).trans rfl
          have x2 := (cell_blk HX5.out 2).trans rfl
          have x3 := (cell_blk HX5.out 3).trans rfl
          have x4 := (cell_blk HX5.out 4).trans rfl
          have x5 := (cell_blk HX5.out 5).trans rfl
          have HN5 := Lib.hid (show pre.length + 1 ≤ 1000000 by omega)
          have HPL := Lib.hid hpl
          clear h4 hB5 hl' hC' hpl
          go_wp2_with ((with_reducible refine gate_builtin (b := .append) (xs := #[.tmp 36, .tmp 38]) rfl ?_); at_builtin; refine LsK.appendOne up_kPd appPd HL5.out rfl (.tmp 36) (.tmp 38) rfl rfl (by rw [World.size_alloc]; rfl) HK5.out HB5.out.size HN5.out ?_; intro v6 w6 H6 hL6 hs6 hg6; (obtain ⟨A6, c6, e6, -⟩ := hL6.slice_); (obtain ⟨q6, hq6⟩ : ∃ q, q = (pre ++ [x]).length := ⟨_, rfl⟩); rw [← hq6] at e6; clear hq6; subst e6; have HL6 := Lib.hid hL6; have HB6 := Lib.hid (((Keep.of_below (H := []) HB5.out).grown HL5.out hg6 (Nat.le_refl _)).below); clear hL6 hg6)
          exact ⟨⟨i + 1, pre ++ [x], H6, by simp, by omega, by have := HPL.out; simp; omega, HQ2, HL6, HB6⟩, by simp only [intOf]; omega⟩
        · rw [← hw3] at h4
          have HV := Lib.hid (show allPd l = .inr ((i : Int), p, k) by rw [HQ.out]; rfl)
          have HB4 := Lib.hid (below_step HB3.out h4)
          have hy := (HB4.out.block w.heap.size (by omega)).trans HY2.out
          have hlt4 : w.heap.size < w4.heap.size := by have := HB4.out.size; omega
          have HKF := Lib.hid (HK2.out.trans (HB4.out.mono (by omega)))
          have x0 := (cell_blk hy 0).trans rfl
          have x1 := (cell_blk hy 1).trans rfl
          have f0 := frozen_blk hy 0
          have f1 := frozen_blk hy 1
          have HYF := Lib.hid hy
          clear hy h4
          go_wp2_with fail
          have hs2 := set2 HYF.out (.int .i64 (i : Int)) (.int .i64 p)
          refine bodyPost_ret (res3c (p := (i : Int)) (q := p) Tryz.results43 rfl ((Below.heap_alloc _ _ w.heap.size (Array.getElem?_eq_some_iff.1 hs2).1).trans hs2)) rfl ⟨?_, .inr ⟨_, _, _, HV.out, rfl⟩⟩
          exact (keep2b HKF.out (Nat.le_refl _) _ _).alloc (by simp; omega) _
      · have hge : (n : Int) ≤ (i : Int) := by omega
        have HV := Lib.hid (show allPd l = .inl pre by
          rw [hq.out, List.drop_eq_nil_of_le (by have := HL.out; omega)]
          simp [allPdF, joinPd])
        obtain ⟨A4, c4, e4, hle4, hC4⟩ := hLs.out.reads up_kPd (fun k hk => by simp at hk; omega)
        subst e4
        have hy := (hb.out.block w.heap.size (by omega)).trans HY2.out
        have x0 := (cell_blk hy 0).trans rfl
        have x1 := (cell_blk hy 1).trans rfl
        have f0 := frozen_blk hy 0
        have f1 := frozen_blk hy 1
        have HYF := Lib.hid hy
        have HKF := Lib.hid (HK2.out.trans (hb.out.mono (by omega)))
        have HC4 := Lib.hid hC4
        obtain ⟨q, hq4⟩ : ∃ q, q = pre.length := ⟨_, rfl⟩
        rw [← hq4]
        rw [← hq4] at HC4
        have HQ4 := Lib.hid hq4
        have Hle4 := Lib.hid hle4
        clear hy hC4 hpl hle4 hq4
        go_wp2_with fail
        refine bodyPost_ret (res3c (p := 0) (q := 0) Tryz.results43 rfl (set2 HYF.out _ _)) rfl ⟨keep2b HKF.out (Nat.le_refl _) _ _, .inl ⟨pre, A4, c4, HV.out, by rw [← HQ4.out]; rfl, Hle4.out, ?_⟩⟩
        rw [← HQ4.out]
        refine up_C up_kPd (fun a v hc => ?_) HC4.out
        obtain ⟨n1, n2⟩ := hole_cell_iff.1 hc
        have hne : a.block ≠ w.heap.size := fun e => n1 (by rw [e]; simp)
        exact (World.cell?_of_block (a := a) (by rw [Below.heap_setCell _ _ _ _ hne, Below.heap_setCell _ _ _ _ hne])).trans n2
end Go.Proofs.YtbfkkepdeepdeaaGreatDoor
end
section
namespace Go.Proofs.YtbfkkepdeepdeaaGreatDoor
open Go Go.RowKit Go.Proofs.YtbfkkepdeepdeaaGreatDoorW.PrintWords Go.Proofs.YtbfkkepdeepdeaaGreatDoorW.PrintLast Go.Proofs.YtbfkkepdeepdeaaGreatDoorW.PrintMore
set_option linter.unusedVariables false
set_option linter.unusedSimpArgs false
set_option maxRecDepth 100000
attribute [local go_sem] Oper.semAt_some
theorem resNm {F : Func} {i : Nat} {tmps : Array Value} {W : World} {b : Nat} {x : Nm} (hF : F.results = #[.cell i 31]) (h : tmps.getD i undef = .pointer (some ⟨b, 0, none⟩)) (hb : W.heap[b]? = some (.cells (aNm x) 31 (0, 0))) : (results F tmps).run Tryz.prog W = .ok (.agg (aNm x)) W := by
  have h' : tmps[i]?.getD undef = .pointer (some ⟨b, 0, none⟩) := by simpa using h
  have c0 := cell_blk hb 0
  have c1 := cell_blk hb 1
  simp [results, hF, h', go_sem, c0, c1]
theorem named_view (n : Nd) (A : Option Addr) (c : Nat) (w : World) : Calls Tryz.prog 80 #[.agg (aNd n A c)] w fun e w' => e = .returned (.agg (aNm (nmOf n))) ∧ Below w.heap.size w w' := by
  have HX := Lib.hid (World.alloc_heap_new (w.alloc (.cells (aNd n A c) 122)) (.cells (aNm (nmOf n)) 31))
  have HB := Lib.hid (((Below.refl w.heap.size w).alloc (Nat.le_refl _) (.cells (aNd n A c) 122)).alloc (by simp) (.cells (aNm (nmOf n)) 31))
  go_enter Tryz.func80, Tryz.ntmps80
  go_wp2_with fail
  exact bodyPost_ret (resNm (x := nmOf n) (b := w.heap.size + 1) Tryz.results80 rfl (by have := HX.out; rwa [World.size_alloc] at this)) rfl ⟨rfl, HB.out⟩
theorem C_nil {α : Type} (d : Kd α) (w : World) : Kd.C d w none 0 [] := ⟨rfl, by decide, fun h => absurd h (by decide)⟩
structure ClRes (w : World) (x : Cl) (e : Ending) (w' : World) : Prop where
  keep : Below w.heap.size w w'
  val : ∃ A1 c1 A2 c2 A3 c3, e = .returned (.agg (aCl x A1 c1 A2 c2 A3 c3)) ∧ ∀ H, (∀ k, k ∈ H → k < w.heap.size) → kCl.K (hole H w') x (cCl x A1 c1 A2 c2 A3 c3)
def ClassOk (n : Nd) : Prop := ∀ (w : World) (A : Option Addr) (c : Nat), n.kids.length ≤ c → kNd.C w A n.kids.length n.kids → Env w → Calls Tryz.prog 62 #[.agg (aNd n A c)] w (ClRes w (classOf n))
def plainC (n : Nd) : Bool := decide (n.kind ≠ 3) && (decide (3 ≤ n.kids.length) && (decide ((kidOf n 2).text ≠ wExtends) && n.kids.all (fun k => decide (k.kind ≠ 5) && decide (k.kind ≠ 6))))
theorem resCl {F : Func} {i : Nat} {tmps : Array Value} {W : World} {b : Nat} {x : Cl} {A1 A2 A3 : Option Addr} {c1 c2 c3 : Nat} (hF : F.results = #[.cell i 36]) (h : tmps.getD i undef = .pointer (some ⟨b, 0, none⟩)) (hb : W.heap[b]? = some (.cells (aCl x A1 c1 A2 c2 A3 c3) 36 (0, 0))) : (results F tmps).run Tryz.prog W = .ok (.agg (aCl x A1 c1 A2 c2 A3 c3)) W := by
  have h' : tmps[i]?.getD undef = .pointer (some ⟨b, 0, none⟩) := by simpa using h
  have c0 := cell_blk hb 0
  have d1 := cell_blk hb 1
  have d2 := cell_blk hb 2
  have d3 := cell_blk hb 3
  have d4 := cell_blk hb 4
  have d5 := cell_blk hb 5
  have d6 := cell_blk hb 6
  have d7 := cell_blk hb 7
  have d8 := cell_blk hb 8
  have d9 := cell_blk hb 9
  simp [results, hF, h', go_sem, c0, d1, d2, d3, d4, d5, d6, d7, d8, d9]
theorem set10 {W : World} {b : Nat} {a0 a1 a2 a3 a4 a5 a6 a7 a8 a9 : Value} {T : TypeId} (hb : W.heap[b]? = some (.cells #[a0, a1, a2, a3, a4, a5, a6, a7, a8, a9] T (0, 0))) (v0 v1 v2 v3 v4 v5 v6 v7 v8 v9 : Value) : ((((((((((W.setCell ⟨b, 0, none⟩ v0).setCell ⟨b, 1, none⟩ v1).setCell ⟨b, 2, none⟩ v2).setCell ⟨b, 3, none⟩ v3).setCell ⟨b, 4, none⟩ v4).setCell ⟨b, 5, none⟩ v5).setCell ⟨b, 6, none⟩ v6).setCell ⟨b, 7, none⟩ v7).setCell ⟨b, 8, none⟩ v8).setCell ⟨b, 9, none⟩ v9).heap[b]? = some (.cells #[v0, v1, v2, v3, v4, v5, v6, v7, v8, v9] T (0, 0)) := by
  have h := (heap_setCell_same (heap_setCell_same (heap_setCell_same (heap_setCell_same (heap_setCell_same (heap_setCell_same (heap_setCell_same (heap_setCell_same (heap_setCell_same (heap_setCell_same hb 0 v0) 1 v1) 2 v2) 3 v3) 4 v4) 5 v5) 6 v6) 7 v7) 8 v8) 9 v9)
  simpa using h
theorem keep10b {w W : World} {b : Nat} (h : Below w.heap.size w W) (hb : w.heap.size ≤ b) (v0 v1 v2 v3 v4 v5 v6 v7 v8 v9 : Value) : Below w.heap.size w ((((((((((W.setCell ⟨b, 0, none⟩ v0).setCell ⟨b, 1, none⟩ v1).setCell ⟨b, 2, none⟩ v2).setCell ⟨b, 3, none⟩ v3).setCell ⟨b, 4, none⟩ v4).setCell ⟨b, 5, none⟩ v5).setCell ⟨b, 6, none⟩ v6).setCell ⟨b, 7, none⟩ v7).setCell ⟨b, 8, none⟩ v8).setCell ⟨b, 9, none⟩ v9) :=
  ((((((((((h.setCell (p := ⟨b, 0, none⟩) hb _).setCell (p := ⟨b, 1, none⟩) hb _).setCell (p := ⟨b, 2, none⟩) hb _).setCell (p := ⟨b, 3, none⟩) hb _).setCell (p := ⟨b, 4, none⟩) hb _).setCell (p := ⟨b, 5, none⟩) hb _).setCell (p := ⟨b, 6, none⟩) hb _).setCell (p := ⟨b, 7, none⟩) hb _).setCell (p := ⟨b, 8, none⟩) hb _).setCell (p := ⟨b, 9, none⟩) hb _)
set_option maxHeartbeats 2000000 in
theorem class_plain (n : Nd) (hp : plainC n = true) : ClassOk n := by
  intro w A c hl hC E
  unfold plainC at hp
  simp only [Bool.and_eq_true, decide_eq_true_eq, List.all_eq_true] at hp
  obtain ⟨hk3, hk, hne, hall⟩ := hp
  have hm := hC.2.1
  obtain ⟨q, hq⟩ : ∃ q, q = n.kids.length := ⟨_, rfl⟩
  have HC := Lib.hid hC
  have HALL := Lib.hid hall
  have HV := Lib.hid (show classOf n = ⟨false, nmOf (kidOf n 1), zNm, [], [], zNm, []⟩ by
    unfold classOf
    rw [if_neg hk3, if_neg hne]
    have f5 : n.kids.filter (fun k => k.kind = 5) = [] := List.filter_eq_nil_iff.2 (fun k hk => by have := (hall k hk).1; simpa using this)
    have f6 : n.kids.filter (fun k => k.kind = 6) = [] := List.filter_eq_nil_iff.2 (fun k hk => by have := (hall k hk).2; simpa using this)
    rw [f5, f6]; rfl)
  obtain ⟨w1, hw1⟩ : ∃ w1, w1 = (w.alloc (.cells (aNd n A c) 122)).alloc (.cells (aCl zCl none 0 none 0 none 0) 36) := ⟨_, rfl⟩
  have hz1 : w1.heap.size = w.heap.size + 2 := by rw [hw1]; simp
  have hB1 : Below w.heap.size w w1 := by rw [hw1]; exact ((Below.refl _ _).alloc (Nat.le_refl _) _).alloc (by simp) _
  have HB1 := Lib.hid hB1
  have HN1 := Lib.hid (show w1.heap[w.heap.size]? = some (.cells (aNd n A c) 122 (0, 0)) by rw [hw1, Below.heap_alloc _ _ _ (by simp)]; exact World.alloc_heap_new w _)
  have HZ1 := Lib.hid (show w1.heap[w.heap.size + 1]? = some (.cells (aCl zCl none 0 none 0 none 0) 36 (0, 0)) by rw [hw1]; have := World.alloc_heap_new (w.alloc (.cells (aNd n A c) 122)) (.cells (aCl zCl none 0 none 0 none 0) 36); rwa [World.size_alloc] at this)
  have hk1 : (1 : Int) < (n.kids.length : Int) := by omega
  have hk2 : (2 : Int) < (n.kids.length : Int) := by omega
  have up : ∀ a v, w.cell? a = some v → ((w.alloc (.cells (aNd n A c) 122)).alloc (.cells #[.bool false, .string ⟨#[]⟩, .int .i64 0, .string ⟨#[]⟩, .int .i64 0, .slice none 0 0, .slice none 0 0, .string ⟨#[]⟩, .int .i64 0, .slice none 0 0] 36)).cell? a = some v := fun a v h => cell_later (((Below.refl _ _).alloc (Nat.le_refl _) _).alloc (by simp) _) h
  obtain ⟨ad, A1, c1, eA, x0, x1, x2, x3, x4, -, -⟩ := kNd_at up hC 1 (by omega)
  subst eA
  clear up
  rw [show ad.add (1 * 5) = ⟨ad.block, ad.off + 5, none⟩ from rfl] at x0 x1 x2 x3 x4
  simp only at x0 x1 x2 x3 x4
  obtain ⟨k1, hk1n⟩ : ∃ k, k = kidOf n 1 := ⟨_, rfl⟩
  rw [show n.kids.getD 1 zNd = k1 from hk1n.symm] at x0 x1 x2 x3 x4
  rw [← hk1n] at HV
  clear hB1 hC E hall hk1n
  go_enter Tryz.func62, Tryz.ntmps62
  go_wp2_with fail
  refine (named_view k1 A1 c1 _).mono ?_
  rintro e w2 ⟨rfl, h2⟩
  have h2' : Below w1.heap.size w1 w2 := by rw [hw1]; exact h2
  clear h2 x0 x1 x2 x3 x4
  obtain ⟨nm, hnm⟩ : ∃ nm, nm = nmOf k1 := ⟨_, rfl⟩
  rw [← hnm] at HV ⊢
  obtain ⟨w3, hw3⟩ : ∃ w3, w3 = w2.alloc (.cells #[.bool false, .string nm.text, .int .i64 nm.pos, .string ⟨#[]⟩, .int .i64 0, .slice none 0 0, .slice none 0 0, .string ⟨#[]⟩, .int .i64 0, .slice none 0 0] 36) := ⟨_, rfl⟩
  have hz3 : w3.heap.size = w2.heap.size + 1 := by rw [hw3]; simp
  have hB23 : Below w2.heap.size w2 w3 := by rw [hw3]; exact (Below.refl _ _).alloc (Nat.le_refl _) _
  have HX3 := Lib.hid (show w3.heap[w2.heap.size]? = some (.cells #[.bool false, .string nm.text, .int .i64 nm.pos, .string ⟨#[]⟩, .int .i64 0, .slice none 0 0, .slice none 0 0, .string ⟨#[]⟩, .int .i64 0, .slice none 0 0] 36 (0, 0)) by rw [hw3]; exact World.alloc_heap_new w2 _)
  have HB3 := Lib.hid (below_step (below_step HB1.out h2') hB23)
  have hs2 := h2'.size
  have HN3 := Lib.hid ((hB23.block w.heap.size (by omega)).trans ((h2'.block w.heap.size (by omega)).trans HN1.out))
  have HZ3 := Lib.hid ((hB23.block (w.heap.size + 1) (by omega)).trans ((h2'.block (w.heap.size + 1) (by omega)).trans HZ1.out))
  have n4 := (cell_blk HN3.out 4).trans rfl
  obtain ⟨ad', A2, c2, e2, y0, y1, y2, y3, y4, -, -⟩ := kNd_at (fun _ _ h => cell_later HB3.out h) HC.out 2 (by omega)
  cases e2
  obtain ⟨k2, hk2n⟩ : ∃ k, k = kidOf n 2 := ⟨_, rfl⟩
  rw [show n.kids.getD 2 zNd = k2 from hk2n.symm] at y0 y1 y2 y3 y4
  rw [← hk2n] at hne
  rw [show ad.add (2 * 5) = ⟨ad.block, ad.off + 10, none⟩ from rfl] at y0 y1 y2 y3 y4
  simp only at y0 y1 y2 y3 y4
  have hne2 : (k2.text.toList == [101, 120, 116, 101, 110, 100, 115]) = false := by rw [beq_eq_false_iff_ne]; exact fun e => hne (toList_inj.1 (e.trans (by rw [toList_data])))
  rw [hw3] at n4 y0 y1 y2 y3 y4
  clear h2' hB23 hk2n hnm
  go_wp2_with fail
  go_loopw [32] (fun v wr => ∃ i : Nat, v = .int .i64 i ∧ i ≤ n.kids.length ∧ Hid (Below w3.heap.size w3 wr)) (fun v _ => n.kids.length - (intOf v).toNat)
  case atStart => exact ⟨0, rfl, Nat.zero_le _, Lib.hid (by rw [← hw3]; exact Below.refl _ _)⟩
  case round =>
    obtain ⟨i, rfl, hin, hb⟩ := hrel
    have hbs := hb.out.size
    by_cases hlt : i < n.kids.length
    · have hlti : (i : Int) < (n.kids.length : Int) := by omega
      obtain ⟨ad', A5, c5, e5, z0, z1, z2, z3, z4, -, -⟩ := kNd_at (fun _ _ h => cell_later hb.out (cell_later HB3.out h)) HC.out i hlt
      cases e5
      obtain ⟨k5, hk5⟩ : ∃ k, k = n.kids.getD i zNd := ⟨_, rfl⟩
      rw [← hk5] at z0 z1 z2 z3 z4
      have hkm : k5 ∈ n.kids := by rw [hk5, List.getD_eq_getElem?_getD, List.getElem?_eq_getElem hlt]; exact List.getElem_mem hlt
      have hn5 : (k5.kind == 5) = false := by simpa using (HALL.out k5 hkm).1
      have hn6 : (k5.kind == 6) = false := by simpa using (HALL.out k5 hkm).2
      have HBN := Lib.hid (below_step hb.out ((Below.refl wr.heap.size wr).alloc (Nat.le_refl _) (.cells (aNd k5 A5 c5) 122)))
      clear hk5 hkm
      go_wp2_with fail
      exact ⟨⟨i + 1, by simp, by omega, HBN⟩, by simp only [intOf]; omega⟩
    · have hge : (n.kids.length : Int) ≤ (i : Int) := by omega
      have HXF := Lib.hid ((hb.out.block w2.heap.size (by omega)).trans HX3.out)
      have HZF := Lib.hid ((hb.out.block (w.heap.size + 1) (by omega)).trans HZ3.out)
      have c0 := (cell_blk HXF.out 0).trans rfl
      have d1 := (cell_blk HXF.out 1).trans rfl
      have d2 := (cell_blk HXF.out 2).trans rfl
      have d3 := (cell_blk HXF.out 3).trans rfl
      have d4 := (cell_blk HXF.out 4).trans rfl
      have d5 := (cell_blk HXF.out 5).trans rfl
      have d6 := (cell_blk HXF.out 6).trans rfl
      have d7 := (cell_blk HXF.out 7).trans rfl
      have d8 := (cell_blk HXF.out 8).trans rfl
      have d9 := (cell_blk HXF.out 9).trans rfl
      have e0 := (cell_blk HZF.out 0).trans rfl
      have e1 := (cell_blk HZF.out 1).trans rfl
      have e2 := (cell_blk HZF.out 2).trans rfl
      have e3 := (cell_blk HZF.out 3).trans rfl
      have e4 := (cell_blk HZF.out 4).trans rfl
      have e5 := (cell_blk HZF.out 5).trans rfl
      have e6 := (cell_blk HZF.out 6).trans rfl
      have e7 := (cell_blk HZF.out 7).trans rfl
      have e8 := (cell_blk HZF.out 8).trans rfl
      have e9 := (cell_blk HZF.out 9).trans rfl
      have f0 := frozen_blk HZF.out 0
      have f1 := frozen_blk HZF.out 1
      have f2 := frozen_blk HZF.out 2
      have f3 := frozen_blk HZF.out 3
      have f4 := frozen_blk HZF.out 4
      have f5 := frozen_blk HZF.out 5
      have f6 := frozen_blk HZF.out 6
      have f7 := frozen_blk HZF.out 7
      have f8 := frozen_blk HZF.out 8
      have f9 := frozen_blk HZF.out 9
      have HBF := Lib.hid (below_step HB3.out hb.out)
      go_wp2_with fail
      refine bodyPost_ret (resCl (x := ⟨false, nm, zNm, [], [], zNm, []⟩) (A1 := none) (c1 := 0) (A2 := none) (c2 := 0) (A3 := none) (c3 := 0) (b := w.heap.size + 1) Tryz.results62 rfl (set10 HZF.out _ _ _ _ _ _ _ _ _ _)) rfl ⟨keep10b HBF.out (by omega) _ _ _ _ _ _ _ _ _ _, none, 0, none, 0, none, 0, by rw [HV.out], fun H _ => ?_⟩
      rw [HV.out]
      exact kCl_mk _ _ (Nat.le_refl _) (C_nil _ _) (Nat.le_refl _) (C_nil _ _) (Nat.le_refl _) (C_nil _ _)
end Go.Proofs.YtbfkkepdeepdeaaGreatDoor
end
section
namespace Go.Proofs.YtbfkkepdeepdeaaGreatDoor
open Go Go.RowKit Go.Proofs.YtbfkkepdeepdeaaGreatDoorW.PrintWords Go.Proofs.YtbfkkepdeepdeaaGreatDoorW.PrintLast Go.Proofs.YtbfkkepdeepdeaaGreatDoorW.PrintMore
set_option linter.unusedVariables false
set_option linter.unusedSimpArgs false
set_option maxRecDepth 100000
attribute [local go_sem] Oper.semAt_some
theorem appCl : AppInfo kCl 86 36 := ⟨.agg (aCl zCl none 0 none 0 none 0), 152, by kernel_rfl, by kernel_rfl, rfl, by decide, by decide, by decide⟩
theorem appLCl : AppInfo (Kd.slice 36 kCl) 22 86 := ⟨.slice none 0 0, 24, by kernel_rfl, by kernel_rfl, rfl, by decide, by decide, by decide⟩
theorem up_LCl : Up (Kd.slice 36 kCl) := up_slice up_kCl
def ofPd (p : Pd) : List Cl := p.tree.kids.map classOf
structure LRes {α : Type} (d : Kd α) (w : World) (l : List α) (e : Ending) (w' : World) : Prop where
  keep : Below w.heap.size w w'
  val : ∀ H, (∀ k, k ∈ H → k < w.heap.size) → ∃ A c, e = .returned (.slice A l.length c) ∧ l.length ≤ c ∧ d.C (hole H w') A l.length l
set_option maxHeartbeats 2000000 in
theorem of_calls {w : World} {p : Pd} {A : Option Addr} {c : Nat} (hl : p.tree.kids.length ≤ c) (hC : kNd.C w A p.tree.kids.length p.tree.kids) (E : Env w) (hK : ∀ k, k ∈ p.tree.kids → ClassOk k) (hsh : p.tree.kids.length ≤ 100000) :
    Calls Tryz.prog 44 #[.agg (aPd p A c)] w (LRes kCl w (ofPd p)) := by
  have hm := hC.2.1
  obtain ⟨w1, hw1⟩ : ∃ w1, w1 = w.alloc (.cells (aPd p A c) 124) := ⟨_, rfl⟩
  have hz1 : w1.heap.size = w.heap.size + 1 := by rw [hw1]; simp
  have hB1 : Below w.heap.size w w1 := by rw [hw1]; exact (Below.refl _ _).alloc (Nat.le_refl _) _
  have HB1 := Lib.hid hB1
  have HC := Lib.hid hC
  have HE1 := Lib.hid (E.below hB1)
  have HK := Lib.hid hK
  obtain ⟨L, hL⟩ : ∃ L, L = p.tree.kids := ⟨_, rfl⟩
  rw [← hL] at hl hm HC HK hsh
  have HLL := Lib.hid hL
  have hp : (aPd p A c) = #[.int .i64 p.tree.kind, .string p.tree.gap, .string p.tree.text, .int .i64 p.tree.pos, .slice A L.length c, .string p.tail] := by rw [hL]
  rw [hp] at hw1 ⊢
  clear hB1 hC E hK hL hp
  go_enter Tryz.func44, Tryz.ntmps44
  go_wp2_with fail
  go_loopw [3, 10] (fun v k wr => ∃ i : Nat, k = .int .i64 i ∧ i ≤ L.length ∧ (∃ H2, Hid (LsK kCl 36 w1.heap.size (List.range w.heap.size) wr H2 v ((L.take i).map classOf))) ∧ Hid (Below w1.heap.size w1 wr)) (fun v k _ => L.length - (intOf k).toNat)
  case atStart =>
    refine ⟨0, rfl, Nat.zero_le _, ⟨List.range w.heap.size, Lib.hid (LsK.nil _ (fun k hk => ?_))⟩, Lib.hid (by rw [← hw1]; exact Below.refl _ _)⟩
    have := List.mem_range.1 hk
    simp; omega
  case round =>
    obtain ⟨i, rfl, hin, ⟨H2, hLs⟩, hb⟩ := hrel
    have hbs := hb.out.size
    obtain ⟨A4, c4, e4, hc4⟩ := hLs.out.slice_
    have hli : ((L.take i).map classOf).length = i := by simp [Nat.min_eq_left hin]
    rw [hli] at e4
    subst e4
    by_cases hlt : i < L.length
    · have hlti : (i : Int) < (L.length : Int) := by omega
      obtain ⟨ad, A5, c5, e5, z0, z1, z2, z3, z4, l5, g5⟩ := kNd_at (fun _ _ h => cell_later hb.out (cell_later HB1.out h)) HC.out i hlt
      subst e5
      obtain ⟨k5, hk5⟩ : ∃ k, k = L.getD i zNd := ⟨_, rfl⟩
      rw [← hk5] at z0 z1 z2 z3 z4 l5 g5
      have hkm : k5 ∈ L := by rw [hk5, List.getD_eq_getElem?_getD, List.getElem?_eq_getElem hlt]; exact List.getElem_mem hlt
      have HCK := Lib.hid (HK.out k5 hkm)
      have HSN := Lib.hid (show (L.take i).map classOf ++ [classOf k5] = (L.take (i + 1)).map classOf by
        rw [List.take_succ_eq_append_getElem hlt, List.map_append, hk5, List.getD_eq_getElem?_getD, List.getElem?_eq_getElem hlt]; rfl)
      obtain ⟨w3, hw3⟩ : ∃ w3, w3 = wr.alloc (.cells (aNd k5 A5 c5) 122) := ⟨_, rfl⟩
      have hB3 : Below wr.heap.size wr w3 := by rw [hw3]; exact (Below.refl _ _).alloc (Nat.le_refl _) _
      have HB3 := Lib.hid (below_step hb.out hB3)
      have HL3 := Lib.hid (hLs.out.below up_kCl hB3)
      have HG5 := Lib.hid (Kd.C_below (Kd.C_below g5 HB1.out) HB3.out)
      have Hl5 := Lib.hid l5
      have HE3 := Lib.hid (HE1.out.below HB3.out)
      clear hk5 hkm hB3 g5 l5
      go_wp2_with fail
      have Ez := HE3.out
      have Gz := HG5.out
      rw [hw3] at Ez Gz
      refine (HCK.out _ _ _ Hl5.out Gz Ez).mono ?_
      clear Ez Gz
      obtain ⟨x, hx⟩ : ∃ x, x = classOf k5 := ⟨_, rfl⟩
      rw [← hx] at HSN ⊢
      rintro e w5 ⟨h5, X1, d1, X2, d2, X3, d3, rfl, hKx⟩
      rw [← hw3] at h5 hKx
      have HB5 := Lib.hid (below_step HB3.out h5)
      have HL5 := Lib.hid (HL3.out.below up_kCl h5)
      have HK5 := Lib.hid (hKx H2 HL3.out.lt)
      have HN5 := Lib.hid (show ((L.take i).map classOf).length + 1 ≤ 1000000 by omega)
      obtain ⟨pre, hpre⟩ : ∃ pre, pre = (L.take i).map classOf := ⟨_, rfl⟩
      rw [← hpre] at HL5 HSN HN5
      clear h5 hKx hpre hli hLs HL3 hx
      go_wp2_with ((with_reducible refine gate_builtin (b := .append) (xs := #[.tmp 14, .tmp 17]) rfl ?_); at_builtin; refine LsK.appendOne up_kCl appCl HL5.out rfl (.tmp 14) (.tmp 17) rfl rfl rfl HK5.out HB5.out.size HN5.out ?_; intro v6 w6 H6 hL6 hs6 hg6; (obtain ⟨A6, c6, e6, -⟩ := hL6.slice_); (obtain ⟨q6, hq6⟩ : ∃ q, q = (pre ++ [x]).length := ⟨_, rfl⟩); rw [← hq6] at e6; clear hq6; subst e6; have HL6 := Lib.hid hL6; have HB6 := Lib.hid (((Keep.of_below (H := []) HB5.out).grown HL5.out hg6 (Nat.le_refl _)).below); clear hL6 hg6)
      refine ⟨⟨i + 1, by simp, by omega, ⟨H6, Lib.hid (by rw [← HSN.out]; exact HL6.out)⟩, HB6⟩, by simp only [intOf]; omega⟩
    · have hge : (L.length : Int) ≤ (i : Int) := by omega
      have HIL := Lib.hid (show i = L.length by omega)
      have HBF := Lib.hid (below_step HB1.out hb.out)
      have HLS := Lib.hid hLs.out
      clear hli hLs
      go_wp2_with fail
      go_ret
      refine ⟨HBF.out, fun H hH => ?_⟩
      have h1 := HLS.out
      rw [List.take_of_length_le (by omega)] at h1
      have h2 : LsK kCl 36 w1.heap.size H _ H2 _ (L.map classOf) := ⟨fun k hk => h1.sup k (List.mem_range.2 (hH k hk)), h1.lt, h1.own, h1.row⟩
      obtain ⟨A7, c7, e7, hl7, hC7⟩ := h2.reads up_kCl (fun k hk => by have := hH k hk; omega)
      unfold ofPd
      rw [← HLL.out]
      rw [show ∀ q, Ending.returned q = Ending.returned q from fun _ => rfl]
      refine ⟨A7, c7, ?_, hl7, hC7⟩
      rw [← e7]; rfl
end Go.Proofs.YtbfkkepdeepdeaaGreatDoor
end
section
namespace Go.Proofs.YtbfkkepdeepdeaaGreatDoor
open Go Go.RowKit Go.Proofs.YtbfkkepdeepdeaaGreatDoorW.PrintWords Go.Proofs.YtbfkkepdeepdeaaGreatDoorW.PrintLast Go.Proofs.YtbfkkepdeepdeaaGreatDoorW.PrintMore
set_option linter.unusedVariables false
set_option linter.unusedSimpArgs false
set_option maxRecDepth 100000
attribute [local go_sem] Oper.semAt_some
abbrev kLCl : Kd (List Cl) := Kd.slice 36 kCl
def allViews (l : List Fl) : List (List Cl) ⊕ Fail3 := match allPd l with
  | .inl ps => .inl (ps.map ofPd)
  | .inr e => .inr e
theorem allPdF_len : ∀ (l : List Fl) (i : Nat) (ps : List Pd), allPdF i l = .inl ps → ps.length = l.length
  | [], i, ps, h => by simp only [allPdF, Sum.inl.injEq] at h; subst h; rfl
  | f :: r, i, ps, h => by
    unfold allPdF stepPd at h
    split at h
    · cases h
    · split at h
      · rename_i t ht
        cases h
        simp [allPdF_len r _ _ ht]
      · cases h
theorem allPd_len {l : List Fl} {ps : List Pd} (h : allPd l = .inl ps) : ps.length ≤ 8 := by
  unfold allPd at h
  split at h
  · rename_i hr
    rw [allPdF_len _ _ _ h]
    unfold rightP at hr
    simp only [Bool.and_eq_true, decide_eq_true_eq] at hr
    exact hr.2.1
  · cases h
def ViewsOk (l : List Fl) : Prop := ∀ ps, allPd l = .inl ps → ∀ x, x ∈ ps → x.tree.kids.length ≤ 100000 ∧ ∀ k, k ∈ x.tree.kids → ClassOk k
set_option maxHeartbeats 2000000 in
theorem All_views {w : World} {A : Option Addr} {n c : Nat} {l : List Fl} (h : kFl.C w A n l) (E : Env w) (hV : ViewsOk l) : Calls Tryz.prog 31 #[.slice A n c] w (AllRes kLCl w (allViews l)) := by
  obtain ⟨w1, hw1⟩ : ∃ w1, w1 = w.alloc (.cells #[.int .i64 0, .int .i64 0] 46) := ⟨_, rfl⟩
  have hA1 : Below w.heap.size w w1 := by rw [hw1]; exact (Below.refl _ _).alloc (Nat.le_refl _) _
  have hz1 : w1.heap.size = w.heap.size + 1 := by rw [hw1]; simp
  have HY := Lib.hid (show w1.heap[w.heap.size]? = some (.cells #[.int .i64 0, .int .i64 0] 46 (0, 0)) by rw [hw1]; exact World.alloc_heap_new w _)
  have HE1 := Lib.hid (E.below hA1)
  have HA := Lib.hid hA1
  have HH := Lib.hid (Kd.C_below h hA1)
  have HVO := Lib.hid hV
  clear hA1 E h hV
  go_enter Tryz.func31, Tryz.ntmps31
  go_wp2_with fail
  have Hz := HH.out
  have Ez := HE1.out
  rw [hw1] at Hz Ez
  refine (All_files (c := c) Hz Ez).mono ?_
  clear Hz Ez
  rintro e w2 ⟨h2, ⟨ps, A2, c2, hr, rfl, hl2, hC2⟩ | ⟨f, p, k, hr, rfl⟩⟩
  · rw [← hw1] at h2
    have HVV := Lib.hid (show allViews l = .inl (ps.map ofPd) by unfold allViews; rw [hr])
    have HPS := Lib.hid (HVO.out ps hr)
    have h8 := allPd_len hr
    have hz2 : w.heap.size < w2.heap.size := by have := h2.size; omega
    obtain ⟨w3, hw3⟩ : ∃ w3, w3 = w2.alloc (.cells #[.int .i64 0, .int .i64 0] 46) := ⟨_, rfl⟩
    have hB3 : Below w2.heap.size w2 w3 := by rw [hw3]; exact (Below.refl _ _).alloc (Nat.le_refl _) _
    have hz3 : w3.heap.size = w2.heap.size + 1 := by rw [hw3]; simp
    have HY3 := Lib.hid ((hB3.block w.heap.size hz2).trans ((h2.block w.heap.size (by omega)).trans HY.out))
    have HK3 := Lib.hid (below_step (below_step HA.out h2) hB3)
    have HE3 := Lib.hid ((HE1.out.below h2).below hB3)
    have HC3 := Lib.hid (Kd.C_below hC2 hB3)
    have hm := hC2.2.1
    obtain ⟨m, hmm⟩ : ∃ m, m = ps.length := ⟨_, rfl⟩
    rw [← hmm] at HC3 hm hl2 ⊢
    have HM := Lib.hid hmm
    clear h2 hr hB3 hC2 hmm
    go_wp2_with fail
    go_loopw [8, 23] (fun v k wr => ∃ i : Nat, k = .int .i64 i ∧ i ≤ m ∧ (∃ H2, Hid (LsK kLCl 86 w3.heap.size [w.heap.size] wr H2 v ((ps.take i).map ofPd))) ∧ Hid (Below w3.heap.size w3 wr)) (fun v k _ => m - (intOf k).toNat)
    case atStart => exact ⟨0, rfl, Nat.zero_le _, ⟨[w.heap.size], Lib.hid (LsK.nil _ (fun k hk => by simp at hk; simp; omega))⟩, Lib.hid (by rw [← hw3]; exact Below.refl _ _)⟩
    case round =>
      obtain ⟨i, rfl, hin, ⟨H2, hLs⟩, hb⟩ := hrel
      have hbs := hb.out.size
      obtain ⟨A4, c4, e4, hc4⟩ := hLs.out.slice_
      have hli : ((ps.take i).map ofPd).length = i := by have := HM.out; simp [Nat.min_eq_left (show i ≤ ps.length by omega)]
      rw [hli] at e4 hc4
      subst e4
      by_cases hlt : i < m
      · have hlti : (i : Int) < (m : Int) := by omega
        have hlt2 : i < ps.length := by have := HM.out; omega
        obtain ⟨ad, A5, c5, e5, z0, z1, z2, z3, z4, z5, l5, g5⟩ := kPd_at (fun _ _ h => cell_later hb.out h) HC3.out i hlt
        subst e5
        obtain ⟨x, hx⟩ : ∃ x, x = ps.getD i zPd := ⟨_, rfl⟩
        rw [← hx] at z0 z1 z2 z3 z4 z5 l5 g5
        have hxm : x ∈ ps := by rw [hx, List.getD_eq_getElem?_getD, List.getElem?_eq_getElem hlt2]; exact List.getElem_mem hlt2
        obtain ⟨hxs, hxo⟩ := HPS.out x hxm
        have HXO := Lib.hid hxo
        have HSN := Lib.hid (show (ps.take i).map ofPd ++ [ofPd x] = (ps.take (i + 1)).map ofPd by
          rw [List.take_succ_eq_append_getElem hlt2, List.map_append, hx, List.getD_eq_getElem?_getD, List.getElem?_eq_getElem hlt2]; rfl)
        obtain ⟨w4, hw4⟩ : ∃ w4, w4 = wr.alloc (.cells (aPd x A5 c5) 124) := ⟨_, rfl⟩
        have hB4 : Below wr.heap.size wr w4 := by rw [hw4]; exact (Below.refl _ _).alloc (Nat.le_refl _) _
        have HB4 := Lib.hid (below_step hb.out hB4)
        have HL4 := Lib.hid (hLs.out.below up_LCl hB4)
        have HG5 := Lib.hid (Kd.C_below g5 HB4.out)
        have Hl5 := Lib.hid l5
        have HE4 := Lib.hid (HE3.out.below HB4.out)
        clear hx hxm hB4 g5 l5 hxo
        go_wp2_with fail
        have Ez := HE4.out
        have Gz := HG5.out
        rw [hw4] at Ez Gz
        refine (of_calls Hl5.out Gz Ez HXO.out hxs).mono ?_
        clear Ez Gz
        obtain ⟨y, hy⟩ : ∃ y, y = ofPd x := ⟨_, rfl⟩
        rw [← hy] at HSN ⊢
        rintro e w5 ⟨h5, hv5⟩
        rw [← hw4] at h5 hv5
        obtain ⟨A6, c6, rfl, hl6, hC6⟩ := hv5 H2 HL4.out.lt
        have HB5 := Lib.hid (below_step HB4.out h5)
        have HL5 := Lib.hid (HL4.out.below up_LCl h5)
        have HK5 := Lib.hid (show kLCl.K (hole H2 w5) y [.slice A6 y.length c6] from ⟨A6, c6, rfl, hl6, hC6⟩)
        have HN5 := Lib.hid (show ((ps.take i).map ofPd).length + 1 ≤ 1000000 by rw [hli]; have := HM.out; omega)
        obtain ⟨pre, hpre⟩ : ∃ pre, pre = (ps.take i).map ofPd := ⟨_, rfl⟩
        rw [← hpre] at HL5 HSN HN5
        obtain ⟨q, hq⟩ : ∃ q, q = y.length := ⟨_, rfl⟩
        rw [← hq] at HK5 ⊢
        clear h5 hv5 hpre hli hLs HL4 hy hl6 hC6 hq
        go_wp2_with ((with_reducible refine gate_builtin (b := .append) (xs := #[.tmp 27, .tmp 30]) rfl ?_); at_builtin; refine LsK.appendOne up_LCl appLCl HL5.out rfl (.tmp 27) (.tmp 30) rfl rfl rfl HK5.out HB5.out.size HN5.out ?_; intro v6 w6 H6 hL6 hs6 hg6; (obtain ⟨A7, c7, e7, -⟩ := hL6.slice_); (obtain ⟨q6, hq6⟩ : ∃ q, q = (pre ++ [y]).length := ⟨_, rfl⟩); rw [← hq6] at e7; clear hq6; subst e7; have HL6 := Lib.hid hL6; have HB6 := Lib.hid (((Keep.of_below (H := []) HB5.out).grown HL5.out hg6 (Nat.le_refl _)).below); clear hL6 hg6)
        exact ⟨⟨i + 1, by simp, by omega, ⟨H6, Lib.hid (by rw [← HSN.out]; exact HL6.out)⟩, HB6⟩, by simp only [intOf]; omega⟩
      · have hge : (m : Int) ≤ (i : Int) := by omega
        have hy := (hb.out.block w.heap.size (by omega)).trans HY3.out
        have x0 := (cell_blk hy 0).trans rfl
        have x1 := (cell_blk hy 1).trans rfl
        have f0 := frozen_blk hy 0
        have f1 := frozen_blk hy 1
        have HYF := Lib.hid hy
        have HKF := Lib.hid (below_step HK3.out hb.out)
        have HLF := Lib.hid hLs.out
        have HI := Lib.hid (show i = ps.length by have := HM.out; omega)
        clear hy hli hLs hc4
        go_wp2_with fail
        have h1 := HLF.out
        rw [HI.out, List.take_length] at h1
        obtain ⟨A7, c7, e7, hl7, hC7⟩ := h1.reads up_LCl (fun k hk => by simp at hk; omega)
        injection e7 with e7 e8 e9
        subst e7 e9
        refine bodyPost_ret (res3c (p := 0) (q := 0) Tryz.results31 rfl (set2 HYF.out _ _)) rfl ⟨keep2b HKF.out (Nat.le_refl _) _ _, .inl ⟨ps.map ofPd, A4, c4, HVV.out, by rw [← HI.out] at e8; rw [← e8, HI.out]; rfl, hl7, ?_⟩⟩
        refine up_C up_LCl (fun a v hc => ?_) hC7
        obtain ⟨n1, n2⟩ := hole_cell_iff.1 hc
        have hne : a.block ≠ w.heap.size := fun e => n1 (by rw [e]; simp)
        exact (World.cell?_of_block (a := a) (by rw [Below.heap_setCell _ _ _ _ hne, Below.heap_setCell _ _ _ _ hne])).trans n2
  · rw [← hw1] at h2
    have HVV := Lib.hid (show allViews l = .inr (f, p, k) by unfold allViews; rw [hr])
    have hz2 : w.heap.size < w2.heap.size := by have := h2.size; omega
    have hy := (h2.block w.heap.size (by omega)).trans HY.out
    have HK2 := Lib.hid (below_step HA.out h2)
    have x0 := (cell_blk hy 0).trans rfl
    have x1 := (cell_blk hy 1).trans rfl
    have f0 := frozen_blk hy 0
    have f1 := frozen_blk hy 1
    have HYF := Lib.hid hy
    clear hy h2 hr
    go_wp2_with fail
    go_region
    all_goals
      go_wp2_with fail
      have hs2 := set2 HYF.out (.int .i64 f) (.int .i64 p)
      refine bodyPost_ret (res3c (p := f) (q := p) Tryz.results31 rfl ((Below.heap_alloc _ _ w.heap.size (Array.getElem?_eq_some_iff.1 hs2).1).trans hs2)) rfl ⟨?_, .inr ⟨_, _, _, HVV.out, rfl⟩⟩
      exact ((keep2b HK2.out (Nat.le_refl _) _ _).alloc (by simp; omega) _).drew
end Go.Proofs.YtbfkkepdeepdeaaGreatDoor
end
section
namespace Go.Proofs.YtbfkkepdeepdeaaGreatDoor
open Go.RowKit Go.Proofs.YtbfkkepdeepdeaaGreatDoorW.PrintWords Go.Proofs.YtbfkkepdeepdeaaGreatDoorW.PrintLast Go.Proofs.YtbfkkepdeepdeaaGreatDoorW.PrintMore
set_option linter.unusedVariables false
def rd_Cl (xs : List Cl) (i : Int) : Cl := xs.getD i.toNat zCl
theorem at_Cl {w : World} {A : Option Addr} {n : Nat} {xs : List Cl} (h : Kd.C kCl w A n xs) (i : Int) (h0 : 0 ≤ i) (h1 : i < n) : ∃ ad A0 c0 A1 c1 A2 c2, A = some ad ∧ w.cell? (ad.add (i.toNat * 10)) = some (.bool (rd_Cl xs i).main) ∧ w.cell? ⟨(ad.add (i.toNat * 10)).block, (ad.add (i.toNat * 10)).off + 1, none⟩ = some (.string (rd_Cl xs i).name.text) ∧ w.cell? ⟨(ad.add (i.toNat * 10)).block, (ad.add (i.toNat * 10)).off + 2, none⟩ = some (.int .i64 (rd_Cl xs i).name.pos) ∧ w.cell? ⟨(ad.add (i.toNat * 10)).block, (ad.add (i.toNat * 10)).off + 3, none⟩ = some (.string (rd_Cl xs i).super.text) ∧ w.cell? ⟨(ad.add (i.toNat * 10)).block, (ad.add (i.toNat * 10)).off + 4, none⟩ = some (.int .i64 (rd_Cl xs i).super.pos) ∧ w.cell? ⟨(ad.add (i.toNat * 10)).block, (ad.add (i.toNat * 10)).off + 5, none⟩ = some (.slice A0 (rd_Cl xs i).fields.length c0) ∧ w.cell? ⟨(ad.add (i.toNat * 10)).block, (ad.add (i.toNat * 10)).off + 6, none⟩ = some (.slice A1 (rd_Cl xs i).methods.length c1) ∧ w.cell? ⟨(ad.add (i.toNat * 10)).block, (ad.add (i.toNat * 10)).off + 7, none⟩ = some (.string (rd_Cl xs i).arg.text) ∧ w.cell? ⟨(ad.add (i.toNat * 10)).block, (ad.add (i.toNat * 10)).off + 8, none⟩ = some (.int .i64 (rd_Cl xs i).arg.pos) ∧ w.cell? ⟨(ad.add (i.toNat * 10)).block, (ad.add (i.toNat * 10)).off + 9, none⟩ = some (.slice A2 (rd_Cl xs i).body.length c2) ∧ (rd_Cl xs i).fields.length ≤ c0 ∧ kVr.C w A0 (rd_Cl xs i).fields.length (rd_Cl xs i).fields ∧ (rd_Cl xs i).methods.length ≤ c1 ∧ kMe.C w A1 (rd_Cl xs i).methods.length (rd_Cl xs i).methods ∧ (rd_Cl xs i).body.length ≤ c2 ∧ kSt.C w A2 (rd_Cl xs i).body.length (rd_Cl xs i).body := kCl_at (fun _ _ h => h) h i.toNat (by omega)
def rd_En (xs : List En) (i : Int) : En := xs.getD i.toNat zEn
theorem at_En {w : World} {A : Option Addr} {n : Nat} {xs : List En} (h : Kd.C kEn w A n xs) (i : Int) (h0 : 0 ≤ i) (h1 : i < n) : ∃ ad A0 c0 A1 c1 A2 c2, A = some ad ∧ w.cell? (ad.add (i.toNat * 11)) = some (.int .i64 (rd_En xs i).file) ∧ w.cell? ⟨(ad.add (i.toNat * 11)).block, (ad.add (i.toNat * 11)).off + 1, none⟩ = some (.bool (rd_En xs i).cls.main) ∧ w.cell? ⟨(ad.add (i.toNat * 11)).block, (ad.add (i.toNat * 11)).off + 2, none⟩ = some (.string (rd_En xs i).cls.name.text) ∧ w.cell? ⟨(ad.add (i.toNat * 11)).block, (ad.add (i.toNat * 11)).off + 3, none⟩ = some (.int .i64 (rd_En xs i).cls.name.pos) ∧ w.cell? ⟨(ad.add (i.toNat * 11)).block, (ad.add (i.toNat * 11)).off + 4, none⟩ = some (.string (rd_En xs i).cls.super.text) ∧ w.cell? ⟨(ad.add (i.toNat * 11)).block, (ad.add (i.toNat * 11)).off + 5, none⟩ = some (.int .i64 (rd_En xs i).cls.super.pos) ∧ w.cell? ⟨(ad.add (i.toNat * 11)).block, (ad.add (i.toNat * 11)).off + 6, none⟩ = some (.slice A0 (rd_En xs i).cls.fields.length c0) ∧ w.cell? ⟨(ad.add (i.toNat * 11)).block, (ad.add (i.toNat * 11)).off + 7, none⟩ = some (.slice A1 (rd_En xs i).cls.methods.length c1) ∧ w.cell? ⟨(ad.add (i.toNat * 11)).block, (ad.add (i.toNat * 11)).off + 8, none⟩ = some (.string (rd_En xs i).cls.arg.text) ∧ w.cell? ⟨(ad.add (i.toNat * 11)).block, (ad.add (i.toNat * 11)).off + 9, none⟩ = some (.int .i64 (rd_En xs i).cls.arg.pos) ∧ w.cell? ⟨(ad.add (i.toNat * 11)).block, (ad.add (i.toNat * 11)).off + 10, none⟩ = some (.slice A2 (rd_En xs i).cls.body.length c2) ∧ (rd_En xs i).cls.fields.length ≤ c0 ∧ kVr.C w A0 (rd_En xs i).cls.fields.length (rd_En xs i).cls.fields ∧ (rd_En xs i).cls.methods.length ≤ c1 ∧ kMe.C w A1 (rd_En xs i).cls.methods.length (rd_En xs i).cls.methods ∧ (rd_En xs i).cls.body.length ≤ c2 ∧ kSt.C w A2 (rd_En xs i).cls.body.length (rd_En xs i).cls.body := kEn_at (fun _ _ h => h) h i.toNat (by omega)
def rd_Ft (xs : List Ft) (i : Int) : Ft := xs.getD i.toNat zFt
theorem at_Ft {w : World} {A : Option Addr} {n : Nat} {xs : List Ft} (h : Kd.C kFt w A n xs) (i : Int) (h0 : 0 ≤ i) (h1 : i < n) : ∃ ad, A = some ad ∧ w.cell? (ad.add (i.toNat * 3)) = some (.int .i64 (rd_Ft xs i).file) ∧ w.cell? ⟨(ad.add (i.toNat * 3)).block, (ad.add (i.toNat * 3)).off + 1, none⟩ = some (.int .i64 (rd_Ft xs i).pos) ∧ w.cell? ⟨(ad.add (i.toNat * 3)).block, (ad.add (i.toNat * 3)).off + 2, none⟩ = some (.int .i64 (rd_Ft xs i).code) := kFt_at (fun _ _ h => h) h i.toNat (by omega)
def rd_LCl (xs : List (List Cl)) (i : Int) : List Cl := xs.getD i.toNat []
theorem at_LCl {w : World} {A : Option Addr} {n : Nat} {xs : List (List Cl)} (h : Kd.C (Kd.slice 36 kCl) w A n xs) (i : Int) (h0 : 0 ≤ i) (h1 : i < n) : ∃ ad A0 c0, A = some ad ∧ w.cell? (ad.add i.toNat) = some (.slice A0 (rd_LCl xs i).length c0) ∧ (rd_LCl xs i).length ≤ c0 ∧ kCl.C w A0 (rd_LCl xs i).length (rd_LCl xs i) := by
  obtain ⟨ad, c, e, _, hK, hc0⟩ := Kd.C_get h ([] : List Cl) i h0 h1
  obtain ⟨A0, c1, rfl, l0, g0⟩ := hK
  have hc : ∀ j u, [Value.slice A0 (xs.getD i.toNat []).length c1][j]? = some u → w.cell? (ad.add (i.toNat * 1 + j)) = some u := hc0
  exact ⟨ad, A0, c1, e, by have hq := hc 0 _ rfl; rwa [Nat.mul_one, Nat.add_zero] at hq, l0, g0⟩
end Go.Proofs.YtbfkkepdeepdeaaGreatDoor
end
section
namespace Go.Proofs.YtbfkkepdeepdeaaGreatDoor
open Go.Shelf
set_option maxRecDepth 100000
def layF_ren : Go.Shelf.Ren := ⟨fun | 6 => 55 | 15 => 68 | 14 => 67 | 28 => 103 | 29 => 104 | 20 => 95 | 21 => 96 | 22 => 97 | 23 => 98 | 24 => 99 | 25 => 100 | 26 => 101 | 27 => 102 | 46 => 141 | 47 => 142 | 48 => 143 | 49 => 144 | 50 => 145 | 57 => 173 | n => n, fun | 22 => 41 | 24 => 79 | 25 => 107 | 3 => 3 | 39 => 75 | 0 => 0 | 53 => 212 | 55 => 214 | 4 => 4 | 46 => 206 | 45 => 205 | 50 => 39 | 5 => 5 | 9 => 9 | 66 => 250 | 70 => 254 | 76 => 284 | 77 => 235 | n => n, fun | n => n⟩
theorem layF : Go.Proofs.SlLaysF0.n6 Tryz.prog layF_ren := {
  mixed := by kernel_rfl
  f6 := ⟨Tryz.f55.name, by decide, Tryz.func55.trans (congrArg some (by kernel_rfl))⟩
  f14 := ⟨Tryz.f67.name, by decide, Tryz.func67.trans (congrArg some (by kernel_rfl))⟩
  f15 := Tryz.func68.trans (congrArg some (by kernel_rfl))
  f20 := ⟨Tryz.f95.name, by decide, Tryz.func95.trans (congrArg some (by kernel_rfl))⟩
  f21 := ⟨Tryz.f96.name, by decide, Tryz.func96.trans (congrArg some (by kernel_rfl))⟩
  f22 := ⟨Tryz.f97.name, by decide, Tryz.func97.trans (congrArg some (by kernel_rfl))⟩
  f23 := ⟨Tryz.f98.name, by decide, Tryz.func98.trans (congrArg some (by kernel_rfl))⟩
  f24 := ⟨Tryz.f99.name, by decide, Tryz.func99.trans (congrArg some (by kernel_rfl))⟩
  f25 := ⟨Tryz.f100.name, by decide, Tryz.func100.trans (congrArg some (by kernel_rfl))⟩
  f26 := ⟨Tryz.f101.name, by decide, Tryz.func101.trans (congrArg some (by kernel_rfl))⟩
  f27 := ⟨Tryz.f102.name, by decide, Tryz.func102.trans (congrArg some (by kernel_rfl))⟩
  f28 := Tryz.func103.trans (congrArg some (by kernel_rfl))
  f29 := Tryz.func104.trans (congrArg some (by kernel_rfl))
  f46 := ⟨Tryz.f141.name, by decide, Tryz.func141.trans (congrArg some (by kernel_rfl))⟩
  f47 := Tryz.func142.trans (congrArg some (by kernel_rfl))
  f48 := Tryz.func143.trans (congrArg some (by kernel_rfl))
  f49 := ⟨Tryz.f144.name, by decide, Tryz.func144.trans (congrArg some (by kernel_rfl))⟩
  f50 := ⟨Tryz.f145.name, by decide, Tryz.func145.trans (congrArg some (by kernel_rfl))⟩
  f57 := ⟨Tryz.f173.name, by decide, Tryz.func173.trans (congrArg some (by kernel_rfl))⟩
  t0 := Tryz.underlying0
  a0 := Tryz.isAgg0
  z0 := Tryz.sizeOf0
  v0 := Tryz.zeroValue0
  t3 := Tryz.underlying3
  a3 := Tryz.isAgg3
  z3 := Tryz.sizeOf3
  v3 := Tryz.zeroValue3
  t4 := Tryz.underlying4
  a4 := Tryz.isAgg4
  z4 := Tryz.sizeOf4
  v4 := Tryz.zeroValue4
  t5 := Tryz.underlying5
  a5 := Tryz.isAgg5
  z5 := Tryz.sizeOf5
  v5 := Tryz.zeroValue5
  t9 := Tryz.underlying9
  a9 := Tryz.isAgg9
  z9 := Tryz.sizeOf9
  v9 := Tryz.zeroValue9
  t22 := Tryz.underlying41
  a22 := Tryz.isAgg41
  z22 := Tryz.sizeOf41
  v22 := Tryz.zeroValue41
  t25 := Tryz.underlying107
  a25 := Tryz.isAgg107
  z25 := Tryz.sizeOf107
  v25 := Tryz.zeroValue107
  t39 := Tryz.underlying75
  a39 := Tryz.isAgg75
  z39 := Tryz.sizeOf75
  v39 := Tryz.zeroValue75
  t45 := Tryz.underlying205
  a45 := Tryz.isAgg205
  z45 := Tryz.sizeOf205
  v45 := Tryz.zeroValue205
  t46 := Tryz.underlying206
  a46 := Tryz.isAgg206
  z46 := Tryz.sizeOf206
  v46 := Tryz.zeroValue206
  t50 := Tryz.underlying39
  a50 := Tryz.isAgg39
  z50 := Tryz.sizeOf39
  v50 := Tryz.zeroValue39
  t53 := Tryz.underlying212
  a53 := Tryz.isAgg212
  z53 := Tryz.sizeOf212
  v53 := Tryz.zeroValue212
  t55 := Tryz.underlying214
  a55 := Tryz.isAgg214
  z55 := Tryz.sizeOf214
  v55 := Tryz.zeroValue214
  t66 := Tryz.underlying250
  a66 := Tryz.isAgg250
  z66 := Tryz.sizeOf250
  v66 := Tryz.zeroValue250
  t70 := Tryz.underlying254
  a70 := Tryz.isAgg254
  z70 := Tryz.sizeOf254
  v70 := Tryz.zeroValue254
  t76 := Tryz.underlying284
  a76 := Tryz.isAgg284
  z76 := Tryz.sizeOf284
  v76 := Tryz.zeroValue284
  t77 := Tryz.underlying235
  a77 := Tryz.isAgg235
  z77 := Tryz.sizeOf235
  v77 := Tryz.zeroValue235 }
end Go.Proofs.YtbfkkepdeepdeaaGreatDoor
end
section
namespace Go.Proofs.YtbfkkepdeepdeaaGreatDoor
open Go.RowKit Go.Maps Go.Proofs.YtbfkkepdeepdeaaGreatDoorW.PrintWords Go.Proofs.YtbfkkepdeepdeaaGreatDoorW.PrintLast Go.Proofs.YtbfkkepdeepdeaaGreatDoorW.PrintMore
set_option linter.unusedVariables false
set_option linter.unusedSimpArgs false
theorem law9 : Keyed Tryz.prog 9 := string_keyed Tryz.underlying9
theorem zero3 (w : World) : (zeroValue 3).run Tryz.prog w = .ok (.int .i64 0) w := by kernel_rfl
theorem find_some {H : Type} (tb mb n : Nat) (D : DataW H) (s : ByteArray) (w : World) (hc : w.cell? ⟨tb, 1, none⟩ = some (.map (some mb)))
    (hown : w.ownsMap Tryz.prog 9 (plainElem Tryz.prog 3) mb n D) (hs : s.size ≤ maxLen) :
    Calls Tryz.prog 11 #[.pointer (some ⟨tb, 0, none⟩), .string s] w fun e w' => ∃ c, e = .returned (.tuple #[.int .i64 c, .bool (Maps.has D (.string s.data.toList))]) ∧ D.atKey (.string s.data.toList) (.lit (.int .i64 0)) = .lit (.int .i64 c) ∧ w = w' := by
  have hkey := Go.WideMaps.keyOf_string_mk (P := Tryz.prog) Tryz.underlying9 hs
  go_enter Tryz.func11, Tryz.ntmps11
  go_wp2_with (at_lookup; refine wpList_lookup_own_ok_int _ rfl _ _ 88 rfl 9 3 .i64 law9 Tryz.underlying88 Tryz.underlying3 (zero3 _) mb n D rfl hown _ _ rfl hkey ?_; intro c hat hwc)
  all_goals (go_ret2; exact ⟨c, rfl, hat, rfl⟩)
abbrev zEntry : Value := .agg #[.int .i64 0, .bool false, .string ⟨#[]⟩, .int .i64 0, .string ⟨#[]⟩, .int .i64 0, .slice none 0 0, .slice none 0 0, .string ⟨#[]⟩, .int .i64 0, .slice none 0 0]
abbrev eCells (x : En) (A6 : Option Addr) (c6 : Nat) (A7 : Option Addr) (c7 : Nat) (A10 : Option Addr) (c10 : Nat) : Array Value :=
  #[.int .i64 x.file, .bool x.cls.main, .string x.cls.name.text, .int .i64 x.cls.name.pos, .string x.cls.super.text, .int .i64 x.cls.super.pos, .slice A6 x.cls.fields.length c6, .slice A7 x.cls.methods.length c7, .string x.cls.arg.text, .int .i64 x.cls.arg.pos, .slice A10 x.cls.body.length c10]
def fnd (xs : List En) (s : ByteArray) : Option Nat := xs.findIdx? (fun e => e.cls.name.text = s)
def Names (D : DataW Unit) (xs : List En) : Prop := ∀ s : ByteArray, s.size ≤ maxLen → Maps.has D (.string s.data.toList) = (fnd xs s).isSome ∧ D.atKey (.string s.data.toList) (.lit (.int .i64 0)) = .lit (.int .i64 ((fnd xs s).getD 0))
structure Tab (w : World) (tb : Nat) (xs : List En) (main : Int) : Prop where
  ex : ∃ A c mb N D, w.cell? ⟨tb, 0, none⟩ = some (.slice A xs.length c) ∧ w.cell? ⟨tb, 1, none⟩ = some (.map (some mb)) ∧ w.cell? ⟨tb, 2, none⟩ = some (.int .i64 main) ∧
    Kd.C kEn w A xs.length xs ∧ w.ownsMap Tryz.prog 9 (plainElem (H := Unit) Tryz.prog 3) mb N D ∧ Names D xs
  names : ∀ e ∈ xs, e.cls.name.text.size ≤ maxLen ∧ e.cls.super.text.size ≤ maxLen
  short : xs.length ≤ 1000000000
theorem ownsMap_below {w w' : World} {P : Program} {k : TypeId} {R : Value → Option (DataW Unit × List MemPlace)} {b n : Nat} {D : DataW Unit} (h : w.ownsMap P k R b n D) (hb : Below w.heap.size w w') : w'.ownsMap P k R b n D := by
  have hlt := h.lt
  obtain ⟨es, clock, h1, F, hs, hD⟩ := h
  exact ⟨es, clock, (hb.block b hlt).trans h1, F, hs, hD⟩
theorem Tab.later {w w' : World} {tb : Nat} {xs : List En} {m : Int} (h : Tab w tb xs m) (hb : Below w.heap.size w w') : Tab w' tb xs m := by
  obtain ⟨⟨A, c, mb, N, D, h0, h1, h2, h3, h4, h5⟩, hn, hs⟩ := h
  exact ⟨⟨A, c, mb, N, D, cell_later hb h0, cell_later hb h1, cell_later hb h2, Kd.C_below h3 hb, ownsMap_below h4 hb, h5⟩, hn, hs⟩
theorem Find_calls {w : World} {tb : Nat} {xs : List En} {m : Int} (T : Tab w tb xs m) (s : ByteArray) (hs : s.size ≤ maxLen) :
    Calls Tryz.prog 11 #[.pointer (some ⟨tb, 0, none⟩), .string s] w fun e w' => e = .returned (.tuple #[.int .i64 ((fnd xs s).getD 0 : Nat), .bool (fnd xs s).isSome]) ∧ w = w' := by
  obtain ⟨⟨A, c, mb, N, D, h0, h1, h2, h3, h4, h5⟩, hn, hsh⟩ := T
  refine (find_some tb mb N D s w h1 h4 hs).mono ?_
  rintro e w' ⟨c, rfl, hat, rfl⟩
  obtain ⟨g1, g2⟩ := h5 s hs
  rw [g2] at hat
  injection hat with hat
  injection hat with _ hat
  rw [g1, ← hat]
  exact ⟨rfl, rfl⟩
end Go.Proofs.YtbfkkepdeepdeaaGreatDoor
end
section
namespace Go.Proofs.YtbfkkepdeepdeaaGreatDoor
open Go.RowKit Go.Maps Go.Proofs.YtbfkkepdeepdeaaGreatDoorW.PrintWords Go.Proofs.YtbfkkepdeepdeaaGreatDoorW.PrintLast Go.Proofs.YtbfkkepdeepdeaaGreatDoorW.PrintMore
set_option linter.unusedVariables false
set_option linter.unusedSimpArgs false
set_option maxRecDepth 100000
attribute [local go_sem ↓] Go.wp_at_zero Go.wp_at_succ
theorem info124 : (Tryz.prog.info? 38).map (fun i => (i.zero, i.size, i.bytes)) = some (some zEntry, 11, 160) := by kernel_rfl
def entsFrom (f : Nat) : List (List Cl) → List En
  | [] => []
  | l :: r => l.map (fun c => (⟨f, c⟩ : En)) ++ entsFrom (f + 1) r
def ents (all : List (List Cl)) : List En := entsFrom 0 all
theorem entsFrom_append (a b : List (List Cl)) : ∀ f, entsFrom f (a ++ b) = entsFrom f a ++ entsFrom (f + a.length) b := by
  induction a with
  | nil => intro f; simp [entsFrom]
  | cons x a ih => intro f; simp only [List.cons_append, entsFrom, ih, List.append_assoc, List.length_cons]; rw [show f + 1 + a.length = f + (a.length + 1) by omega]
theorem ents_snoc (a : List (List Cl)) (l : List Cl) : ents (a ++ [l]) = ents a ++ l.map (fun c => (⟨a.length, c⟩ : En)) := by
  simp [ents, entsFrom_append, entsFrom]
def mainOf (xs : List En) : Int := match xs.findIdx? (fun e => e.cls.main) with | none => -1 | some k => k
structure Tb (w wr : World) (tb mb : Nat) (v : Value) (es em : List En) (mn : Int) : Prop where
  cells : wr.heap[tb]? = some (.cells #[v, .map (some mb), .int .i64 mn] 91 (0, 0))
  row : Kd.R (Kd.fixed kEn w) 38 wr w.heap.size (fun b => tb < b) v es
  map : ∃ N D, N ≤ em.length ∧ wr.ownsMap Tryz.prog 9 (plainElem (H := Unit) Tryz.prog 3) mb N D ∧ Names D em
  below : Below w.heap.size w wr
theorem names_nil : Names (.map [] : DataW Unit) [] := fun s _ => ⟨rfl, rfl⟩
theorem Tb.cell {w wr : World} {tb mb : Nat} {v : Value} {es em : List En} {mn : Int} (h : Tb w wr tb mb v es em mn) : wr.cell? ⟨tb, 0, none⟩ = some v ∧ wr.cell? ⟨tb, 1, none⟩ = some (.map (some mb)) ∧ wr.cell? ⟨tb, 2, none⟩ = some (.int .i64 mn) ∧ wr.frozen? ⟨tb, 0, none⟩ = false ∧ wr.frozen? ⟨tb, 2, none⟩ = false := by
  have := h.cells
  simp [World.cell?, World.frozen?, this]
theorem blk_grown {wr w2 : World} {o : Obj} {row : Option Nat} {tb : Nat} {O : Obj} (h : wr.heap[tb]? = some O) (hG : ((wr.alloc o).drew).grownBy w2 row) (hne : some tb ≠ row) : w2.heap[tb]? = some O := by
  have hlt := (Array.getElem?_eq_some_iff.1 h).1
  exact (hG.block tb (by show tb < (wr.alloc o).heap.size; simp; omega) hne).trans ((Below.heap_alloc wr o tb hlt).trans h)
theorem ownsMap_block {w w' : World} {P : Program} {k : TypeId} {R : Value → Option (DataW Unit × List MemPlace)} {b n : Nat} {D : DataW Unit} (h : w.ownsMap P k R b n D) (e : w'.heap[b]? = w.heap[b]?) : w'.ownsMap P k R b n D := by
  obtain ⟨es, clock, h1, F, hs, hD⟩ := h
  exact ⟨es, clock, e.trans h1, F, hs, hD⟩
theorem C_len {α : Type} {d : Kd α} {w : World} {A : Option Addr} {n : Nat} {xs : List α} (h : Kd.C d w A n xs) : n = xs.length := h.1.symm
theorem C_max {α : Type} {d : Kd α} {w : World} {A : Option Addr} {n : Nat} {xs : List α} (h : Kd.C d w A n xs) : n ≤ 9223372036854775807 := h.2.1
abbrev optV (o : Option Nat) : Value := .tuple #[.int .i64 ((o.getD 0 : Nat) : Int), .bool o.isSome]
theorem look_run {w : World} {mb N : Nat} {D : DataW Unit} {es : List En} (h : w.ownsMap Tryz.prog 9 (plainElem (H := Unit) Tryz.prog 3) mb N D) (hD : Names D es) {s : ByteArray} (hs : s.size ≤ maxLen) :
    (Instr.lookup 88 (.map (some mb)) (.string s) true).run Tryz.prog w = .ok (optV (fnd es s)) w := by
  obtain ⟨v, ps, hrun, hv⟩ := h.look_ok law9 Tryz.underlying88 (zero3 w) (plainElem_int (q := .i64) Tryz.underlying3 (by decide)) (Go.WideMaps.keyOf_string_mk Tryz.underlying9 hs)
  obtain ⟨c, rfl, hc, _⟩ := plainElem_int_inv Tryz.underlying3 hv
  obtain ⟨h1, h2⟩ := hD s hs
  have hc' := congrArg Prod.fst hc
  rw [h2] at hc'
  injection hc' with hc'
  injection hc' with _ hc'
  rw [hrun, h1, ← hc']
theorem look_runN {w : World} {mb N : Nat} {D : DataW Unit} {es : List En} (h : w.ownsMap Tryz.prog 9 (plainElem (H := Unit) Tryz.prog 3) mb N D) (hD : Names D es) {s : ByteArray} (hs : s.size ≤ maxLen) (nq : Nat) :
    (Instr.lookup 88 (.map (some mb)) (.string s) true).run Tryz.prog (w.drewN nq) = .ok (optV (fnd es s)) (w.drewN nq) := look_run (w := w.drewN nq) h hD hs
theorem Tb.draw {w wr : World} {tb mb : Nat} {v : Value} {es em : List En} {mn : Int} (h : Tb w wr tb mb v es em mn) (n : Nat) : Tb w (wr.drewN n) tb mb v es em mn :=
  ⟨h.cells, Kd.R_drewN h.row n, h.map, pw_below_drewN h.below n⟩
theorem mainOf_snoc (es : List En) (e : En) : mainOf (es ++ [e]) = if mainOf es < 0 ∧ e.cls.main = true then (es.length : Int) else mainOf es := by
  unfold mainOf
  rw [List.findIdx?_append]
  cases h : es.findIdx? (fun e => e.cls.main) with
  | none =>
    cases he : e.cls.main <;> simp [List.findIdx?_cons, he]
  | some k => simp; omega
theorem fnd_snoc (es : List En) (e : En) (s : ByteArray) : fnd (es ++ [e]) s = match fnd es s with | some k => some k | none => if e.cls.name.text = s then some es.length else none := by
  unfold fnd
  rw [List.findIdx?_append]
  cases h : es.findIdx? (fun e => decide (e.cls.name.text = s)) with
  | none => by_cases he : e.cls.name.text = s <;> simp [List.findIdx?_cons, he]
  | some k => rfl
theorem Names.old {D : DataW Unit} {es : List En} {e : En} {k : Nat} (h : Names D es) (hf : fnd es e.cls.name.text = some k) : Names D (es ++ [e]) := by
  intro s hs
  rw [fnd_snoc]
  have := h s hs
  cases h1 : fnd es s with
  | some j => rw [h1] at this; exact this
  | none =>
    have hne : e.cls.name.text ≠ s := by rintro rfl; rw [h1] at hf; cases hf
    rw [h1] at this
    simpa [hne] using this
theorem data_inj {s t : ByteArray} (h : s.data.toList = t.data.toList) : s = t := by
  cases s; cases t; simp at h; subst h; rfl
theorem Names.put {D : DataW Unit} {es : List En} {e : En} (h : Names D es) (hD : Maps.IsMap D) (hf : fnd es e.cls.name.text = none) :
    Names (D.put (.string e.cls.name.text.data.toList) (.lit (.int .i64 es.length))) (es ++ [e]) := by
  intro s hs
  rw [fnd_snoc]
  by_cases he : e.cls.name.text = s
  · subst he
    rw [hf]
    refine ⟨?_, ?_⟩
    · rw [Maps.has_put_same hD (by first | exact trivial | simp [WideAt.IsKeyLit])]; simp
    · rw [Maps.atKey_put_same hD (by first | exact trivial | simp [WideAt.IsKeyLit])]; simp
  · have hne : (Lit.string s.data.toList) ≠ Lit.string e.cls.name.text.data.toList := by
      intro hc; injection hc with hc; exact he (data_inj hc).symm
    rw [Maps.has_put_other hne, Maps.atKey_put_other hne]
    have := h s hs
    cases h1 : fnd es s with
    | some j => rw [h1] at this; exact this
    | none => rw [h1] at this; simpa [he] using this
theorem Tb.put {w wr w1 : World} {tb mb N : Nat} {v : Value} {es em : List En} {mn : Int} {D : DataW Unit} {e : En} (h : Tb w wr tb mb v es em mn) (hmt : mb < tb) (hD : Names D em) (hI : Maps.IsMap D) (hN : N ≤ em.length) (hf : fnd em e.cls.name.text = none)
    (hown : w1.ownsMap Tryz.prog 9 (plainElem (H := Unit) Tryz.prog 3) mb (N + 1) (D.put (.string e.cls.name.text.data.toList) (.lit (.int .i64 em.length)))) (hg : wr.grownBy w1 (some mb)) (hmb : w.heap.size ≤ mb) : Tb w w1 tb mb v es (em ++ [e]) mn := by
  refine ⟨(hg.block tb (Array.getElem?_eq_some_iff.1 h.cells).1 (by simp; omega)).trans h.cells, Kd.R_grown h.row hg (fun k hk => by simp; omega), ⟨N + 1, _, by simp; omega, hown, hD.put hI hf⟩, h.below.grown hg h.below.size (fun k hk => by cases hk; exact hmb)⟩
theorem Tb.main {w wr : World} {tb mb : Nat} {v : Value} {es em : List En} {mn : Int} (h : Tb w wr tb mb v es em mn) (hmt : mb ≠ tb) (hw : w.heap.size ≤ tb) (m2 : Int) : Tb w (wr.setCell ⟨tb, 2, none⟩ (.int .i64 m2)) tb mb v es em m2 := by
  obtain ⟨N, D, hN, hown, hD⟩ := h.map
  exact ⟨heap_setCell_same h.cells 2 _, Kd.R_far h.row (fun k hk => by show k ≠ tb; omega) _, ⟨N, D, hN, ownsMap_block hown (Below.heap_setCell wr ⟨tb, 2, none⟩ _ _ hmt), hD⟩, h.below.setCell (p := ⟨tb, 2, none⟩) hw _⟩
theorem ents_at (all : List (List Cl)) (i k : Nat) (hi : i < all.length) (hk : k < (rd_LCl all i).length) :
    ∃ r, ents all = (ents (all.take i) ++ ((rd_LCl all i).take k).map (fun c => (⟨i, c⟩ : En))) ++ ⟨i, rd_Cl (rd_LCl all i) k⟩ :: r := by
  have e1 : rd_LCl all i = all[i] := by unfold rd_LCl; rw [Int.toNat_natCast, List.getD_eq_getElem?_getD, List.getElem?_eq_getElem hi]; rfl
  have e2 : rd_Cl (rd_LCl all i) k = (rd_LCl all i)[k] := by unfold rd_Cl; rw [Int.toNat_natCast, List.getD_eq_getElem?_getD, List.getElem?_eq_getElem hk]; rfl
  have e3 : all = (all.take i ++ [rd_LCl all i]) ++ all.drop (i + 1) := by rw [e1, ← List.take_succ_eq_append_getElem hi, List.take_append_drop]
  have e4 : rd_LCl all i = (rd_LCl all i).take k ++ rd_Cl (rd_LCl all i) k :: (rd_LCl all i).drop (k + 1) := by
    rw [e2, ← List.drop_eq_getElem_cons hk, List.take_append_drop]
  have e5 : (ents ((all.take i ++ [rd_LCl all i]) ++ all.drop (i + 1))) = ents (all.take i) ++ (rd_LCl all i).map (fun c => (⟨i, c⟩ : En)) ++ entsFrom (i + 1) (all.drop (i + 1)) := by
    unfold ents
    rw [entsFrom_append, entsFrom_append]
    simp [entsFrom, Nat.min_eq_left (Nat.le_of_lt hi)]
  refine ⟨((rd_LCl all i).drop (k + 1)).map (fun c => (⟨i, c⟩ : En)) ++ entsFrom (i + 1) (all.drop (i + 1)), ?_⟩
  calc ents all = ents ((all.take i ++ [rd_LCl all i]) ++ all.drop (i + 1)) := by rw [← e3]
    _ = ents (all.take i) ++ ((rd_LCl all i).take k ++ rd_Cl (rd_LCl all i) k :: (rd_LCl all i).drop (k + 1)).map (fun c => (⟨i, c⟩ : En)) ++ entsFrom (i + 1) (all.drop (i + 1)) := by rw [e5, ← e4]
    _ = _ := by simp
theorem isMap_of {w : World} {mb N : Nat} {D : DataW Unit} (h : w.ownsMap Tryz.prog 9 (plainElem (H := Unit) Tryz.prog 3) mb N D) : Maps.IsMap D := by
  obtain ⟨es, clock, h1, F, hs, hD⟩ := h
  exact ⟨_, hD⟩
theorem wf64 {n : Nat} (h : n ≤ 1000000000) : (Lit.int .i64 (n : Int)).wf = true := by
  have h1 : IntKind.i64.min = -9223372036854775808 := by decide
  have h2 : IntKind.i64.max = 9223372036854775807 := by decide
  show (decide (IntKind.i64.min ≤ (n : Int)) && decide ((n : Int) ≤ IntKind.i64.max)) = true
  rw [h1, h2, Bool.and_eq_true, decide_eq_true_iff, decide_eq_true_iff]
  omega
theorem Tb.tab {w wr : World} {tb mb : Nat} {v : Value} {es : List En} {mn : Int} (h : Tb w wr tb mb v es es mn) (hn : ∀ e ∈ es, e.cls.name.text.size ≤ maxLen ∧ e.cls.super.text.size ≤ maxLen) (hs : es.length ≤ 1000000000) : Tab wr tb es mn := by
  obtain ⟨A, c, rfl, hl, hC⟩ := Kd.R_reads h.row
  obtain ⟨N, D, hN, hown, hD⟩ := h.map
  obtain ⟨g0, g1, g2, -, -⟩ := h.cell
  exact ⟨⟨A, c, mb, N, D, g0, g1, g2, ReadsRow.imp_ hC (Below.refl _ _) (fun _ _ hp => kEn.K_below h.below hp), hown, hD⟩, hn, hs⟩
set_option maxHeartbeats 4000000 in
theorem TNew_calls {w : World} {A : Option Addr} {n c : Nat} {all : List (List Cl)} (h : Kd.C (Kd.slice 36 kCl) w A n all) (hnames : ∀ e ∈ ents all, e.cls.name.text.size ≤ maxLen ∧ e.cls.super.text.size ≤ maxLen) (hsh : (ents all).length ≤ 1000000000) :
    Calls Tryz.prog 9 #[.slice A n c] w fun e w' => ∃ tb, e = .returned (.pointer (some ⟨tb, 0, none⟩)) ∧ Tab w' tb (ents all) (mainOf (ents all)) ∧ Below w.heap.size w w' := by
  have HNM := Lib.hid hnames
  have HSH := Lib.hid hsh
  clear hnames hsh
  obtain rfl := C_len h
  have hm := C_max h
  have H := Lib.hid h
  clear h
  have hmm := @run_makeMap Tryz.prog
  go_enter Tryz.func9, Tryz.ntmps9
  go_wp2
  go_loopw [16] (fun v16 wr => ∃ (i : Nat) (v : Value), i ≤ all.length ∧ v16 = .int .i64 i ∧ Hid (Tb w wr (w.heap.size + 1) w.heap.size v (ents (all.take i)) (ents (all.take i)) (mainOf (ents (all.take i))))) (fun v16 wr => all.length - (intOf v16).toNat)
  case atStart =>
    refine ⟨0, .slice none 0 0, Nat.zero_le _, rfl, ?_⟩
    show Tb _ _ _ _ _ _ _ _
    refine ⟨by have := heap_alloc_new (w.alloc (.map #[] 0)) (.cells #[.slice none 0 0, .map (some w.heap.size), .int .i64 (-1)] 91); rwa [World.size_alloc] at this, Kd.R_nil _ _ _ _ _, ⟨0, _, Nat.le_refl _, (World.ownsMap_made w _ _ _).alloc _, names_nil⟩, ((Below.refl _ _).alloc (Nat.le_refl _) _).alloc (by simp) _⟩
  case round =>
    obtain ⟨i, v, hi, rfl, hT⟩ := hrel
    by_cases hlti : i < all.length
    · obtain ⟨ad, A0, c0, rfl, hx, hl0, hC0⟩ := at_LCl H.out (i : Int) (by omega) (by omega)
      rw [Int.toNat_natCast] at hx
      replace hx := cell_later hT.out.below hx
      have hm0 := C_max hC0
      have HC0 := Lib.hid hC0
      clear hC0
      go_wp2
      go_loopw [23] (fun v23 wr => ∃ (k : Nat) (v : Value), k ≤ (rd_LCl all i).length ∧ v23 = .int .i64 k ∧ ∃ es, Hid (es = ents (all.take i) ++ ((rd_LCl all i).take k).map (fun c => (⟨i, c⟩ : En))) ∧ Hid (Tb w wr (w.heap.size + 1) w.heap.size v es es (mainOf es))) (fun v23 wr => (rd_LCl all i).length - (intOf v23).toNat)
      case atStart => exact ⟨0, v, Nat.zero_le _, rfl, ents (all.take i), by show _ = _; simp, hT.out⟩
      case round =>
        obtain ⟨k, v, hk, rfl, es, HES, hT⟩ := hrel
        by_cases hlt : k < (rd_LCl all i).length
        · obtain ⟨er, her⟩ := ents_at all i k hlti hlt
          rw [← HES.out] at her
          have hesl : es.length < 1000000000 := by have := HSH.out; rw [her] at this; simp at this; omega
          have HNX := Lib.hid (HNM.out ⟨i, rd_Cl (rd_LCl all i) k⟩ (by rw [her]; simp)).1
          clear her
          obtain ⟨ad, A5, c5, A6, c6, A9, c9, rfl, hx0, hx1, hx2, hx3, hx4, hx5, hx6, hx7, hx8, hx9, hxl5, hxg5, hxl6, hxg6, hxl9, hxg9⟩ := at_Cl HC0.out (k : Int) (by omega) (by omega)
          obtain ⟨x, hx⟩ : ∃ x, x = rd_Cl (rd_LCl all i) k := ⟨_, rfl⟩
          rw [← hx, Int.toNat_natCast] at hx0 hx1 hx2 hx3 hx4 hx5 hx6 hx7 hx8 hx9
          rw [← hx] at HNX
          rw [← hx] at hxl5 hxg5 hxl6 hxg6 hxl9 hxg9
          have HXX := Lib.hid hx
          have HK := Lib.hid (kEn_mk w (⟨i, x⟩ : En) hxl5 hxg5 hxl6 hxg6 hxl9 hxg9)
          have hbl := hT.out.below
          replace hx0 := cell_later hbl hx0
          replace hx1 := cell_later hbl hx1
          replace hx2 := cell_later hbl hx2
          replace hx3 := cell_later hbl hx3
          replace hx4 := cell_later hbl hx4
          replace hx5 := cell_later hbl hx5
          replace hx6 := cell_later hbl hx6
          replace hx7 := cell_later hbl hx7
          replace hx8 := cell_later hbl hx8
          replace hx9 := cell_later hbl hx9
          clear hx hxl5 hxg5 hxl6 hxg6 hxl9 hxg9 hbl
          obtain ⟨hc0, hc1, hc2, hf0, hf2⟩ := hT.out.cell
          obtain ⟨Av, cv, rfl, hlv, hCv⟩ := Kd.R_reads hT.out.row
          clear hCv
          have hob1 := Lib.hid (fun b hb => hT.out.row.1 b hb)
          have hob2 := Lib.hid (Kd.R_lt hT.out.row)
          have HL := Lib.hid (show (es.length + 1) * 160 ≤ 140737488355328 by omega)
          have htb : w.heap.size + 1 < wr.heap.size := cell_block hc0
          have htb2 : w.heap.size < wr.heap.size := by omega
          go_upto_region 9 with fail
          go_cut [] (fun wx => ∃ A1 c1, Hid (Tb w wx (w.heap.size + 1) w.heap.size (.slice A1 (es.length + 1) c1) (es ++ [(⟨i, x⟩ : En)]) es (mainOf es)) ∧
            Hid (wx.heap[wr.heap.size]? = some (.cells #[.bool x.main, .string x.name.text, .int .i64 x.name.pos, .string x.super.text, .int .i64 x.super.pos, .slice A5 x.fields.length c5, .slice A6 x.methods.length c6, .string x.arg.text, .int .i64 x.arg.pos, .slice A9 x.body.length c9] 36 (0, 0))))
          case first =>
            go_region_law
            ((refine Kd.R_append_step (Kd.fixed kEn w) (w0 := w) (W := (wr.alloc (.cells #[.bool x.main, .string x.name.text, .int .i64 x.name.pos, .string x.super.text, .int .i64 x.super.pos, .slice A5 x.fields.length c5, .slice A6 x.methods.length c6, .string x.arg.text, .int .i64 x.arg.pos, .slice A9 x.body.length c9] 36)).drew) w.heap.size (by rfl) (.tmp 36) (.tmp 40) 89 38 zEntry 160 (by rfl) Tryz.underlying89 info124 rfl (by show 0 < 11; decide) (by decide) (.slice Av es.length cv) es (⟨i, x⟩ : En)
                [.int .i64 i, .bool x.main, .string x.name.text, .int .i64 x.name.pos, .string x.super.text, .int .i64 x.super.pos, .slice A5 x.fields.length c5, .slice A6 x.methods.length c6, .string x.arg.text, .int .i64 x.arg.pos, .slice A9 x.body.length c9]
                (fun b => w.heap.size + 1 < b) (fun _ => False) (by rfl) (by show Value.slice (some ⟨wr.heap.size + 1, 0, none⟩) 1 1 = _; simp) HK.out (fun _ h => h.elim) (by intro b hb; simp at hb; omega) (by with_reducible repeat (first | exact hT.out.row | apply Kd.R_alloc | apply Kd.R_drew | apply Kd.R_drewN))
                (by repeat (first | exact hT.out.below | apply below_alloc | apply below_drew)) (by have := hT.out.below.size; simp; omega) HL.out ?_; intro v1 w2 hR1 hB1 hG1 hA1; (obtain ⟨A1, c1, rfl⟩ := Kd.R_slice hR1); have hq := Lib.hid (blk_grown hT.out.cells hG1 (fun e => Nat.lt_irrefl _ (hob1.out _ e.symm))); have hq0 := (cell_blk hq.out 0).trans rfl; have hqf := frozen_blk hq.out 0; have hqm := Lib.hid (hG1.block w.heap.size (by simp; omega) (fun e => by have := hob1.out _ e.symm; omega)); have hqc := Lib.hid (hG1.block wr.heap.size (by simp) (fun e => Nat.lt_irrefl _ (hob2.out _ e.symm)))))
            all_goals
              go_wp2_with fail
              go_meet
              obtain ⟨N, D, hN, hown, hD⟩ := hT.out.map
              rw [List.length_append] at hR1
              exact ⟨A1, c1, ⟨heap_setCell_same hq.out 0 _, Kd.R_far hR1 (fun k hk => by show k ≠ w.heap.size + 1; omega) _, ⟨N, D, hN, ownsMap_block hown ((Below.heap_setCell w2 ⟨w.heap.size + 1, 0, none⟩ _ _ (by show w.heap.size ≠ w.heap.size + 1; omega)).trans (hqm.out.trans (Below.heap_alloc wr _ _ htb2))), hD⟩,
                hB1.setCell (p := ⟨w.heap.size + 1, 0, none⟩) (Nat.le_succ _) _⟩, (Below.heap_setCell w2 ⟨w.heap.size + 1, 0, none⟩ _ _ (by show wr.heap.size ≠ w.heap.size + 1; omega)).trans (hqc.out.trans (heap_alloc_new wr _))⟩
          case rest =>
            obtain ⟨A1, c1, hT2, hcb⟩ := hcut
            obtain ⟨hd0, hd1, hd2, hg0, hg2⟩ := hT2.out.cell
            have he0 := (cell_blk hcb.out 0).trans rfl
            have he1 := (cell_blk hcb.out 1).trans rfl
            clear hc0 hc1 hc2 hf0 hf2 hx0 hx1 hx2 hx3 hx4 hx5 hx6 hx7 hx8 hx9 hx
            obtain ⟨Nm, D, hN, hown, hD⟩ := hT2.out.map
            have hlk := look_runN hown hD HNX.out
            have HOwn := Lib.hid hown
            have HD := Lib.hid hD
            have HI := Lib.hid (isMap_of hown)
            clear hown hD
            have HSN := Lib.hid (show es ++ [(⟨i, x⟩ : En)] = ents (all.take i) ++ ((rd_LCl all i).take (k + 1)).map (fun c => (⟨i, c⟩ : En)) by
              rw [HES.out, HXX.out, List.take_succ_eq_append_getElem hlt, List.map_append, List.append_assoc]
              unfold rd_Cl
              rw [Int.toNat_natCast, List.getD_eq_getElem?_getD, List.getElem?_eq_getElem hlt]; rfl)
            have HMN := Lib.hid (mainOf_snoc es (⟨i, x⟩ : En))
            cases hf : fnd es x.name.text with
            | none =>
              rw [hf] at hlk
              have HF := Lib.hid hf
              clear hf
              have HW := Lib.hid (wf64 (n := es.length) (by omega))
              have HKY := Lib.hid (Go.WideMaps.keyOf_string_mk (P := Tryz.prog) (k := 9) Tryz.underlying9 HNX.out)
              have hcs : x.main = false ∨ (x.main = true ∧ mainOf es < 0) ∨ (x.main = true ∧ ¬ mainOf es < 0) := by cases x.main <;> simp <;> omega
              rcases hcs with hmx | ⟨hmx, hmn⟩ | ⟨hmx, hmn⟩
              · have HM := Lib.hid (HMN.out.trans (if_neg (by rintro ⟨-, h2⟩; exact absurd (show x.main = true from h2) (by rw [hmx]; decide))))
                go_wp2
                go_quiet (fail)
                go_wp2
                refine wp_region_still_tail 8 (by kernel_rfl) (by kernel_rfl) ?_
                simp only [List.take_succ_cons, List.take_zero, List.drop_succ_cons, List.drop_zero]
                change wpStill _ _ (wc.drewN (nq + 1)) (fun a' => wpList _ _ _ _ a' (wc.drewN (nq + 1))) _ _
                repeat still_step
                refine wpStill_nil ?_
                go_wp2_with (at_mapUpdate; refine wpList_mapUpdate_own _ rfl _ _ _ 88 rfl 9 3 law9 Tryz.underlying88 _ w.heap.size Nm D rfl HOwn.out (by unfold maxLen; omega) _ _ _ rfl rfl HKY.out _ [] (plainElem_int Tryz.underlying3 HW.out) ?_; intro w1 hown1 hgrow1; have hT4 := Lib.hid ((hT2.out.draw (nq + 1)).put (e := (⟨i, x⟩ : En)) (by omega) HD.out HI.out hN HF.out hown1 hgrow1 (Nat.le_refl _)); (obtain ⟨-, -, hd2', -, hg2'⟩ := hT4.out.cell); have he0' := (cell_blk ((hgrow1.block wr.heap.size (Array.getElem?_eq_some_iff.1 hcb.out).1 (by simp; omega)).trans hcb.out) 0).trans rfl; clear hown1 hgrow1)
                go_roundw
                case rel => exact ⟨k + 1, .slice A1 (es.length + 1) c1, by omega, by go_num, es ++ [(⟨i, x⟩ : En)], HSN, by show Tb _ _ _ _ _ _ _ _; rw [HM.out]; exact hT4.out⟩
                case measure => simp [intOf]; omega
              · have HM := Lib.hid (HMN.out.trans (if_pos ⟨hmn, hmx⟩))
                go_wp2
                go_quiet (fail)
                go_wp2
                refine wp_region_still_tail 8 (by kernel_rfl) (by kernel_rfl) ?_
                simp only [List.take_succ_cons, List.take_zero, List.drop_succ_cons, List.drop_zero]
                change wpStill _ _ (wc.drewN (nq + 1)) (fun a' => wpList _ _ _ _ a' (wc.drewN (nq + 1))) _ _
                repeat still_step
                refine wpStill_nil ?_
                go_wp2_with (at_mapUpdate; refine wpList_mapUpdate_own _ rfl _ _ _ 88 rfl 9 3 law9 Tryz.underlying88 _ w.heap.size Nm D rfl HOwn.out (by unfold maxLen; omega) _ _ _ rfl rfl HKY.out _ [] (plainElem_int Tryz.underlying3 HW.out) ?_; intro w1 hown1 hgrow1; have hT4 := Lib.hid ((hT2.out.draw (nq + 1)).put (e := (⟨i, x⟩ : En)) (by omega) HD.out HI.out hN HF.out hown1 hgrow1 (Nat.le_refl _)); (obtain ⟨-, -, hd2', -, hg2'⟩ := hT4.out.cell); have he0' := (cell_blk ((hgrow1.block wr.heap.size (Array.getElem?_eq_some_iff.1 hcb.out).1 (by simp; omega)).trans hcb.out) 0).trans rfl; clear hown1 hgrow1)
                go_roundw
                case rel => exact ⟨k + 1, .slice A1 (es.length + 1) c1, by omega, by go_num, es ++ [(⟨i, x⟩ : En)], HSN, by show Tb _ _ _ _ _ _ _ _; rw [HM.out]; exact hT4.out.main (by omega) (by omega) _⟩
                case measure => simp [intOf]; omega
              · have HM := Lib.hid (HMN.out.trans (if_neg (fun h => hmn h.1)))
                go_wp2
                go_quiet (fail)
                go_wp2
                refine wp_region_still_tail 8 (by kernel_rfl) (by kernel_rfl) ?_
                simp only [List.take_succ_cons, List.take_zero, List.drop_succ_cons, List.drop_zero]
                change wpStill _ _ (wc.drewN (nq + 1)) (fun a' => wpList _ _ _ _ a' (wc.drewN (nq + 1))) _ _
                repeat still_step
                refine wpStill_nil ?_
                go_wp2_with (at_mapUpdate; refine wpList_mapUpdate_own _ rfl _ _ _ 88 rfl 9 3 law9 Tryz.underlying88 _ w.heap.size Nm D rfl HOwn.out (by unfold maxLen; omega) _ _ _ rfl rfl HKY.out _ [] (plainElem_int Tryz.underlying3 HW.out) ?_; intro w1 hown1 hgrow1; have hT4 := Lib.hid ((hT2.out.draw (nq + 1)).put (e := (⟨i, x⟩ : En)) (by omega) HD.out HI.out hN HF.out hown1 hgrow1 (Nat.le_refl _)); (obtain ⟨-, -, hd2', -, hg2'⟩ := hT4.out.cell); have he0' := (cell_blk ((hgrow1.block wr.heap.size (Array.getElem?_eq_some_iff.1 hcb.out).1 (by simp; omega)).trans hcb.out) 0).trans rfl; clear hown1 hgrow1)
                go_roundw
                case rel => exact ⟨k + 1, .slice A1 (es.length + 1) c1, by omega, by go_num, es ++ [(⟨i, x⟩ : En)], HSN, by show Tb _ _ _ _ _ _ _ _; rw [HM.out]; exact hT4.out⟩
                case measure => simp [intOf]; omega
            | some kf =>
              rw [hf] at hlk
              have HT3 := Lib.hid (fun nq => (⟨hT2.out.cells, Kd.R_drewN hT2.out.row nq, ⟨Nm, D, by simp; omega, HOwn.out, HD.out.old hf⟩, pw_below_drewN hT2.out.below nq⟩ : Tb w (World.drewN _ nq) (w.heap.size + 1) w.heap.size _ (es ++ [(⟨i, x⟩ : En)]) (es ++ [(⟨i, x⟩ : En)]) (mainOf es)))
              clear hf
              cases hmx : x.main
              · have HM := Lib.hid (HMN.out.trans (if_neg (by rintro ⟨-, h2⟩; exact absurd (show x.main = true from h2) (by rw [hmx]; decide))))
                go_wp2
                go_quiet (fail)
                go_wp2
                go_roundw
                case rel => exact ⟨k + 1, .slice A1 (es.length + 1) c1, by omega, by go_num, es ++ [(⟨i, x⟩ : En)], HSN, by show Tb _ _ _ _ _ _ _ _; rw [HM.out]; exact HT3.out _⟩
                case measure => simp [intOf]; omega
              · by_cases hmn : mainOf es < 0
                · have HM := Lib.hid (HMN.out.trans (if_pos ⟨hmn, hmx⟩))
                  go_wp2
                  go_quiet (fail)
                  go_wp2
                  go_roundw
                  case rel => exact ⟨k + 1, .slice A1 (es.length + 1) c1, by omega, by go_num, es ++ [(⟨i, x⟩ : En)], HSN, by show Tb _ _ _ _ _ _ _ _; rw [HM.out]; exact (HT3.out _).main (by omega) (by omega) _⟩
                  case measure => simp [intOf]; omega
                · have HM := Lib.hid (HMN.out.trans (if_neg (fun h => hmn h.1)))
                  go_wp2
                  go_quiet (fail)
                  go_wp2
                  go_roundw
                  case rel => exact ⟨k + 1, .slice A1 (es.length + 1) c1, by omega, by go_num, es ++ [(⟨i, x⟩ : En)], HSN, by show Tb _ _ _ _ _ _ _ _; rw [HM.out]; exact HT3.out _⟩
                  case measure => simp [intOf]; omega
        · have HE2 := Lib.hid (show es = ents (all.take (i + 1)) by
            rw [HES.out, List.take_of_length_le (l := rd_LCl all i) (by omega), List.take_succ_eq_append_getElem hlti, ents_snoc]
            have e1 : rd_LCl all i = all[i]'(by omega) := by unfold rd_LCl; rw [Int.toNat_natCast, List.getD_eq_getElem?_getD, List.getElem?_eq_getElem (by omega)]; rfl
            rw [e1]; simp [Nat.min_eq_left hi])
          go_wp2
          go_roundw
          case rel => exact ⟨i + 1, v, by omega, by go_num, by show Tb _ _ _ _ _ _ _ _; rw [← HE2.out]; exact hT.out⟩
          case measure => simp [intOf]; omega
    · have hi2 : i = all.length := by omega
      have HTB := Lib.hid (show Tab wr (w.heap.size + 1) (ents all) (mainOf (ents all)) by
        have := hT.out
        rw [List.take_of_length_le (by omega)] at this
        exact this.tab HNM.out HSH.out)
      have HB := Lib.hid hT.out.below
      clear hi2
      go_wp2
      go_ret
      exact ⟨w.heap.size + 1, rfl, HTB.out, HB.out⟩
end Go.Proofs.YtbfkkepdeepdeaaGreatDoor
end
section
namespace Go.Proofs.YtbfkkepdeepdeaaGreatDoor
open Go.RowKit Go.Maps Go.Proofs.YtbfkkepdeepdeaaGreatDoorW.PrintWords Go.Proofs.YtbfkkepdeepdeaaGreatDoorW.PrintLast Go.Proofs.YtbfkkepdeepdeaaGreatDoorW.PrintMore
set_option linter.unusedVariables false
set_option linter.unusedSimpArgs false
set_option maxRecDepth 100000
theorem at_int {w : World} {A : Option Addr} {n : Nat} {xs : List Int} (h : Kd.C (Kd.int .i64) w A n xs) (k : Nat) (h1 : k < xs.length) : ∃ ad, A = some ad ∧ w.cell? (ad.add k) = some (.int .i64 xs[k]) := by
  have hl := h.1
  obtain ⟨ad, c, e, _, hK, hc⟩ := Kd.C_get h (0 : Int) (k : Int) (by omega) (by omega)
  obtain rfl : c = [.int .i64 (xs.getD (k : Int).toNat 0)] := hK
  have := hc 0 _ rfl
  refine ⟨ad, e, ?_⟩
  rw [show (Kd.int IntKind.i64).sz = 1 from rfl] at this
  simpa [List.getElem?_eq_getElem h1] using this
theorem C_blk {α : Type} {d : Kd α} {w : World} {g e : Nat} {xs : List α} {inner : Array Value} (hb : w.heap[g]? = some (.cells inner e (0, 0))) (h : Reps (d.K w) d.sz xs inner.toList) (hm : xs.length ≤ 9223372036854775807) : d.C w (some ⟨g, 0, none⟩) xs.length xs := by
  refine ⟨rfl, hm, fun _ => ⟨_, rfl, fun j p hj => ⟨(inner.toList.drop (j * d.sz)).take d.sz, d.K_len (h.2 j p hj), h.2 j p hj, fun i u hu => ?_⟩⟩⟩
  have h1 : inner[j * d.sz + i]? = some u := by
    have hi := (List.getElem?_eq_some_iff.1 hu).1
    rw [List.length_take] at hi
    rw [List.getElem?_take_of_lt (by omega), List.getElem?_drop] at hu
    simpa using hu
  have h2 : (⟨g, 0, none⟩ : Addr).add (j * d.sz + i) = ⟨g, j * d.sz + i, none⟩ := by
    unfold Addr.add
    split
    · next h0 => rw [h0]
    · simp
  rw [h2, cell_blk hb, h1]
theorem Len_calls {w : World} {tb : Nat} {xs : List En} {m : Int} (T : Tab w tb xs m) :
    Calls Tryz.prog 28 #[.pointer (some ⟨tb, 0, none⟩)] w fun e w' => e = .returned (.int .i64 xs.length) ∧ w = w' := by
  obtain ⟨⟨A, c, mb, N, D, h0, -⟩, -⟩ := T
  go_enter Tryz.func28, Tryz.ntmps28
  go_wp2
  go_ret
  exact ⟨rfl, rfl⟩
structure But1 (n₀ b : Nat) (A B : World) : Prop where
  os : B.os = A.os
  tape : B.tape = A.tape
  output : B.output = A.output
  size : A.heap.size ≤ B.heap.size
  block : ∀ k, k < n₀ → k ≠ b → B.heap[k]? = A.heap[k]?
theorem But1.trans {n₀ b : Nat} {A B C : World} (h : But1 n₀ b A B) (k : But1 n₀ b B C) : But1 n₀ b A C :=
  ⟨k.os.trans h.os, k.tape.trans h.tape, k.output.trans h.output, Nat.le_trans h.size k.size, fun i hi hb => (k.block i hi hb).trans (h.block i hi hb)⟩
theorem But1.of_below {n₀ b B0 : Nat} {A B : World} (h : Below B0 A B) (hn : n₀ ≤ B0) : But1 n₀ b A B := ⟨h.os, h.tape, h.output, h.size, fun k hk _ => h.block k (Nat.lt_of_lt_of_le hk hn)⟩
theorem But1.refl (n₀ b : Nat) (A : World) : But1 n₀ b A A := ⟨rfl, rfl, rfl, Nat.le_refl _, fun _ _ _ => rfl⟩
theorem But1.cell {n₀ b : Nat} {A B : World} (h : But1 n₀ b A B) {g o : Nat} (hg : g < n₀) (hb : g ≠ b) : B.cell? ⟨g, o, none⟩ = A.cell? ⟨g, o, none⟩ := by simp [World.cell?, h.block g hg hb]
theorem But1.below {n₀ b : Nat} {A B : World} (h : But1 n₀ b A B) {B0 : Nat} (h1 : B0 ≤ n₀) (h2 : B0 ≤ b) : Below B0 A B := ⟨h.os, h.tape, h.output, h.size, fun k hk => h.block k (by omega) (by omega)⟩
theorem But1.putObj {n₀ b : Nat} (W : World) (l : Nat) (o : Obj) (hl : n₀ ≤ l) : But1 n₀ b W (W.putObj l o) :=
  ⟨rfl, rfl, rfl, by simp, fun k hk _ => World.putObj_heap_other (by omega)⟩
end Go.Proofs.YtbfkkepdeepdeaaGreatDoor
end
section
namespace Go.Proofs.YtbfkkepdeepdeaaGreatDoor
open Go.RowKit Go.Maps Go.Proofs.YtbfkkepdeepdeaaGreatDoorW.PrintWords Go.Proofs.YtbfkkepdeepdeaaGreatDoorW.PrintLast Go.Proofs.YtbfkkepdeepdeaaGreatDoorW.PrintMore
set_option linter.unusedVariables false
set_option linter.unusedSimpArgs false
set_option maxRecDepth 100000
attribute [local go_sem ↓] Go.wp_at_zero Go.wp_at_succ
def cmpI (x y : Int) : Int := if x < y then -1 else if y < x then 1 else 0
theorem isNaN_calls (x : Int) (w : World) : Calls Tryz.prog 69 #[.int .i64 x] w fun e w' => e = .returned (.bool false) ∧ w = w' := by
  go_enter Tryz.func69, Tryz.ntmps69
  go_wp2
  go_ret
  exact ⟨by simp, rfl⟩
theorem isNaNE_calls (x : Int) (w : World) : Calls Tryz.prog 70 #[.int .i64 x] w fun e w' => e = .returned (.bool false) ∧ w = w' := by
  go_enter Tryz.func70, Tryz.ntmps70
  go_wp2
  go_ret
  exact ⟨by simp, rfl⟩
theorem Compare_calls (x y : Int) (w : World) : Calls Tryz.prog 58 #[.int .i64 x, .int .i64 y] w fun e w' => e = .returned (.int .i64 (cmpI x y)) ∧ w = w' := by
  have HE := Lib.hid (show cmpI x y = if x < y then -1 else if y < x then 1 else 0 from rfl)
  go_enter Tryz.func58, Tryz.ntmps58
  go_wp2_with (go_at_call 69; refine (isNaN_calls _ _).mono ?_; rintro e w1 ⟨rfl, rfl⟩)
  all_goals go_ret
  all_goals exact ⟨by rw [HE.out]; first | (rw [if_pos (by omega)]; rfl) | (rw [if_neg (by omega), if_pos (by omega)]; rfl) | (rw [if_neg (by omega), if_neg (by omega)]; rfl), rfl⟩
theorem CompareE_calls (x y : Int) (w : World) : Calls Tryz.prog 59 #[.int .i64 x, .int .i64 y] w fun e w' => e = .returned (.int .i64 (cmpI x y)) ∧ w = w' := by
  have HE := Lib.hid (show cmpI x y = if x < y then -1 else if y < x then 1 else 0 from rfl)
  go_enter Tryz.func59, Tryz.ntmps59
  go_wp2_with (go_at_call 70; refine (isNaNE_calls _ _).mono ?_; rintro e w1 ⟨rfl, rfl⟩)
  all_goals go_ret
  all_goals exact ⟨by rw [HE.out]; first | (rw [if_pos (by omega)]; rfl) | (rw [if_neg (by omega), if_pos (by omega)]; rfl) | (rw [if_neg (by omega), if_neg (by omega)]; rfl), rfl⟩
def orI : List Int → Int
  | [] => 0
  | x :: l => if x = 0 then orI l else x
theorem orI_zero : ∀ {l : List Int} (k : Nat), (∀ j (h : j < l.length), j < k → l[j] = 0) → orI l = orI (l.drop k)
  | l, 0, _ => by rw [List.drop_zero]
  | [], k + 1, _ => by simp
  | x :: l, k + 1, h => by
    have h0 : x = 0 := h 0 (by simp) (by omega)
    show (if x = 0 then orI l else x) = _
    rw [if_pos h0, List.drop_succ_cons]
    exact orI_zero k (fun j hj hk => h (j + 1) (by simpa using hj) (by omega))
theorem Or_calls {w : World} {A : Option Addr} {n c : Nat} {l : List Int} (h : Kd.C (Kd.int .i64) w A n l) :
    Calls Tryz.prog 57 #[.slice A n c] w fun e w' => e = .returned (.int .i64 (orI l)) ∧ w = w' := by
  obtain rfl := C_len h
  have hm := C_max h
  have H := Lib.hid h
  clear h
  go_enter Tryz.func57, Tryz.ntmps57
  go_wp2
  go_loopw [8] (fun v8 wr => ∃ k : Nat, k ≤ l.length ∧ v8 = .int .i64 k ∧ w = wr ∧ Hid (∀ j (h : j < l.length), j < k → l[j] = 0)) (fun v8 wr => l.length - (intOf v8).toNat)
  case atStart => exact ⟨0, Nat.zero_le _, rfl, rfl, fun j h1 h2 => absurd h2 (Nat.not_lt_zero _)⟩
  case round =>
    obtain ⟨k, hk, rfl, rfl, hz⟩ := hrel
    by_cases hlt : k < l.length
    · obtain ⟨ad, rfl, hc⟩ := at_int H.out k hlt
      obtain ⟨x, hx⟩ : ∃ x, x = l[k] := ⟨_, rfl⟩
      rw [← hx] at hc
      have HX := Lib.hid hx
      clear hx
      by_cases h0 : x = 0
      · go_wp2
        go_roundw
        case rel =>
          refine ⟨k + 1, by omega, by go_num, by first | rfl | trivial, fun j h1 h2 => ?_⟩
          rcases Nat.lt_or_eq_of_le (Nat.le_of_lt_succ h2) with h3 | h3
          · exact hz.out j h1 h3
          · subst h3; rw [← HX.out]; exact h0
        case measure => simp [intOf]; omega
      · have HE := Lib.hid (show orI l = x by
          rw [orI_zero k hz.out, List.drop_eq_getElem_cons hlt, ← HX.out]
          show (if x = 0 then _ else x) = x
          rw [if_neg h0])
        go_wp2
        go_ret
        exact ⟨by rw [HE.out]; rfl, rfl⟩
    · have HE := Lib.hid (show orI l = 0 by rw [orI_zero k hz.out, List.drop_eq_nil_of_le (by omega)]; rfl)
      go_wp2
      go_ret
      exact ⟨by rw [HE.out]; rfl, rfl⟩
end Go.Proofs.YtbfkkepdeepdeaaGreatDoor
end
section
namespace Go.Proofs.YtbfkkepdeepdeaaGreatDoor
open Go.RowKit Go.Maps Go.Proofs.YtbfkkepdeepdeaaGreatDoorW.PrintWords Go.Proofs.YtbfkkepdeepdeaaGreatDoorW.PrintLast Go.Proofs.YtbfkkepdeepdeaaGreatDoorW.PrintMore
set_option linter.unusedVariables false
set_option linter.unusedSimpArgs false
set_option maxRecDepth 100000
attribute [local go_sem ↓] Go.wp_at_zero Go.wp_at_succ
def cmpF (a b : Ft) : Int := orI [cmpI a.file b.file, cmpI a.pos b.pos, cmpI a.code b.code]
theorem C3 {w : World} {g e : Nat} {x y z : Int} (hb : w.heap[g]? = some (.cells #[.int .i64 x, .int .i64 y, .int .i64 z] e (0, 0))) : Kd.C (Kd.int .i64) w (some ⟨g, 0, none⟩) 3 [x, y, z] :=
  C_blk (xs := [x, y, z]) hb (Reps.one (show Kd.K (Kd.int .i64) _ x [_] from rfl) (Reps.one (show Kd.K (Kd.int .i64) _ y [_] from rfl) (Reps.one (show Kd.K (Kd.int .i64) _ z [_] from rfl) (Reps.none _ _)))) (by simp)
theorem before_calls (a b : Ft) (W : World) : Calls Tryz.prog 39 #[.agg #[.int .i64 a.file, .int .i64 a.pos, .int .i64 a.code], .agg #[.int .i64 b.file, .int .i64 b.pos, .int .i64 b.code]] W fun e w' => e = .returned (.int .i64 (cmpF a b)) ∧ w' = (((W.alloc (.cells #[.int .i64 a.file, .int .i64 a.pos, .int .i64 a.code] 79)).alloc (.cells #[.int .i64 b.file, .int .i64 b.pos, .int .i64 b.code] 79)).alloc (.cells #[.int .i64 (cmpI a.file b.file), .int .i64 (cmpI a.pos b.pos), .int .i64 (cmpI a.code b.code)] 3)).drew := by
  go_enter Tryz.func39, Tryz.ntmps39
  go_wp2_with fail
  obtain ⟨w2, hw2⟩ : ∃ w2, w2 = (W.alloc (.cells #[.int .i64 a.file, .int .i64 a.pos, .int .i64 a.code] 79)).alloc (.cells #[.int .i64 b.file, .int .i64 b.pos, .int .i64 b.code] 79) := ⟨_, rfl⟩
  have hA : w2.heap[W.heap.size]? = some (.cells #[.int .i64 a.file, .int .i64 a.pos, .int .i64 a.code] 79 (0, 0)) := by rw [hw2]; exact (Below.heap_alloc _ _ _ (by simp)).trans (heap_alloc_new W _)
  have hB : w2.heap[W.heap.size + 1]? = some (.cells #[.int .i64 b.file, .int .i64 b.pos, .int .i64 b.code] 79 (0, 0)) := by
    rw [hw2]
    have := heap_alloc_new (W.alloc (.cells #[.int .i64 a.file, .int .i64 a.pos, .int .i64 a.code] 79)) (.cells #[.int .i64 b.file, .int .i64 b.pos, .int .i64 b.code] 79)
    rwa [World.size_alloc] at this
  have a0 : w2.cell? ⟨W.heap.size, 0, none⟩ = some (.int .i64 a.file) := (cell_blk hA 0).trans rfl
  have a1 : w2.cell? ⟨W.heap.size, 1, none⟩ = some (.int .i64 a.pos) := (cell_blk hA 1).trans rfl
  have a2 : w2.cell? ⟨W.heap.size, 2, none⟩ = some (.int .i64 a.code) := (cell_blk hA 2).trans rfl
  have b0 : w2.cell? ⟨W.heap.size + 1, 0, none⟩ = some (.int .i64 b.file) := (cell_blk hB 0).trans rfl
  have b1 : w2.cell? ⟨W.heap.size + 1, 1, none⟩ = some (.int .i64 b.pos) := (cell_blk hB 1).trans rfl
  have b2 : w2.cell? ⟨W.heap.size + 1, 2, none⟩ = some (.int .i64 b.code) := (cell_blk hB 2).trans rfl
  have HW := Lib.hid hw2
  rw [← hw2]
  clear hw2 hA hB
  go_region_held3 (fun w' => w'.cell? ⟨W.heap.size, 0, none⟩ = some (.int .i64 a.file) ∧ w'.cell? ⟨W.heap.size, 1, none⟩ = some (.int .i64 a.pos) ∧ w'.cell? ⟨W.heap.size, 2, none⟩ = some (.int .i64 a.code) ∧ w'.cell? ⟨W.heap.size + 1, 0, none⟩ = some (.int .i64 b.file) ∧ w'.cell? ⟨W.heap.size + 1, 1, none⟩ = some (.int .i64 b.pos) ∧ w'.cell? ⟨W.heap.size + 1, 2, none⟩ = some (.int .i64 b.code)) (go_keep)
    (first
      | (go_at_call 58; refine (Compare_calls _ _ _).mono ?_; rintro e w3 ⟨rfl, rfl⟩)
      | (go_at_call 59; refine (CompareE_calls _ _ _).mono ?_; rintro e w3 ⟨rfl, rfl⟩)
      | (go_at_call 57; refine (Or_calls (C3 (by exact heap_alloc_new _ _))).mono ?_; rintro e w3 ⟨rfl, rfl⟩))
  go_wp2
  go_ret
  exact ⟨rfl, by rw [HW.out]⟩
end Go.Proofs.YtbfkkepdeepdeaaGreatDoor
end
section
namespace Go.Proofs.YtbfkkepdeepdeaaGreatDoor
open Go.RowKit Go.Maps Go.Shelf Go.Proofs.YtbfkkepdeepdeaaGreatDoorW.PrintWords Go.Proofs.YtbfkkepdeepdeaaGreatDoorW.PrintLast Go.Proofs.YtbfkkepdeepdeaaGreatDoorW.PrintMore
set_option linter.unusedVariables false
set_option linter.unusedSimpArgs false
set_option maxRecDepth 100000
attribute [local go_sem] Oper.semAt_some
abbrev fAgg (x : Ft) : Value := .agg #[.int .i64 x.file, .int .i64 x.pos, .int .i64 x.code]
theorem Values_calls {w : World} (A : Option Addr) (n c : Nat) :
    Calls Tryz.prog 38 #[.slice A n c] w fun e w' => e = .returned (.func (.func 56) #[] #[.pointer (some ⟨w.heap.size, 0, none⟩)]) ∧ w' = w.alloc (.cells #[.slice A n c] 41) := by
  go_enter Tryz.func38, Tryz.ntmps38
  go_wp2
  go_ret
  exact ⟨rfl, rfl⟩
set_option maxHeartbeats 2000000 in
theorem fvalues_in (n : Nat) (hn : 1 ≤ n) (l bs : Nat) (A : Option Addr) (c : Nat) (fs : List Ft) (w : World) (hC : Kd.C kFt w A fs.length fs) (J Jx : List Ft → World → Prop) (W : World) (hW : Below w.heap.size w W) (hJ : AbidesFrom W.heap.size J)
    (hY : ∀ pre x W, J pre W → pre.length < fs.length → YieldAt Fence.wide (n - 1) Tryz.prog l #[fAgg x] W fun e W' =>
      (e = .returned (.bool true) ∧ J (pre ++ [x]) W' ∧ Below w.heap.size W W') ∨ (e = .returned (.bool false) ∧ Jx (pre ++ [x]) W'))
    (hs : W.cell? ⟨bs, 0, none⟩ = some (.slice A fs.length c)) (h0 : J [] W) :
    CallsIn Fence.wide n Tryz.prog 56 #[.func (.yield l) #[] #[], .pointer (some ⟨bs, 0, none⟩)] W fun e W' => (∃ v, e = .returned v) ∧
      ((∃ ys, ys = fs ∧ J ys W') ∨ (∃ pre, (∃ j, j ≤ fs.length ∧ pre = fs.take j) ∧ Jx pre W')) := by
  have hm := C_max hC
  have HC := Lib.hid hC
  have HW := Lib.hid hW
  have hJ' : ∀ pre A o, J pre A → J pre (A.alloc o) := fun pre A o h1 => hJ pre A _ none h1 (World.grownBy_alloc A o none) (fun r e => by cases e)
  have HJ := Lib.hid hJ'
  have HY := Lib.hid hY
  clear hJ hJ' hY hC hW
  refine callsIn_of_wp Tryz.func56 rfl trivial ?_ rfl
  simp only [Tryz.ntmps56, List.size_toArray, List.length_cons, List.length_nil, Nat.reduceAdd, Nat.reduceSub, Array.replicate_succ, Array.replicate_zero, List.push_toArray, List.append_toArray, List.nil_append, List.cons_append]
  gi_wp2
  gi_loopw [7] (fun i wr => ∃ j : Nat, j ≤ fs.length ∧ i = .int .i64 j ∧ J (fs.take j) wr ∧ Hid (Below w.heap.size w wr)) (fun i _ => fs.length - (intOf i).toNat)
  case atStart => exact ⟨0, Nat.zero_le _, rfl, h0, HW.out⟩
  case round =>
    obtain ⟨j, hj, rfl, hJs, hnx⟩ := hrel
    by_cases hlt : j < fs.length
    · obtain ⟨ad, rfl, hx0, hx1, hx2⟩ := at_Ft HC.out (j : Int) (by omega) (by omega)
      obtain ⟨x, hx⟩ : ∃ x, x = rd_Ft fs j := ⟨_, rfl⟩
      rw [← hx, Int.toNat_natCast] at hx0 hx1 hx2
      have HX := Lib.hid (show fs.take (j + 1) = fs.take j ++ [x] by
        rw [List.take_succ_eq_append_getElem hlt, hx]
        unfold rd_Ft
        rw [Int.toNat_natCast, List.getD_eq_getElem?_getD, List.getElem?_eq_getElem hlt]
        rfl)
      clear hx
      replace hx0 := cell_later hnx.out hx0
      replace hx1 := cell_later hnx.out hx1
      replace hx2 := cell_later hnx.out hx2
      have HJ2 := Lib.hid (HJ.out _ _ (.cells #[.int .i64 x.file, .int .i64 x.pos, .int .i64 x.code] 79) hJs)
      have HB2 := Lib.hid (hnx.out.alloc hnx.out.size (.cells #[.int .i64 x.file, .int .i64 x.pos, .int .i64 x.code] 79))
      obtain ⟨fn, tmps, assign, body, hy, hR⟩ := HY.out _ x _ HJ2.out (by rw [List.length_take]; omega)
      dsimp only [fAgg] at hy
      gi_wp2
      refine hR.mono ?_
      rintro e W3 (⟨rfl, hJ3, hk3⟩ | ⟨rfl, hJx3⟩)
      · gi_wp2
        go_roundw
        case rel => exact ⟨j + 1, by omega, by go_num, by rw [HX.out]; exact hJ3, HB2.out.trans hk3⟩
        case measure => simp [intOf]; omega
      · gi_wp2
        refine bodyPost_ret (results_none rfl _ _ _) rfl ?_
        exact ⟨⟨_, rfl⟩, .inr ⟨_, ⟨j + 1, by omega, HX.out.symm⟩, hJx3⟩⟩
    · obtain rfl : j = fs.length := by omega
      rw [List.take_length] at hJs
      gi_wp2
      go_end0
      exact ⟨⟨_, rfl⟩, .inl ⟨_, rfl, hJs⟩⟩
theorem fvalues_stops {n : Nat} (hn : 1 ≤ n) {w : World} {bs : Nat} {A : Option Addr} {c : Nat} {fs : List Ft} (hC : Kd.C kFt w A fs.length fs) (hs : w.cell? ⟨bs, 0, none⟩ = some (.slice A fs.length c)) (hlt : bs < w.heap.size) :
    SeqStopsK Fence.wide n Tryz.prog 56 #[.pointer (some ⟨bs, 0, none⟩)] (fun x : Ft => #[fAgg x]) (Below w.heap.size) (fun ys => ys = fs) (fun pre => pre <+: fs) fs.length w := fun l J Jx W hW hJ _ hY h0 => by
  refine (fvalues_in n hn l bs A c fs w hC J Jx W hW hJ hY ((hW.cell (p := ⟨bs, 0, none⟩) hlt).trans hs) h0).mono ?_
  rintro e W' ⟨he, ⟨ys, rfl, hj⟩ | ⟨pre, ⟨j, hj, rfl⟩, hx⟩⟩
  · exact ⟨he, .inl ⟨_, rfl, hj⟩⟩
  · exact ⟨he, .inr ⟨_, List.take_prefix _ _, hx⟩⟩
end Go.Proofs.YtbfkkepdeepdeaaGreatDoor
end
section
namespace Go.Proofs.YtbfkkepdeepdeaaGreatDoor
open Go.RowKit Go.Maps Go.Shelf Go.Proofs.YtbfkkepdeepdeaaGreatDoorW.PrintWords Go.Proofs.YtbfkkepdeepdeaaGreatDoorW.PrintLast Go.Proofs.YtbfkkepdeepdeaaGreatDoorW.PrintMore
set_option linter.unusedVariables false
set_option linter.unusedSimpArgs false
set_option maxRecDepth 100000
attribute [local go_sem] Oper.semAt_some
def fCells (x : Ft) : List Value := [.int .i64 x.file, .int .i64 x.pos, .int .i64 x.code]
def fRow (l : List Ft) : List Value := l.flatMap fCells
theorem fRow_snoc (l : List Ft) (x : Ft) : fRow (l ++ [x]) = fRow l ++ fCells x := by simp [fRow]
theorem info113 : (Tryz.prog.info? 79).map (fun i => (i.zero, i.size, i.bytes)) = some (some (.agg #[.int .i64 0, .int .i64 0, .int .i64 0]), 3, 24) := by kernel_rfl
set_option maxHeartbeats 2000000 in
theorem AppendSeq_calls {w : World} {bs : Nat} {A : Option Addr} {c : Nat} {fs : List Ft} (hC : Kd.C kFt w A fs.length fs) (hs : w.cell? ⟨bs, 0, none⟩ = some (.slice A fs.length c)) (hlt : bs < w.heap.size) (hsh : fs.length ≤ 1000000) :
    Calls Tryz.prog 66 #[.slice none 0 0, .func (.func 56) #[] #[.pointer (some ⟨bs, 0, none⟩)]] w fun e w' => ∃ v, e = .returned v ∧ w'.ownsRow w.heap.size 79 3 v fs.length (fRow fs) ∧ Below w.heap.size w w' := by
  obtain ⟨i0, hi, hzz⟩ := Option.map_eq_some_iff.1 info113
  simp only [Prod.mk.injEq] at hzz
  have HI := Lib.hid hi
  have HZ := Lib.hid hzz
  have HC := Lib.hid hC
  have HS := Lib.hid hs
  clear hi hzz hC hs
  refine (callsIn_wide (n := 3)).1 ?_
  refine callsIn_of_wp_marks Tryz.func66 rfl trivial ?_ rfl
  simp only [Tryz.ntmps66, List.size_toArray, List.length_cons, List.length_nil, Nat.reduceAdd, Nat.reduceSub, Array.replicate_succ, Array.replicate_zero, List.push_toArray, List.append_toArray, List.nil_append, List.cons_append]
  gi_wp2
  have bO := Boxed.new w 41 (.slice none 0 0)
  obtain ⟨W0, hW0⟩ : ∃ W0, W0 = w.alloc (.cells #[.slice none 0 0] 41) := ⟨_, rfl⟩
  have hB0 : Below w.heap.size w W0 := by rw [hW0]; exact (Below.refl _ w).alloc (Nat.le_refl _) _
  have hsz : W0.heap.size = w.heap.size + 1 := by rw [hW0]; simp
  rw [← hW0] at bO ⊢
  clear hW0
  refine wpIn_rangeFunc_ownH rfl (by omega) (gf := 56) (lb := #[.pointer (some ⟨bs, 0, none⟩)]) rfl trivial (enters_of Tryz.func56 (by kernel_rfl) rfl)
    (fvalues_stops (n := 2) (by omega) HC.out HS.out hlt) belowK_t (belowK_b (by omega)) hB0 (fun _ => rfl)
    (fun pre W => (∃ v, Boxed W w.heap.size 41 v ∧ W.ownsRow w.heap.size 79 3 v pre.length (fRow pre) ∧ True) ∧ Below w.heap.size w W)
    (fun _ _ _ => False)
    (OwnFrom.and (Own.from (holdsRow_own w.heap.size w.heap.size 41 79 3 (fun pre => pre.length) (fun pre => fRow pre) (fun _ _ => True)) _) (ownFrom_below (Nat.le_refl _) (by omega)))
    (fun _ _ _ _ _ hs _ _ => hs)
    ⟨⟨_, bO, World.ownsRow_nil _ _ _ _, trivial⟩, hB0⟩
    (fun x a' W => ∃ Bx, w.heap.size < Bx ∧ W.heap[Bx]? = some (.cells #[.int .i64 x.file, .int .i64 x.pos, .int .i64 x.code] 79 (0, 0)) ∧ a' = { tmps := #[.slice none 0 0, .func (.func 56) #[] #[.pointer (some ⟨bs, 0, none⟩)], .pointer (some ⟨w.heap.size, 0, none⟩), undef, .slice none 0 0, .pointer (some ⟨Bx, 0, none⟩), .func (.func 56) #[] #[.pointer (some ⟨bs, 0, none⟩)], fAgg x, undef, undef, undef, undef, undef], defers := [] })
    (fun x a' _ X Y row hs hg hr => by
      obtain ⟨Bx, h1, h2, h3⟩ := hs
      refine ⟨Bx, h1, (hg.block Bx (Array.getElem?_eq_some_iff.1 h2).1 (fun e => ?_)).trans h2, h3⟩
      obtain ⟨o, ho, hc⟩ := (hr Bx e.symm).2
      rw [h2] at ho
      cases ho
      cases hc)
    ?assign ?body ?done ?stop
  case assign =>
    rintro l pre x W K ⟨⟨v, hv, hr, -⟩, hB⟩ hK
    gi_wp2
    exact hK _ _ ((KeepsOthers.alloc _ _).from _) ((Below.refl _ W).alloc hB.size _) ⟨⟨v, hv.alloc _, hr.alloc _, trivial⟩, hB.alloc hB.size _⟩ ⟨W.heap.size, hv.lt, heap_alloc_new W _, rfl⟩
  case body =>
    rintro l pre x a' W hl ⟨r, hr0⟩ ⟨⟨v, hv, hr, -⟩, hB⟩ ⟨Bx, hBx, bX, rfl⟩ hlt
    have hc := hv.cell
    have hf := hv.frozen
    have x0 := (cell_blk bX 0).trans rfl
    have x1 := (cell_blk bX 1).trans rfl
    have x2 := (cell_blk bX 2).trans rfl
    have hsz1 := hB.size
    gi_wp2_with (gi_at_builtin; refine wpListIn_append_own_at _ rfl _ _ 41 rfl w.heap.size 79 i0 (.agg #[.int .i64 0, .int .i64 0, .int .i64 0]) 3 24 Tryz.underlying41 HI.out HZ.out.1 HZ.out.2.1 HZ.out.2.2 rfl (by decide) v pre.length _ rfl (hr.alloc _) ⟨W.heap.size, 0, none⟩ 1 1 (fCells x) rfl rfl (World.news_of_block (heap_alloc_new W (.cells #[.int .i64 x.file, .int .i64 x.pos, .int .i64 x.code] 79))) (fun u hu => by simp only [fCells, List.mem_cons, List.not_mem_nil, or_false] at hu; rcases hu with rfl | rfl | rfl <;> rfl) (by unfold maxLen; omega) (by omega) (by simp; omega) ?_; intro v' w1 hown' hgrow _ _; obtain ⟨g', cap', rfl⟩ := ownsRow_succ hown'; obtain ⟨hv1, hv2, hr2, hk2, hb2⟩ := hv.appended (by decide) hr hB.size (Nat.le_refl _) hown' hgrow; have hc1 := hv1.cell; have hf1 := hv1.frozen)
    refine ⟨hk2.from _, hb2, ⟨⟨_, hv2, ?_, trivial⟩, hB.trans hb2⟩⟩
    rw [fRow_snoc, List.length_append, List.length_singleton]
    exact hr2
  case done =>
    rintro D ys W hD rfl ⟨⟨v, hv, hr, -⟩, hB⟩ hK
    have hc := hv.cell
    gi_wp2
    refine ⟨by simp, .inl ⟨_, _, rfl, run_takeDeferred hK, ?_⟩⟩
    refine ⟨_, results_tmp rfl _ _ _, v, rfl, ownsRow_putObj hr _ hK rfl, ?_⟩
    exact hB.trans ⟨rfl, rfl, rfl, by simp, fun k hk => World.putObj_heap_other (by omega)⟩
  case stop =>
    rintro D c pre W hD _ h _
    exact h.elim
end Go.Proofs.YtbfkkepdeepdeaaGreatDoor
end
section
namespace Go.Proofs.YtbfkkepdeepdeaaGreatDoor
open Go.RowKit Go.Maps Go.Shelf Go.Proofs.YtbfkkepdeepdeaaGreatDoorW.PrintWords Go.Proofs.YtbfkkepdeepdeaaGreatDoorW.PrintLast Go.Proofs.YtbfkkepdeepdeaaGreatDoorW.PrintMore
set_option linter.unusedVariables false
set_option linter.unusedSimpArgs false
set_option maxRecDepth 100000
theorem Collect_calls {w : World} {bs : Nat} {A : Option Addr} {c : Nat} {fs : List Ft} (hC : Kd.C kFt w A fs.length fs) (hs : w.cell? ⟨bs, 0, none⟩ = some (.slice A fs.length c)) (hlt : bs < w.heap.size) (hsh : fs.length ≤ 1000000) :
    Calls Tryz.prog 54 #[.func (.func 56) #[] #[.pointer (some ⟨bs, 0, none⟩)]] w fun e w' => ∃ v, e = .returned v ∧ w'.ownsRow w.heap.size 79 3 v fs.length (fRow fs) ∧ Below w.heap.size w w' := by
  have HC := Lib.hid hC
  have HS := Lib.hid hs
  clear hC hs
  go_enter Tryz.func54, Tryz.ntmps54
  go_wp2_with fail
  refine (AppendSeq_calls HC.out HS.out hlt hsh).mono ?_
  rintro e w1 ⟨v, rfl, hr, hB⟩
  go_wp2
  go_ret
  exact ⟨v, rfl, hr, hB⟩
end Go.Proofs.YtbfkkepdeepdeaaGreatDoor
end
section
namespace Go.Proofs.YtbfkkepdeepdeaaGreatDoor
open Go.RowKit Go.Maps Go.Sort Go.Proofs.YtbfkkepdeepdeaaGreatDoorW.PrintWords Go.Proofs.YtbfkkepdeepdeaaGreatDoorW.PrintLast Go.Proofs.YtbfkkepdeepdeaaGreatDoorW.PrintMore
set_option linter.unusedVariables false
set_option linter.unusedSimpArgs false
def ltF (a b : Ft) : Prop := a.file < b.file ∨ (a.file = b.file ∧ (a.pos < b.pos ∨ (a.pos = b.pos ∧ a.code < b.code)))
theorem cmpF_neg (a b : Ft) : cmpF a b < 0 ↔ ltF a b := by
  unfold cmpF ltF
  simp only [orI, cmpI]
  repeat' split
  all_goals omega
def ltFB (a b : Ft) : Bool := decide (cmpF a b < 0)
theorem ltFB_iff (a b : Ft) : ltFB a b = true ↔ ltF a b := by unfold ltFB; rw [decide_eq_true_iff, cmpF_neg]
theorem ltFB_not (a b : Ft) : ltFB a b = false ↔ ¬ ltF a b := by rw [← ltFB_iff]; simp
theorem swoF : SWO ltFB where
  irrefl x := by rw [ltFB_not]; unfold ltF; omega
  trans x y z h1 h2 := by rw [ltFB_iff] at *; unfold ltF at *; omega
  ntrans x y z h1 h2 := by rw [ltFB_not] at *; unfold ltF at *; omega
theorem ltF_total {a b : Ft} (h1 : ltFB a b = false) (h2 : ltFB b a = false) : a = b := by
  rw [ltFB_not] at h1 h2
  unfold ltF at h1 h2
  cases a
  cases b
  simp only at h1 h2
  congr 1 <;> omega
end Go.Proofs.YtbfkkepdeepdeaaGreatDoor
end
section
namespace Go.Proofs.YtbfkkepdeepdeaaGreatDoor
open Go.RowKit Go.Maps Go.Sort Go.Lib Go.Proofs.YtbfkkepdeepdeaaGreatDoorW.PrintWords Go.Proofs.YtbfkkepdeepdeaaGreatDoorW.PrintLast Go.Proofs.YtbfkkepdeepdeaaGreatDoorW.PrintMore
set_option linter.unusedVariables false
set_option linter.unusedSimpArgs false
instance : Inhabited Ft := ⟨zFt⟩
instance : DecidableEq Ft := fun a b =>
  if h : a.file = b.file ∧ a.pos = b.pos ∧ a.code = b.code then .isTrue (by cases a; cases b; simp only at h; obtain ⟨h0, h1, h2⟩ := h; rw [h0, h1, h2])
  else .isFalse (fun e => h (by rw [e]; exact ⟨rfl, rfl, rfl⟩))
theorem ltF_irrefl (a : Ft) : ¬ ltF a a := by unfold ltF; omega
theorem ltF_trans {a b c : Ft} (h1 : ltF a b) (h2 : ltF b c) : ltF a c := by unfold ltF at *; omega
theorem ltF_asymm {a b : Ft} (h1 : ltF a b) : ¬ ltF b a := by unfold ltF at *; omega
theorem ltF_eq {a b : Ft} (h1 : ¬ ltF a b) (h2 : ¬ ltF b a) : a = b := ltF_total ((ltFB_not _ _).2 h1) ((ltFB_not _ _).2 h2)
def putF (f : Ft) : List Ft → List Ft
  | [] => [f]
  | x :: l => if ltFB x f then x :: putF f l else if x = f then x :: l else f :: x :: l
theorem mem_putF (f y : Ft) : ∀ l : List Ft, y ∈ putF f l ↔ y = f ∨ y ∈ l
  | [] => by simp [putF]
  | x :: l => by
    unfold putF
    split
    · rw [List.mem_cons, mem_putF f y l, List.mem_cons]
      constructor
      · rintro (h | h | h)
        · exact .inr (.inl h)
        · exact .inl h
        · exact .inr (.inr h)
      · rintro (h | h | h)
        · exact .inr (.inl h)
        · exact .inl h
        · exact .inr (.inr h)
    · split
      · rename_i h
        subst h
        constructor
        · exact .inr
        · rintro (h | h)
          · rw [h]; exact List.mem_cons_self
          · exact h
      · rw [List.mem_cons]
theorem sorted_putF (f : Ft) : ∀ l : List Ft, l.Pairwise ltF → (putF f l).Pairwise ltF
  | [], _ => by simp [putF]
  | x :: l, h => by
    have h' := List.pairwise_cons.1 h
    unfold putF
    split
    · rename_i hx
      refine List.pairwise_cons.2 ⟨fun y hy => ?_, sorted_putF f l h'.2⟩
      rcases (mem_putF f y l).1 hy with rfl | hy
      · exact (ltFB_iff _ _).1 hx
      · exact h'.1 y hy
    · rename_i hx
      split
      · exact h
      · rename_i hne
        have hf : ltF f x := by
          refine Classical.byContradiction fun hn => hne (ltF_eq (fun h1 => hx ((ltFB_iff _ _).2 h1)) hn)
        refine List.pairwise_cons.2 ⟨fun y hy => ?_, h⟩
        rcases List.mem_cons.1 hy with rfl | hy
        · exact hf
        · exact ltF_trans hf (h'.1 y hy)
def setF (l : List Ft) : List Ft := l.foldl (fun acc f => putF f acc) []
theorem setF_from (y : Ft) : ∀ (l acc : List Ft), acc.Pairwise ltF → (l.foldl (fun acc f => putF f acc) acc).Pairwise ltF ∧ (y ∈ l.foldl (fun acc f => putF f acc) acc ↔ y ∈ l ∨ y ∈ acc)
  | [], acc, h => ⟨h, by simp⟩
  | x :: l, acc, h => by
    obtain ⟨h1, h2⟩ := setF_from y l (putF x acc) (sorted_putF x acc h)
    refine ⟨h1, ?_⟩
    rw [List.foldl_cons, h2, mem_putF, List.mem_cons]
    constructor
    · rintro (h | h | h)
      · exact .inl (.inr h)
      · exact .inl (.inl h)
      · exact .inr h
    · rintro ((h | h) | h)
      · exact .inr (.inl h)
      · exact .inl h
      · exact .inr (.inr h)
theorem sorted_setF (l : List Ft) : (setF l).Pairwise ltF := (setF_from ⟨0, 0, 0⟩ l [] List.Pairwise.nil).1
theorem mem_setF (y : Ft) (l : List Ft) : y ∈ setF l ↔ y ∈ l := by
  have := (setF_from y l [] List.Pairwise.nil).2
  rw [setF, this]
  simp
theorem len_putF (f : Ft) : ∀ l : List Ft, (putF f l).length ≤ l.length + 1
  | [] => by simp [putF]
  | x :: l => by
    unfold putF
    split
    · have := len_putF f l
      simp only [List.length_cons]
      omega
    · split <;> simp
theorem len_setF_from : ∀ (l acc : List Ft), (l.foldl (fun acc f => putF f acc) acc).length ≤ l.length + acc.length
  | [], acc => by simp
  | x :: l, acc => by
    have h1 := len_setF_from l (putF x acc)
    have h2 := len_putF x acc
    simp only [List.foldl_cons, List.length_cons]
    omega
theorem len_setF (l : List Ft) : (setF l).length ≤ l.length := by
  have := len_setF_from l []
  simpa [setF] using this
theorem strict_ext : ∀ (a b : List Ft), a.Pairwise ltF → b.Pairwise ltF → (∀ y, y ∈ a ↔ y ∈ b) → a = b
  | [], b, _, _, h => by
    cases b with
    | nil => rfl
    | cons x b => exact absurd ((h x).2 List.mem_cons_self) (by simp)
  | x :: a, [], _, _, h => absurd ((h x).1 List.mem_cons_self) (by simp)
  | x :: a, z :: b, ha, hb, h => by
    have ha' := List.pairwise_cons.1 ha
    have hb' := List.pairwise_cons.1 hb
    have hxz : x = z := by
      rcases List.mem_cons.1 ((h x).1 List.mem_cons_self) with e | hx
      · exact e
      · rcases List.mem_cons.1 ((h z).2 List.mem_cons_self) with e | hz
        · exact e.symm
        · exact absurd (hb'.1 x hx) (ltF_asymm (ha'.1 z hz))
    subst hxz
    congr 1
    refine strict_ext a b ha'.2 hb'.2 fun y => ⟨fun hy => ?_, fun hy => ?_⟩
    · rcases List.mem_cons.1 ((h y).1 (List.mem_cons_of_mem _ hy)) with e | hy'
      · subst e; exact absurd (ha'.1 y hy) (ltF_irrefl y)
      · exact hy'
    · rcases List.mem_cons.1 ((h y).2 (List.mem_cons_of_mem _ hy)) with e | hy'
      · subst e; exact absurd (hb'.1 y hy) (ltF_irrefl y)
      · exact hy'
theorem compact_upto (d : Array Ft) (n : Nat) (hs : SortedIn ltFB 0 n d) : ∀ m, m ≤ n → (compactUpTo d m).Pairwise ltF ∧ ∀ y, y ∈ compactUpTo d m ↔ ∃ j, j < m ∧ d[j]! = y
  | 0, _ => ⟨by simp [compactUpTo], fun y => ⟨by simp [compactUpTo], fun ⟨j, hj, _⟩ => absurd hj (by omega)⟩⟩
  | m + 1, hm => by
    obtain ⟨h1, h2⟩ := compact_upto d n hs m (by omega)
    have hle : ∀ i j, i < j → j < n → ¬ ltF d[j]! d[i]! := fun i j hij hj => (ltFB_not _ _).1 (hs i j (Nat.zero_le _) hij hj)
    rw [compactUpTo_succ]
    by_cases hk : keeps d m = true
    · rw [if_pos hk]
      refine ⟨List.pairwise_append.2 ⟨h1, by simp, fun x hx y hy => ?_⟩, fun y => ?_⟩
      · obtain ⟨j, hj, rfl⟩ := (h2 x).1 hx
        obtain rfl := List.mem_singleton.1 hy
        refine Classical.byContradiction fun hn => ?_
        have e := ltF_eq hn (hle j m hj (by omega))
        have hk' : m = 0 ∨ d[m]! ≠ d[m - 1]! := of_decide_eq_true hk
        rcases hk' with h0 | h0
        · omega
        · rcases Nat.lt_or_ge j (m - 1) with hj1 | hj1
          · refine h0 (ltF_eq (hle (m - 1) m (by omega) (by omega)) ?_)
            rw [← e]
            exact hle j (m - 1) hj1 (by omega)
          · obtain rfl : j = m - 1 := by omega
            exact h0 e.symm
      · rw [List.mem_append, h2, List.mem_singleton]
        constructor
        · rintro (⟨j, hj, h⟩ | h)
          · exact ⟨j, by omega, h⟩
          · exact ⟨m, by omega, h.symm⟩
        · rintro ⟨j, hj, h⟩
          rcases Nat.lt_or_ge j m with hj1 | hj1
          · exact .inl ⟨j, hj1, h⟩
          · obtain rfl : j = m := by omega
            exact .inr h.symm
    · rw [if_neg hk, List.append_nil]
      refine ⟨h1, fun y => ?_⟩
      rw [h2]
      have hk' : ¬ (m = 0 ∨ d[m]! ≠ d[m - 1]!) := fun h => hk (decide_eq_true h)
      have h0 : m ≠ 0 := fun h => hk' (.inl h)
      have he : d[m]! = d[m - 1]! := Classical.byContradiction fun h => hk' (.inr h)
      constructor
      · rintro ⟨j, hj, h⟩
        exact ⟨j, by omega, h⟩
      · rintro ⟨j, hj, h⟩
        rcases Nat.lt_or_ge j m with hj1 | hj1
        · exact ⟨j, hj1, h⟩
        · obtain rfl : j = m := by omega
          exact ⟨j - 1, by omega, he.symm.trans h⟩
theorem compact_set {fs : List Ft} {d' : Array Ft} (hp : PermIn 0 fs.length fs.toArray d') (hs : SortedIn ltFB 0 fs.length d') : d'.size = fs.length ∧ compactUpTo d' d'.size = setF fs := by
  have hsz : d'.size = fs.length := by rw [hp.1]; simp
  refine ⟨hsz, ?_⟩
  rw [hsz]
  obtain ⟨h1, h2⟩ := compact_upto d' fs.length hs fs.length (Nat.le_refl _)
  refine strict_ext _ _ h1 (sorted_setF fs) fun y => ?_
  rw [h2, mem_setF]
  have hperm : d'.toList.Perm fs := by
    have := hp.2.2
    rw [show d'.extract 0 fs.length = d' by rw [← hsz]; simp, show fs.toArray.extract 0 fs.length = fs.toArray by simp] at this
    simpa using this
  rw [← hperm.mem_iff, List.mem_iff_getElem]
  constructor
  · rintro ⟨j, hj, h⟩
    exact ⟨j, by simpa [hsz] using hj, by rw [← h, getElem!_pos d' j (by omega)]; simp⟩
  · rintro ⟨j, hj, h⟩
    have hj' : j < d'.size := by simpa using hj
    exact ⟨j, by omega, by rw [getElem!_pos d' j hj', ← h]; simp⟩
end Go.Proofs.YtbfkkepdeepdeaaGreatDoor
end
section
namespace Go.Proofs.YtbfkkepdeepdeaaGreatDoor
open Go.RowKit Go.Maps Go.Shelf Go.Lib Go.Sort Go.Proofs.YtbfkkepdeepdeaaGreatDoorW.PrintWords Go.Proofs.YtbfkkepdeepdeaaGreatDoorW.PrintLast Go.Proofs.YtbfkkepdeepdeaaGreatDoorW.PrintMore
set_option linter.unusedVariables false
set_option linter.unusedSimpArgs false
set_option maxRecDepth 100000
theorem setMany_one (d : Array Ft) (k : Nat) (x : Ft) (hk : k < d.size) : setMany (flatK fCells 3 d) (k * 3) (fCells x) = flatK fCells 3 (d.setIfInBounds k x) := by
  refine ext_get! (by simp) fun t ht => ?_
  have ht' : t < d.size * 3 := by simpa using ht
  rw [get_setMany _ _ _ t (by simpa using ht'), get_flatK _ _ _ t ht', get_flatK _ _ _ t (by simpa using ht')]
  have hl : (fCells x).length = 3 := rfl
  rw [hl]
  by_cases a : t / 3 = k
  · rw [if_pos ((blk_iff 3 k t (by omega)).2 a), a, getElem!_set_same d k x hk]
    congr 1
    omega
  · rw [if_neg (fun h => a ((blk_iff 3 k t (by omega)).1 h)), getElem!_set_other d k _ x a]
theorem fHolds_set {W : World} {blk off k : Nat} {d : Array Ft} (h : HoldsK fCells 3 W blk off d) (hk : k < d.size) (x : Ft) :
    HoldsK fCells 3 (W.setCells blk (off + k * 3) (fCells x)) blk off (d.setIfInBounds k x) := by
  have := holds_setCells_c h (k * 3) (fCells x) (by rw [size_flatK]; show k * 3 + 3 ≤ _; omega)
  rw [setMany_one d k x hk] at this
  exact this
theorem f_equal (d : Nat) (w : World) (x0 y0 : Int) (x1 y1 : Int) (x2 y2 : Int) :
    (Op.equalIn (d + 2) 79 (.agg #[.int .i64 x0, .int .i64 x1, .int .i64 x2]) (.agg #[.int .i64 y0, .int .i64 y1, .int .i64 y2])).run Tryz.prog w = .ok (x0 == y0 && (x1 == y1 && (x2 == y2))) w := by
  refine eqA_of Tryz.underlying79 (by kernel_rfl) ?_
  refine eqf_cons (by rfl) (by go_simp; rfl) (by go_simp; rfl) (by go_simp) ?_
  refine eqf_cons (by rfl) (by go_simp; rfl) (by go_simp; rfl) (by go_simp) ?_
  exact eqf_last (by rfl) (by go_simp; rfl) (by go_simp; rfl) (by go_simp)
theorem f_beq (x y : Ft) : (x.file == y.file && (x.pos == y.pos && (x.code == y.code))) = decide (x = y) := by
  by_cases h : x = y
  · subst h; simp
  · rw [decide_eq_false h]
    refine Bool.eq_false_iff.2 fun h' => h ?_
    simp only [Bool.and_eq_true, beq_iff_eq] at h'
    cases x; cases y
    simp only at h'
    obtain ⟨h0, h1, h2⟩ := h'
    rw [h0, h1, h2]
theorem f_eq (x y : Ft) (w : World) : (Op.equalIn 10000 79 (fAgg x) (fAgg y)).run Tryz.prog w = .ok (decide (x = y)) w := by
  rw [← f_beq]
  exact f_equal 9998 w _ _ _ _ _ _
theorem fCell {W : World} {blk off : Nat} {d : Array Ft} (h : HoldsK fCells 3 W blk off d) {i : Nat} (hi : i < d.size) :
    W.cell? ⟨blk, off + i * 3, none⟩ = some (.int .i64 d[i]!.file) ∧ W.cell? ⟨blk, off + i * 3 + 1, none⟩ = some (.int .i64 d[i]!.pos) ∧ W.cell? ⟨blk, off + i * 3 + 2, none⟩ = some (.int .i64 d[i]!.code) :=
  ⟨(h.cell (c := 0) hi (by omega)).1, (h.cell (c := 1) hi (by omega)).1, (h.cell (c := 2) hi (by omega)).1⟩
theorem fFree {W : World} {blk off : Nat} {d : Array Ft} (h : HoldsK fCells 3 W blk off d) {i : Nat} (hi : i < d.size) :
    W.frozen? ⟨blk, off + i * 3, none⟩ = false ∧ W.frozen? ⟨blk, off + i * 3 + 1, none⟩ = false ∧ W.frozen? ⟨blk, off + i * 3 + 2, none⟩ = false :=
  ⟨(h.cell (c := 0) hi (by omega)).2, (h.cell (c := 1) hi (by omega)).2, (h.cell (c := 2) hi (by omega)).2⟩
theorem f_clear {W : World} {blk off : Nat} {d : Array Ft} (h : HoldsK fCells 3 W blk off d) {k n : Nat} (hn : 0 < n) (hk : k + n ≤ d.size) (c : Nat) (ty : TypeId) :
    (Builtin.clear_ #[41] ty #[.slice (some ⟨blk, off + k * 3, none⟩) n c]).run Tryz.prog W = .ok (.tuple #[]) (W.setCells blk (off + k * 3) (List.replicate (n * 3) (.int .i64 0))) := by
  have hzc : (Builtin.zeroCells (Value.agg #[.int .i64 0, .int .i64 0, .int .i64 0]).cells n).toList = List.replicate (n * 3) (.int .i64 0) := by
    simp [Builtin.zeroCells, Value.cells]
    apply List.ext_getElem
    · simp
    · intro i h1 h2
      simp
      have : i % 3 < 3 := Nat.mod_lt _ (by omega)
      have h3 : i % 3 = 0 ∨ i % 3 = 1 ∨ i % 3 = 2 := by omega
      rcases h3 with h3 | h3 | h3 <;> simp [h3]
  have hst := stores_of_holds Tryz.prog h (k * 3) (List.replicate (n * 3) (.int .i64 0)) (by rw [size_flatK]; simp; omega) (by intro v hv; rw [List.eq_of_mem_replicate hv]; rfl)
  have hv := Tryz.zeroValue79
  obtain ⟨m, rfl⟩ : ∃ m, n = m + 1 := ⟨n - 1, by omega⟩
  simp [Builtin.clear_, run_underlying Tryz.underlying41, hv, hzc, hst]
def RowF (W : World) (blk off : Nat) (L : List Ft) : Prop := ∀ j p, L[j]? = some p → W.cell? ⟨blk, off + j * 3, none⟩ = some (.int .i64 p.file) ∧ W.cell? ⟨blk, off + j * 3 + 1, none⟩ = some (.int .i64 p.pos) ∧ W.cell? ⟨blk, off + j * 3 + 2, none⟩ = some (.int .i64 p.code)
theorem RowF_holds {W : World} {blk off : Nat} {dk : Array Ft} (h : HoldsK fCells 3 W blk off dk) {L : List Ft} (hl : L.length ≤ dk.size) (hL : ∀ j, j < L.length → L[j]? = some dk[j]!) : RowF W blk off L := by
  intro j p hp
  have hj := (List.getElem?_eq_some_iff.1 hp).1
  have := hL j hj
  rw [hp] at this
  cases this
  exact fCell h (by omega)
theorem RowF_cut {W : World} {blk off : Nat} {dk : Array Ft} (h : HoldsK fCells 3 W blk off dk) {L : List Ft} (hl : L.length < dk.size) (hL : ∀ j, j < L.length → L[j]? = some dk[j]!) : RowF (W.setCells blk (off + L.length * 3) (List.replicate ((dk.size - L.length) * 3) (.int .i64 0))) blk off L := by
  have hS := holds_setCells_c h (L.length * 3) (List.replicate ((dk.size - L.length) * 3) (.int .i64 0)) (by rw [size_flatK]; simp; omega)
  intro j p hp
  have hj := (List.getElem?_eq_some_iff.1 hp).1
  have hp' := hL j hj
  rw [hp] at hp'
  cases hp'
  have one : ∀ c, c < 3 → (W.setCells blk (off + L.length * 3) (List.replicate ((dk.size - L.length) * 3) (.int .i64 0))).cell? ⟨blk, off + (j * 3 + c), none⟩ = some (fCells dk[j]!)[c]! := by
    intro c hc
    have h3 := (hS (j * 3 + c) (by rw [size_setMany, size_flatK]; omega)).1
    rw [get_setMany _ _ _ _ (by rw [size_flatK]; omega), if_neg (by omega), get_flatK _ _ _ _ (by omega), show (j * 3 + c) / 3 = j by omega, show (j * 3 + c) % 3 = c by omega] at h3
    exact h3
  exact ⟨one 0 (by omega), one 1 (by omega), one 2 (by omega)⟩
theorem below_setCellsF {B : Nat} {a : World} {b : Nat} (hb : B ≤ b) : ∀ (vs : List Value) (o : Nat) {w : World}, Below B a w → Below B a (w.setCells b o vs)
  | [], _, _, h => h
  | v :: r, o, _, h => below_setCellsF hb r (o + 1) (h.setCell (p := ⟨b, o, none⟩) hb v)
set_option maxHeartbeats 4000000 in
theorem Compact_calls (n0 blk off cap : Nat) (hb0 : n0 ≤ blk) (d : Array Ft) (w : World) (hH : HoldsK fCells 3 w blk off d) (hsz : d.size ≤ 1000000) (hcap : d.size ≤ cap) (hcm : cap ≤ maxLen) :
    Calls Tryz.prog 36 #[.slice (some ⟨blk, off, none⟩) d.size cap] w fun e w' => e = .returned (.slice (some ⟨blk, off, none⟩) (compactUpTo d d.size).length cap) ∧ Below n0 w w' ∧ RowF w' blk off (compactUpTo d d.size) := by
  have same : (∀ j, j < d.size → keeps d j = true) → compactUpTo d d.size = d.toList := by
    intro hall
    rw [compactUpTo_all d _ hall, range_map_get]
  have HS : Aside ((∀ j, j < d.size → keeps d j = true) → compactUpTo d d.size = d.toList) := same
  clear same
  have mixed : Tryz.prog.follows .mixedOrders = true := by kernel_rfl
  by_cases h2 : d.size < 2
  · have HH : Aside (HoldsK fCells 3 w blk off d) := hH
    clear hH
    go_enter Tryz.func36, Tryz.ntmps36
    go_wp2
    go_ret
    have e1 := HS.out (fun j hj => keeps_lt_one d j (by omega))
    refine ⟨by rw [e1]; rfl, Below.refl _ _, RowF_holds HH.out (by rw [e1]; simp) (fun j hj => ?_)⟩
    rw [e1] at hj ⊢
    have hj' : j < d.size := by simpa using hj
    rw [getElem!_pos d j hj']
    simp [hj']
  · go_enter Tryz.func36, Tryz.ntmps36
    go_wp2
    go_loopg [3] d.size (fun g s3 wr => ∃ k : Nat, 1 ≤ k ∧ k ≤ d.size ∧ d.size - k ≤ g ∧ s3 = .int .i64 k ∧ HoldsK fCells 3 wr blk off d ∧ Below n0 w wr ∧ ∀ j, j < k → keeps d j = true)
    case atStart => exact ⟨1, Nat.le_refl _, by omega, by omega, rfl, hH, Below.refl _ _, keeps_lt_one d⟩
    case round =>
      obtain ⟨k, hk1, hk, hg, rfl, hHr, hBr, hall⟩ := hrel
      clear hH
      by_cases hlt : k < d.size
      · obtain ⟨k', rfl⟩ : ∃ k', k = k' + 1 := ⟨k - 1, by omega⟩
        obtain ⟨c1, c2, c3⟩ := fCell hHr hlt
        obtain ⟨p1, p2, p3⟩ := fCell hHr (show k' < d.size by omega)
        have A : Aside (∀ j, j < k' + 1 → keeps d j = true) := hall
        have HH : Aside (HoldsK fCells 3 wr blk off d) := hHr
        have HB : Aside (Below n0 w wr) := hBr
        clear hall hHr hBr
        generalize hx : d[k' + 1]! = x at c1 c2 c3
        generalize hy : d[k']! = y at p1 p2 p3
        have B : Aside (d[k' + 1]! = x ∧ d[k']! = y) := ⟨hx, hy⟩
        clear hx hy
        have hwp : IntKind.i64.wrap (k' : Int) = (k' : Int) := by rw [IntKind.wrap_i64]; omega
        have e0 : ((k' : Int) + 1).toNat = k' + 1 := by omega
        have p0 : (0 : Int) ≤ (k' : Int) + 1 := by omega
        have hE : ∀ w, (Op.equalIn 10000 79 (.agg #[.int .i64 x.file, .int .i64 x.pos, .int .i64 x.code]) (.agg #[.int .i64 y.file, .int .i64 y.pos, .int .i64 y.code])).run Tryz.prog w = .ok (decide (x = y)) w := fun w => f_eq x y w
        by_cases hdup : x = y
        · rw [decide_eq_true hdup] at hE
          go_wp2_with fail
          go_region_o
          go_wp2
          clear c1 c2 c3 p1 p2 p3 hE
          go_loopg [3, 5] d.size (fun g s3 s5 wr => ∃ (kk k2 : Nat) (dk : Array Ft), s3 = .int .i64 kk ∧ s5 = .int .i64 k2 ∧ 1 ≤ k2 ∧ k' + 1 + k2 ≤ d.size ∧ d.size - (k' + 1 + k2) ≤ g ∧ HoldsK fCells 3 wr blk off dk ∧ Below n0 w wr ∧ CompInv d (k' + 1 + k2) kk dk)
          case atStart => exact ⟨k' + 1, 1, d, rfl, rfl, Nat.le_refl _, by omega, by omega, HH.out, HB.out.drew, CompInv.start A.out (keeps_neg (by omega) (by rw [B.out.1, show k' + 1 - 1 = k' from rfl, B.out.2, hdup]))⟩
          case round =>
            obtain ⟨kk, k2, dk, rfl, rfl, h1, hle, hg2, hHk, hBk, hI⟩ := hrel
            have hkk := hI.lt
            have hds := hI.size
            have H2 : Aside (HoldsK fCells 3 wr blk off dk) := hHk
            have B2 : Aside (Below n0 w wr) := hBk
            have I2 : Aside (CompInv d (k' + 1 + k2) kk dk) := hI
            clear hBk
            by_cases hlt2 : k' + 1 + k2 < d.size
            · obtain ⟨k2', rfl⟩ : ∃ k2', k2 = k2' + 1 := ⟨k2 - 1, by omega⟩
              obtain ⟨u1, u2, u3⟩ := fCell hHk (show k' + 1 + (k2' + 1) < dk.size by omega)
              obtain ⟨v1, v2, v3⟩ := fCell hHk (show k' + 1 + k2' < dk.size by omega)
              obtain ⟨o1, o2, o3⟩ := fCell hHk (show kk < dk.size by omega)
              obtain ⟨q1, q2, q3⟩ := fFree hHk (show kk < dk.size by omega)
              rw [hI.high (k' + 1 + (k2' + 1)) (by omega), show off + (k' + 1 + (k2' + 1)) * 3 = off + (k' + 1) * 3 + (k2' + 1) * 3 by omega] at u1 u2 u3
              rw [hI.high (k' + 1 + k2') (by omega), show off + (k' + 1 + k2') * 3 = off + (k' + 1) * 3 + k2' * 3 by omega] at v1 v2 v3
              clear hHk hI
              generalize hu : d[k' + 1 + (k2' + 1)]! = u at u1 u2 u3
              generalize hv : d[k' + 1 + k2']! = v at v1 v2 v3
              generalize dk[kk]! = old at o1 o2 o3
              have C : Aside (d[k' + 1 + (k2' + 1)]! = u ∧ d[k' + 1 + k2']! = v) := ⟨hu, hv⟩
              clear hu hv
              have hwp2 : IntKind.i64.wrap (k2' : Int) = (k2' : Int) := by rw [IntKind.wrap_i64]; omega
              have e02 : ((k2' : Int) + 1).toNat = k2' + 1 := by omega
              have p02 : (0 : Int) ≤ (k2' : Int) + 1 := by omega
              have hE2 : ∀ w, (Op.equalIn 10000 79 (.agg #[.int .i64 u.file, .int .i64 u.pos, .int .i64 u.code]) (.agg #[.int .i64 v.file, .int .i64 v.pos, .int .i64 v.code])).run Tryz.prog w = .ok (decide (u = v)) w := fun w => f_eq u v w
              by_cases huv : u = v
              · rw [decide_eq_true huv] at hE2
                go_wp2_with fail
                go_region_o
                go_wp2
                go_roundg (d.size - (k' + 1 + (k2' + 1 + 1)))
                case measure => omega
                case rel => exact ⟨kk, k2' + 1 + 1, dk, rfl, by go_num, by omega, by omega, Nat.le_refl _, H2.out, B2.out.drew, I2.out.skip (keeps_neg (by omega) (by rw [C.out.1, show k' + 1 + (k2' + 1) - 1 = k' + 1 + k2' by omega, C.out.2, huv]))⟩
              · rw [decide_eq_false huv] at hE2
                go_wp2_with fail
                go_region_o
                go_wp2
                go_roundg (d.size - (k' + 1 + (k2' + 1 + 1)))
                case measure => omega
                case rel =>
                  refine ⟨kk + 1, k2' + 1 + 1, dk.setIfInBounds kk u, by go_num, by go_num, by omega, by omega, Nat.le_refl _, fHolds_set H2.out (by omega) u, (below_setCellsF hb0 (fCells u) (off + kk * 3) B2.out).drew, ?_⟩
                  have := I2.out.keep hlt2 (keeps_pos (by rw [C.out.1, show k' + 1 + (k2' + 1) - 1 = k' + 1 + k2' by omega, C.out.2]; exact huv))
                  rwa [C.out.1] at this
            · have hend : k' + 1 + k2 = d.size := by omega
              have hcl : ∀ ty, (Builtin.clear_ #[41] ty #[.slice (some ⟨blk, off + kk * 3, none⟩) (d.size - kk) (cap - kk)]).run Tryz.prog wr = .ok (.tuple #[]) (wr.setCells blk (off + kk * 3) (List.replicate ((d.size - kk) * 3) (.int .i64 0))) :=
                fun ty => f_clear hHk (by omega) (by omega) _ ty
              clear hHk hI
              go_wp2
              go_ret
              have hI := I2.out
              rw [hend] at hI
              have hlen := hI.len
              refine ⟨by rw [hlen]; rfl, below_setCellsF hb0 _ _ B2.out, ?_⟩
              have := RowF_cut H2.out (L := compactUpTo d d.size) (by omega) (fun j hj => hI.low j (by omega))
              rw [hlen, hI.size] at this
              exact this
        · rw [decide_eq_false hdup] at hE
          go_wp2_with fail
          go_region_o
          go_wp2
          go_roundg (d.size - (k' + 1 + 1))
          case measure => omega
          case rel =>
            refine ⟨k' + 1 + 1, by omega, by omega, Nat.le_refl _, by go_num, HH.out, HB.out.drew, fun j hj => ?_⟩
            by_cases e : j = k' + 1
            · subst e
              exact keeps_pos (by rw [B.out.1, show k' + 1 - 1 = k' from rfl, B.out.2]; exact hdup)
            · exact A.out j (by omega)
      · have : k = d.size := by omega
        subst this
        have HH : Aside (HoldsK fCells 3 wr blk off d) := hHr
        have HB : Aside (Below n0 w wr) := hBr
        have e1 := HS.out hall
        have E1 : Aside (compactUpTo d d.size = d.toList) := e1
        clear hHr hBr hall e1
        go_wp2
        go_ret
        refine ⟨by rw [E1.out]; rfl, HB.out, RowF_holds HH.out (by rw [E1.out]; simp) (fun j hj => ?_)⟩
        rw [E1.out] at hj ⊢
        have hj' : j < d.size := by simpa using hj
        rw [getElem!_pos d j hj']
        simp [hj']
end Go.Proofs.YtbfkkepdeepdeaaGreatDoor
end
section
namespace Go.Proofs.YtbfkkepdeepdeaaGreatDoor
open Go.RowKit Go.Maps Go.Shelf Go.Lib Go.Sort Go.Proofs.YtbfkkepdeepdeaaGreatDoorW.PrintWords Go.Proofs.YtbfkkepdeepdeaaGreatDoorW.PrintLast Go.Proofs.YtbfkkepdeepdeaaGreatDoorW.PrintMore
set_option linter.unusedVariables false
set_option linter.unusedSimpArgs false
set_option maxRecDepth 100000
theorem fCells_len (x : Ft) : (fCells x).length = 3 := rfl
theorem fCells_one (x : Ft) : ∀ v ∈ fCells x, v.oneCell' = true := by intro v hv; simp [fCells] at hv; rcases hv with rfl | rfl | rfl <;> rfl
theorem cmpLaysF (blk off size : Nat) (w : World) : CmpLays Tryz.prog 39 #[] fCells 3 cmpF blk off size w :=
  fun m os dk _ x y => by
    refine (before_calls x y _).mono ?_
    rintro e w' ⟨rfl, rfl⟩
    exact ⟨rfl, 1, _, by rw [alloc_eq_grow, alloc_eq_grow, alloc_eq_grow, grow_grow, grow_grow]; rfl⟩
theorem SortFunc_calls (blk off cap : Nat) (d : Array Ft) (w : World) (hH : HoldsK fCells 3 w blk off d) (hblk : blk < w.heap.size) (hsz : d.size < 4611686018427387904) :
    Calls Tryz.prog 55 #[.slice (some ⟨blk, off, none⟩) d.size cap, .func (.func 39) #[] #[]] w fun e w' => e = .returned (.tuple #[]) ∧ ∃ d' n os, PermIn 0 d.size d d' ∧ SortedIn ltFB 0 d.size d' ∧ w' = sortWorldK fCells 3 w blk off n d' os := by
  have eg : ∀ args w, (callFunc 39 args).run Tryz.prog w = .ok (.enter 39 args) w := enters_of Tryz.func39 (by kernel_rfl) rfl
  exact AnyQ.slices_SortFunc layF 3 Tryz.isAgg79 Tryz.sizeOf79 fCells fCells_len fCells_one cmpF swoF 39 #[] blk off cap d w eg (cmpLaysF blk off d.size w) hH hblk hsz
theorem SortFunc_none (p : Option Addr) (cap : Nat) (fv : Value) (w : World) :
    Calls Tryz.prog 55 #[.slice p 0 cap, fv] w fun e w' => e = .returned (.tuple #[]) ∧ w' = w :=
  AnyF.slices_SortFunc_none layF p cap fv w
theorem fRow_get : ∀ (fs : List Ft) (t : Nat), t < fs.length * 3 → (fRow fs)[t]? = some ((fCells (fs.toArray[t / 3]!))[t % 3]!)
  | [], t, h => by simp at h
  | x :: l, t, h => by
    rw [show fRow (x :: l) = fCells x ++ fRow l by simp [fRow]]
    by_cases ht : t < 3
    · rw [List.getElem?_append_left (by exact ht), show t / 3 = 0 by omega, show t % 3 = t by omega]
      have h3 : t = 0 ∨ t = 1 ∨ t = 2 := by omega
      rcases h3 with rfl | rfl | rfl <;> rfl
    · rw [List.getElem?_append_right (by show 3 ≤ t; omega), show (fCells x).length = 3 from rfl]
      have hl : t - 3 < l.length * 3 := by simp at h; omega
      rw [fRow_get l (t - 3) hl, show t / 3 = (t - 3) / 3 + 1 by omega, show (t - 3) % 3 = t % 3 by omega]
      congr 3
      simp
theorem holds_own {w : World} {g e : Nat} {cur : Array Value} {fs : List Ft} (hb : w.heap[g]? = some (.cells cur e (0, 0))) (hr : cur.toList.take (fs.length * 3) = fRow fs) : HoldsK fCells 3 w g 0 fs.toArray := by
  intro j hj
  have hj' : j < fs.length * 3 := by simpa using hj
  rw [Nat.zero_add]
  refine ⟨?_, frozen_blk hb j⟩
  rw [cell_blk hb j, get_flatK _ _ _ j (by simpa using hj'), ← Array.getElem?_toList]
  have h1 := fRow_get fs j hj'
  rw [← hr, List.getElem?_take_of_lt hj'] at h1
  exact h1
theorem below_sortF {B : Nat} {w0 w : World} {g n : Nat} {d : Array Ft} {os : Array Obj} (h : Below B w0 w) (hg : B ≤ g) (hB : B ≤ w.heap.size) : Below B w0 (sortWorldK fCells 3 w g 0 n d os) := by
  have h1 : Below B w0 (putRowK fCells 3 (Sort.ahead w n) g 0 d) :=
    ⟨h.os, h.tape, h.output, by simpa [putRowK, putRow, mapBlock, Sort.ahead] using h.size, fun k hk => by
      rw [← h.block k hk]
      simp [putRowK, putRow, mapBlock, Sort.ahead, Array.getElem?_modify, show g ≠ k by omega]⟩
  have hs : (putRowK fCells 3 (Sort.ahead w n) g 0 d).heap.size = w.heap.size := by simp [putRowK, putRow, mapBlock, Sort.ahead]
  exact h1.trans ⟨rfl, rfl, rfl, by unfold sortWorldK; simp, fun k hk => by unfold sortWorldK; exact heap_grow_old _ os (by omega)⟩
theorem C_RowF {w : World} {g : Nat} {L : List Ft} (h : RowF w g 0 L) (hm : L.length ≤ 9223372036854775807) : Kd.C kFt w (some ⟨g, 0, none⟩) L.length L := by
  refine ⟨rfl, hm, fun _ => ⟨_, rfl, fun j p hj => ⟨_, rfl, kFt_mk w p, fun i u hu => ?_⟩⟩⟩
  obtain ⟨h0, h1, h2⟩ := h j p hj
  have hi : i < 3 := (List.getElem?_eq_some_iff.1 hu).1
  have ha : (⟨g, 0, none⟩ : Addr).add (j * 3 + i) = ⟨g, j * 3 + i, none⟩ := by
    unfold Addr.add
    split
    · next e0 => rw [e0]
    · simp
  have hA : (⟨g, 0, none⟩ : Addr).add (j * kFt.sz + i) = ⟨g, j * 3 + i, none⟩ := ha
  rw [hA]
  have hi' : i = 0 ∨ i = 1 ∨ i = 2 := by omega
  rw [Nat.zero_add] at h0 h1 h2
  rcases hi' with rfl | rfl | rfl
  · cases hu; exact h0
  · cases hu; exact h1
  · cases hu; exact h2
theorem SortedFunc_calls {w : World} {bs : Nat} {A : Option Addr} {c : Nat} {fs : List Ft} (hC : Kd.C kFt w A fs.length fs) (hs : w.cell? ⟨bs, 0, none⟩ = some (.slice A fs.length c)) (hlt : bs < w.heap.size) (hsh : fs.length ≤ 1000000) :
    Calls Tryz.prog 37 #[.func (.func 56) #[] #[.pointer (some ⟨bs, 0, none⟩)], .func (.func 39) #[] #[]] w fun e w' => ∃ v, e = .returned v ∧ Below w.heap.size w w' ∧
      ((fs = [] ∧ ∃ p cap, v = .slice p 0 cap) ∨ (∃ g cap d', v = .slice (some ⟨g, 0, none⟩) fs.length cap ∧ w.heap.size ≤ g ∧ fs.length ≤ cap ∧ cap ≤ maxLen ∧ HoldsK fCells 3 w' g 0 d' ∧ PermIn 0 fs.length fs.toArray d' ∧ SortedIn ltFB 0 fs.length d')) := by
  have HC := Lib.hid hC
  have HS := Lib.hid hs
  clear hC hs
  go_enter Tryz.func37, Tryz.ntmps37
  go_wp2_with fail
  refine (Collect_calls HC.out HS.out hlt hsh).mono ?_
  rintro e w1 ⟨v, rfl, ⟨hl, hr⟩, hB⟩
  have HB := Lib.hid hB
  have hsz := hB.size
  clear hB
  rcases hr with ⟨rfl, h0⟩ | ⟨g, cap, cur, rfl, hg, hb, hn, hcm, hcs, ht⟩
  · go_wp2_with fail
    refine (SortFunc_none _ _ _ _).mono ?_
    rintro e w2 ⟨rfl, rfl⟩
    go_wp2
    go_ret
    exact ⟨_, rfl, HB.out, .inl ⟨List.length_eq_zero_iff.1 h0, _, _, rfl⟩⟩
  · have hblk : g < w1.heap.size := (Array.getElem?_eq_some_iff.1 hb).1
    have HH := Lib.hid (holds_own hb ht)
    have hS := SortFunc_calls g 0 cap fs.toArray w1 (holds_own hb ht) hblk (by simp; omega)
    rw [List.size_toArray] at hS
    have HSc := Lib.hid hS
    clear hS hb ht
    go_wp2_with fail
    refine HSc.out.mono ?_
    rintro e w2 ⟨rfl, d', n, os, hp, hso, rfl⟩
    have hd : d'.size = fs.toArray.size := hp.1
    have HK := Lib.hid (holdsK_sortWorldK_c fCells 3 w1 g 0 fs.toArray d' n os HH.out hblk hd)
    have HB2 := Lib.hid (below_sortF (n := n) (d := d') (os := os) HB.out hg hsz)
    have HP := Lib.hid hp
    have HSo := Lib.hid hso
    clear hp hso
    generalize sortWorldK fCells 3 w1 g 0 n d' os = w2 at HK HB2 ⊢
    go_wp2
    go_ret
    exact ⟨_, rfl, HB2.out, .inr ⟨g, cap, d', rfl, hg, hn, hcm, HK.out, HP.out, HSo.out⟩⟩
theorem Compact_none (p : Option Addr) (cap : Nat) (w : World) :
    Calls Tryz.prog 36 #[.slice p 0 cap] w fun e w' => e = .returned (.slice p 0 cap) ∧ w' = w := by
  go_enter Tryz.func36, Tryz.ntmps36
  go_wp2
  go_ret
  exact ⟨rfl, rfl⟩
theorem Sorted_calls {w : World} {A : Option Addr} {c : Nat} {fs : List Ft} (hC : Kd.C kFt w A fs.length fs) (hsh : fs.length ≤ 1000000) :
    Calls Tryz.prog 27 #[.slice A fs.length c] w fun e w' => ∃ A' c', e = .returned (.slice A' (setF fs).length c') ∧ Kd.C kFt w' A' (setF fs).length (setF fs) ∧ Below w.heap.size w w' := by
  have HC := Lib.hid hC
  clear hC
  go_enter Tryz.func27, Tryz.ntmps27
  go_wp2_with fail
  refine (Values_calls _ _ _).mono ?_
  rintro e w1 ⟨rfl, hw1⟩
  have hB1 : Below w.heap.size w w1 := by rw [hw1]; exact (Below.refl _ w).alloc (Nat.le_refl _) _
  have hcl : w1.cell? ⟨w.heap.size, 0, none⟩ = some (.slice A fs.length c) := by rw [hw1]; exact (cell_blk (heap_alloc_new w _) 0).trans rfl
  have hlt : w.heap.size < w1.heap.size := by rw [hw1]; simp
  have hC1 : Kd.C kFt w1 A fs.length fs := Kd.C_below HC.out hB1
  have HS := Lib.hid (SortedFunc_calls hC1 hcl hlt hsh)
  have HB1 := Lib.hid hB1
  clear hw1 hB1 hcl hC1
  go_wp2_with fail
  refine HS.out.mono ?_
  rintro e w2 ⟨v, rfl, hB2, hv⟩
  have HB2 := Lib.hid (HB1.out.trans (hB2.mono (Nat.le_of_lt hlt)))
  clear hB2
  rcases hv with ⟨rfl, p, cap, rfl⟩ | ⟨g, cap, d', rfl, hg, hn, hcm, hH, hp, hso⟩
  · go_wp2_with fail
    refine (Compact_none _ _ _).mono ?_
    rintro e w3 ⟨rfl, rfl⟩
    go_wp2
    go_ret
    exact ⟨p, cap, rfl, ⟨rfl, by simp [setF], fun h => absurd h (by simp [setF])⟩, HB2.out⟩
  · obtain ⟨hd, hset⟩ := compact_set hp hso
    have hCo := Compact_calls w.heap.size g 0 cap (by omega) d' w2 hH (by omega) (by omega) hcm
    rw [hset, hd] at hCo
    have HCo := Lib.hid hCo
    clear hH hp hso hCo hset
    go_wp2_with fail
    refine HCo.out.mono ?_
    rintro e w3 ⟨rfl, hB3, hR⟩
    have hlen : (setF fs).length ≤ 9223372036854775807 := by have := len_setF fs; omega
    have HF := Lib.hid (C_RowF hR hlen)
    have HB3 := Lib.hid (HB2.out.trans hB3)
    clear hR hB3
    go_wp2
    go_ret
    exact ⟨_, _, rfl, HF.out, HB3.out⟩
end Go.Proofs.YtbfkkepdeepdeaaGreatDoor
end
section
namespace Go.Proofs.YtbfkkepdeepdeaaGreatDoor
open Go.RowKit Go.Maps Go.Shelf Go.Proofs.YtbfkkepdeepdeaaGreatDoorW.PrintWords Go.Proofs.YtbfkkepdeepdeaaGreatDoorW.PrintLast Go.Proofs.YtbfkkepdeepdeaaGreatDoorW.PrintMore
set_option linter.unusedVariables false
set_option linter.unusedSimpArgs false
set_option maxRecDepth 100000
attribute [local go_sem] Oper.semAt_some
theorem mem_rd {xs : List En} {i : Int} (h0 : 0 ≤ i) (h1 : i < xs.length) : rd_En xs i ∈ xs := by
  unfold rd_En
  rw [List.getD_eq_getElem?_getD, List.getElem?_eq_getElem (by omega)]
  exact List.getElem_mem _
structure AE where
  j : Int
  x : En
  A6 : Option Addr
  c6 : Nat
  A7 : Option Addr
  c7 : Nat
  A10 : Option Addr
  c10 : Nat
  hs : x.cls.name.text.size ≤ maxLen ∧ x.cls.super.text.size ≤ maxLen
def AE.key (a : AE) : Int × En := (a.j, a.x)
abbrev encA (a : AE) : Array Value := #[.int .i64 a.j, .agg (eCells a.x a.A6 a.c6 a.A7 a.c7 a.A10 a.c10)]
def sees (xs : List En) (j : Nat) : List (Int × En) := (List.range j).map (fun (i : Nat) => ((i : Int), rd_En xs (i : Int)))
theorem sees_succ (xs : List En) (j : Nat) : sees xs (j + 1) = sees xs j ++ [((j : Int), rd_En xs (j : Int))] := by
  unfold sees; rw [List.range_succ, List.map_append]; rfl
theorem sees_len (xs : List En) (j : Nat) : (sees xs j).length = j := by simp [sees]
structure KpA (n₀ b : Nat) (A B : World) : Prop where
  bel : Below n₀ A B
  box : B.heap[b]? = A.heap[b]?
theorem KpA.refl (n₀ b : Nat) (A : World) : KpA n₀ b A A := ⟨Below.refl _ _, rfl⟩
theorem KpA.trans {n₀ b : Nat} {A B C : World} (h : KpA n₀ b A B) (k : KpA n₀ b B C) : KpA n₀ b A C := ⟨h.bel.trans k.bel, k.box.trans h.box⟩
theorem All_tbl_calls {w : World} (p : Option Addr) :
    Calls Tryz.prog 10 #[.pointer p] w fun e w' => e = .returned (.func (.func 30) #[] #[.pointer (some ⟨w.heap.size, 0, none⟩)]) ∧ w' = w.alloc (.cells #[.pointer p] 25) := by
  go_enter Tryz.func10, Tryz.ntmps10
  go_wp2
  go_ret
  exact ⟨rfl, rfl⟩
set_option maxHeartbeats 2000000 in
theorem all_in (n : Nat) (hn : 1 ≤ n) (l bt n₀ tb : Nat) (xs : List En) (m : Int) (J Jx : List AE → World → Prop) (W : World) (hJ : AbidesFrom W.heap.size J)
    (hY : ∀ pre x W, J pre W → pre.length < xs.length → YieldAt Fence.wide (n - 1) Tryz.prog l (encA x) W fun e W' =>
      (e = .returned (.bool true) ∧ J (pre ++ [x]) W' ∧ KpA n₀ bt W W') ∨ (e = .returned (.bool false) ∧ Jx (pre ++ [x]) W'))
    (ht : Boxed W bt 25 (.pointer (some ⟨tb, 0, none⟩))) (T : ∀ W', Below n₀ W W' → Tab W' tb xs m) (h0 : J [] W) :
    CallsIn Fence.wide n Tryz.prog 30 #[.func (.yield l) #[] #[], .pointer (some ⟨bt, 0, none⟩)] W fun e W' => (∃ v, e = .returned v) ∧
      ((∃ ys, ys.map AE.key = sees xs xs.length ∧ J ys W') ∨ (∃ pre, (∃ j, j ≤ xs.length ∧ pre.map AE.key = sees xs j) ∧ Jx pre W')) := by
  have HT := Lib.hid T
  have HS := (T W (Below.refl _ _)).short
  have hct := ht.cell
  have HBT := Lib.hid ht
  clear T ht
  have HY := Lib.hid hY
  clear hY
  refine callsIn_of_wp Tryz.func30 rfl trivial ?_ rfl
  simp only [Tryz.ntmps30, List.size_toArray, List.length_cons, List.length_nil, Nat.reduceAdd, Nat.reduceSub, Array.replicate_succ, Array.replicate_zero, List.push_toArray, List.append_toArray, List.nil_append, List.cons_append]
  gi_wp2_with (refine ⟨trivial, ?_⟩; gi_at_call 28; refine (callsIn_wide.2 (Len_calls (HT.out W (Below.refl _ _)))).mono ?_; rintro e w1 ⟨rfl, rfl⟩)
  clear hct
  gi_loopw [6] (fun i wr => ∃ j : Nat, j ≤ xs.length ∧ i = .int .i64 j ∧ (∃ ys, Hid (ys.map AE.key = sees xs j) ∧ J ys wr) ∧ Hid (KpA n₀ bt W wr)) (fun i _ => xs.length - (intOf i).toNat)
  case atStart => exact ⟨0, Nat.zero_le _, rfl, ⟨[], rfl, h0⟩, KpA.refl _ _ _⟩
  case round =>
    obtain ⟨j, hj, rfl, ⟨ys, hys, hJs⟩, hnx⟩ := hrel
    by_cases hlt : j < xs.length
    · have hct := (show Boxed wr bt 25 (.pointer (some ⟨tb, 0, none⟩)) from hnx.out.box.trans HBT.out).cell
      have T1 := HT.out _ hnx.out.bel
      have HM := Lib.hid (T1.names _ (mem_rd (xs := xs) (i := (j : Int)) (by omega) (by omega)))
      obtain ⟨⟨A, c, mb, N, D, g0, -, -, g3, -, -⟩, -⟩ := T1
      obtain ⟨ad, A6, c6, A7, c7, A10, c10, rfl, hx0, hx1, hx2, hx3, hx4, hx5, hx6, hx7, hx8, hx9, hx10, l6, g6, l7, g7, l10, g10⟩ := at_En g3 (j : Int) (by omega) (by omega)
      clear l6 g6 l7 g7 l10 g10 g3
      have hlen : ys.length = j := by have := congrArg List.length hys.out; rw [sees_len] at this; simpa using this
      obtain ⟨x, hx⟩ : ∃ x, x = rd_En xs (j : Int) := ⟨_, rfl⟩
      rw [← hx] at hx0 hx1 hx2 hx3 hx4 hx5 hx6 hx7 hx8 hx9 hx10 HM
      rw [Int.toNat_natCast] at hx0 hx1 hx2 hx3 hx4 hx5 hx6 hx7 hx8 hx9 hx10
      obtain ⟨a, ha⟩ : ∃ a : AE, a = ⟨(j : Int), x, A6, c6, A7, c7, A10, c10, HM.out⟩ := ⟨_, rfl⟩
      have HU := Lib.hid (show (ys ++ [a]).map AE.key = sees xs (j + 1) by rw [sees_succ, ← hys.out, ← hx]; subst ha; simp [AE.key, List.map_append])
      have hY1 := HY.out ys a wr hJs (by omega)
      subst ha
      obtain ⟨fn, tmps, assign, body, hy, hR⟩ := hY1
      dsimp only [encA, eCells] at hy
      clear hx
      gi_wp2
      refine hR.mono ?_
      rintro e W3 (⟨rfl, hJ3, hk3⟩ | ⟨rfl, hJx3⟩)
      · gi_wp2
        go_roundw
        case rel => exact ⟨j + 1, by omega, by go_num, ⟨_, HU.out, hJ3⟩, hnx.out.trans hk3⟩
        case measure => simp [intOf]; omega
      · gi_wp2
        refine bodyPost_ret (results_none rfl _ _ _) rfl ?_
        exact ⟨⟨_, rfl⟩, .inr ⟨_, ⟨j + 1, by omega, HU.out⟩, hJx3⟩⟩
    · obtain rfl : j = xs.length := by omega
      gi_wp2
      go_end0
      exact ⟨⟨_, rfl⟩, .inl ⟨_, hys.out, hJs⟩⟩
theorem all_stops {n : Nat} (hn : 1 ≤ n) {w : World} {n₀ tb bt : Nat} {xs : List En} {m : Int} (hn0 : n₀ ≤ w.heap.size) (T : ∀ W', Below n₀ w W' → Tab W' tb xs m) (ht : Boxed w bt 25 (.pointer (some ⟨tb, 0, none⟩))) :
    SeqStopsK Fence.wide n Tryz.prog 30 #[.pointer (some ⟨bt, 0, none⟩)] encA (KpA n₀ bt) (fun ys => ys.map AE.key = sees xs xs.length) (fun pre => ∃ j, j ≤ xs.length ∧ pre.map AE.key = sees xs j) xs.length w := fun l J Jx W hW hJ _ hY h0 => by
  refine (all_in n hn l bt n₀ tb xs m J Jx W hJ hY ((hW.block bt ht.lt).trans ht) (fun W' h' => T W' ((hW.mono hn0).trans h')) h0).mono ?_
  rintro e W' ⟨he, ⟨ys, hys, hj⟩ | ⟨pre, hp, hx⟩⟩
  · exact ⟨he, .inl ⟨_, hys, hj⟩⟩
  · exact ⟨he, .inr ⟨_, hp, hx⟩⟩
end Go.Proofs.YtbfkkepdeepdeaaGreatDoor
end
section
namespace Go.Proofs.YtbfkkepdeepdeaaGreatDoor
open Go.RowKit Go.Maps Go.Shelf Go.Proofs.YtbfkkepdeepdeaaGreatDoorW.PrintWords Go.Proofs.YtbfkkepdeepdeaaGreatDoorW.PrintLast Go.Proofs.YtbfkkepdeepdeaaGreatDoorW.PrintMore
set_option linter.unusedVariables false
set_option linter.unusedSimpArgs false
set_option maxRecDepth 100000
attribute [local go_sem] Oper.semAt_some
attribute [local go_sem ↓] Go.wp_at_zero Go.wp_at_succ
def sameF (la lb : List Ft) : Bool := decide (la = lb)
theorem at_F {w : World} {A : Option Addr} {n : Nat} {xs : List Ft} (h : Kd.C kFt w A n xs) (k : Nat) (hk : k < xs.length) : ∃ ad, A = some ad ∧ w.cell? (ad.add (k * 3)) = some (.int .i64 xs[k].file) ∧ w.cell? ⟨(ad.add (k * 3)).block, (ad.add (k * 3)).off + 1, none⟩ = some (.int .i64 xs[k].pos) ∧ w.cell? ⟨(ad.add (k * 3)).block, (ad.add (k * 3)).off + 2, none⟩ = some (.int .i64 xs[k].code) := by
  obtain rfl := C_len h
  have := at_Ft h (k : Int) (by omega) (by omega)
  rw [Int.toNat_natCast, show rd_Ft xs (k : Int) = xs[k] by unfold rd_Ft; rw [Int.toNat_natCast, List.getD_eq_getElem?_getD, List.getElem?_eq_getElem hk]; rfl] at this
  exact this
theorem SameF_calls {w : World} {A B : Option Addr} {n p c d : Nat} {la lb : List Ft} (ha : Kd.C kFt w A n la) (hb : Kd.C kFt w B p lb) :
    Calls Tryz.prog 19 #[.slice A n c, .slice B p d] w fun e w' => e = .returned (.bool (sameF la lb)) ∧ Below w.heap.size w w' := by
  obtain rfl := C_len ha
  obtain rfl := C_len hb
  have hma := C_max ha
  have hmb := C_max hb
  have HA := Lib.hid ha
  have HB := Lib.hid hb
  clear ha hb
  by_cases hl : la.length = lb.length
  · rw [← hl]
    have HL := Lib.hid hl
    clear hl
    go_enter Tryz.func19, Tryz.ntmps19
    go_wp2
    go_loopw [13] (fun v13 wr => ∃ k : Nat, k ≤ la.length ∧ v13 = .int .i64 k ∧ Below w.heap.size w wr ∧ Hid (la.take k = lb.take k)) (fun v13 wr => la.length - (intOf v13).toNat)
    case atStart => exact ⟨0, Nat.zero_le _, rfl, Below.refl _ _, rfl⟩
    case round =>
      obtain ⟨k, hk, rfl, hBr, hall⟩ := hrel
      by_cases hlt : k < la.length
      · have hlt2 : k < lb.length := by rw [← HL.out]; exact hlt
        obtain ⟨ad, rfl, hc0, hc1, hc2⟩ := at_F HA.out k hlt
        obtain ⟨bd, rfl, hd0, hd1, hd2⟩ := at_F HB.out k hlt2
        replace hc0 := cell_later hBr hc0
        replace hc1 := cell_later hBr hc1
        replace hc2 := cell_later hBr hc2
        replace hd0 := cell_later hBr hd0
        replace hd1 := cell_later hBr hd1
        replace hd2 := cell_later hBr hd2
        obtain ⟨x, hx⟩ : ∃ x, x = la[k] := ⟨_, rfl⟩
        obtain ⟨y, hy⟩ : ∃ y, y = lb[k] := ⟨_, rfl⟩
        rw [← hx] at hc0 hc1 hc2
        rw [← hy] at hd0 hd1 hd2
        have HX := Lib.hid hx
        have HY := Lib.hid hy
        have HBr := Lib.hid hBr
        clear hx hy hBr
        have hE : ∀ w, (Op.equalIn 10000 79 (.agg #[.int .i64 x.file, .int .i64 x.pos, .int .i64 x.code]) (.agg #[.int .i64 y.file, .int .i64 y.pos, .int .i64 y.code])).run Tryz.prog w = .ok (decide (x = y)) w := fun w => f_eq x y w
        by_cases he : x = y
        · rw [decide_eq_true he] at hE
          have HN := Lib.hid (show la.take (k + 1) = lb.take (k + 1) by rw [List.take_succ_eq_append_getElem hlt, List.take_succ_eq_append_getElem hlt2, hall.out, ← HX.out, ← HY.out, he])
          go_wp2_with fail
          go_quiet (fail)
          go_wp2
          go_roundw
          case rel => exact ⟨k + 1, by omega, by go_num, pw_below_drewN HBr.out _, HN.out⟩
          case measure => simp [intOf]; omega
        · rw [decide_eq_false he] at hE
          have HE := Lib.hid (show sameF la lb = false by
            unfold sameF
            refine decide_eq_false fun e => he ?_
            rw [HX.out, HY.out]
            subst e
            rfl)
          go_wp2_with fail
          go_quiet (fail)
          go_wp2
          go_ret
          exact ⟨by rw [HE.out]; rfl, pw_below_drewN HBr.out _⟩
      · have HE := Lib.hid (show sameF la lb = true by
          have h1 := hall.out
          rw [List.take_of_length_le (by omega), List.take_of_length_le (by rw [← HL.out]; omega)] at h1
          exact decide_eq_true h1)
        go_wp2
        go_ret
        exact ⟨by rw [HE.out]; rfl, hBr⟩
  · have HE := Lib.hid (show sameF la lb = false from decide_eq_false fun e => hl (by rw [e]))
    go_enter Tryz.func19, Tryz.ntmps19
    go_wp2
    go_ret
    exact ⟨by rw [HE.out]; rfl, Below.refl _ _⟩
end Go.Proofs.YtbfkkepdeepdeaaGreatDoor
end
section
namespace Go.Proofs.YtbfkkepdeepdeaaGreatDoor
set_option linter.unusedVariables false
section
variable {n : Nat} {P : Program} {md : Region.Mode} {ops : Array Oper} {Q : Exit → Act → World → Prop}
def noDefer (l : List Oper) : Bool := l.all fun o => match o.op with | .defer _ => false | _ => true
theorem noDefer_spec {l : List Oper} (h : noDefer l = true) (i : Nat) (o : Oper) (ho : l.toArray[i]? = some o) (c : _) : o.op ≠ .defer c := fun e => by
  have hm : o ∈ l := List.mem_of_getElem? (by simpa using ho)
  have := List.all_eq_true.1 h o hm
  rw [e] at this
  cases this
theorem wpIn_round {o : Oper} {a : Act} {w : World} {K K' : Act → World → Prop} (l : Nat) (ho : ∀ c, o.op ≠ .defer c) (h : ∀ a w, K a w → K' a w) (hh : o.wpIn Fence.wide n P a w K Q) : o.wpIn (Fence.wide.inRound l) n P a w K' Q := by
  have h2 := Oper.wpIn_mono h hh
  refine ⟨h2.1, ?_⟩
  have h3 := h2.2
  rw [show Fence.wide.round = none from rfl, Oper.semAt_none] at h3
  rw [Oper.semAt_eq _ _ _ ho]
  exact h3
theorem wpAnyIn_round (l : Nat) (hnd : ∀ (i : Nat) (o : Oper), ops[i]? = some o → ∀ c, o.op ≠ .defer c) : ∀ (fuel : Nat) (listed : Array Bool) (a : Act) (w : World), wpAnyIn Fence.wide n P md ops Q fuel listed a w → wpAnyIn (Fence.wide.inRound l) n P md ops Q fuel listed a w
  | 0, _, _, _, h => h
  | fuel + 1, listed, a, w, h => ⟨h.1, fun i hi => by
      have hh := h.2 i hi
      unfold wpOpIn at hh ⊢
      cases ho : ops[i]? with
      | none => rw [ho] at hh; exact wpAnyIn_round l hnd fuel _ _ _ hh
      | some o =>
        rw [ho] at hh
        dsimp only at hh ⊢
        split
        · rename_i hw
          rw [if_pos hw] at hh
          exact wpIn_round l (hnd i o ho) (fun a w hk => wpAnyIn_round l hnd fuel _ a w hk) hh
        · rename_i hw
          rw [if_neg hw] at hh
          exact ⟨hh.1, wpAnyIn_round l hnd fuel _ _ _ hh.2⟩⟩
theorem region_quiet_round {rd id : Nat} {a : Act} {w : World} {l : List Oper} (hnd : noDefer l = true) (hm : P.follows .mixedOrders = true) (hB : Region.lexB .any l.toArray = true)
    (h : wpQuietIn Fence.wide n P l.toArray (fun w' => ∃ n, w' = w.drewN n) (fun a' => ∀ w', (∃ n, w' = w.drewN n) → Q .normal a' w') l a) : (Code.region id l.toArray true).wpIn (Fence.wide.inRound rd) n P Q a w := by
  simp only [Region.lexB, Bool.and_eq_true] at hB
  refine wpIn_region_any hm (wpAnyIn_round rd (noDefer_spec hnd) _ _ _ _ (wpAnyIn_of_quiet (C := fun w' => ∃ n, w' = w.drewN n) (Q := fun a' => ∀ w', (∃ n, w' = w.drewN n) → Q .normal a' w') rfl (fun _ w' hw' h => h w' hw') _ _ _ _ ⟨1, rfl⟩ ?_))
  have := wpAnyQIn_lex (F := Fence.wide) (n := n) (C := fun w' => ∃ n, w' = w.drewN n) (md := .any) hB.1 l 0 (Array.replicate l.toArray.size false) a (by simp) (by simpa using hB.2) h
  simpa using this
end
end Go.Proofs.YtbfkkepdeepdeaaGreatDoor
end
